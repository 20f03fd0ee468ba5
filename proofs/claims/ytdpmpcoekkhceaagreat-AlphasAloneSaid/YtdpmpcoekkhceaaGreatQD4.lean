/- SLi SLj: rules and walks, several texts in one. -/
import Derived.Test.YtdpmpcoekkhceaaGreatQD3
/- The steps of the walk: a region that draws its order. What leaves the world alone may be taken first; what changes it is met in each order that its edges let. -/
set_option linter.unusedSimpArgs false
set_option linter.unusedVariables false
set_option linter.unusedSectionVars false
namespace Go.SL
open Go
def deps (o : Oper) : List Nat := (o.after.toList.filter (Region.binds .any)).map (·.on)
def dstOf (ops : List Oper) (i : Nat) : Option Tmp := (ops[i]?).bind (·.dst)
def slotsOf (o : Oper) : List Nat := o.op.operands.toList.filterMap fun | .tmp t => some t | _ => none
def okAt (ops : List Oper) (i : Nat) (o : Oper) : Bool :=
  (deps o).all (· < i) && (match o.guard with | some (j, _) => (deps o).contains j | none => true) && (match o.dst with | some d => !(slotsOf o).contains d | none => true) &&
  (List.range ops.length).all fun j => Nat.beq i j || match dstOf ops j with
    | some d => (!(slotsOf o).contains d || (deps o).contains j || (match ops[j]? with | some oj => (deps oj).contains i | none => false)) && (match o.dst with | some e => !Nat.beq e d | none => true)
    | none => true
/-- What is asked of a region (of a written one: settled by evaluation). -/
def regOk (ops : List Oper) : Bool := (List.range ops.length).all fun i => match ops[i]? with | some o => okAt ops i o && (match o.op with | .defer _ => false | _ => true) | none => true
/-- Nobody who comes ahead looks at the slot that 'i' writes. -/
def noWar (ops : List Oper) (i : Nat) : Bool := (List.range ops.length).all fun j => Nat.beq i j || match ops[j]?, dstOf ops i with
  | some o, some d => !(slotsOf o).contains d || (deps o).contains i
  | _, _ => true
/-- Which operations may come next. -/
def nextOf (ops : List Oper) (vd : List Nat) : List Nat := (List.range ops.length).filter fun i => !vd.contains i && match ops[i]? with | some o => (deps o).all vd.contains | none => false
def dropS (ds : List Nat) (l : List (Nat × Value)) : List (Nat × Value) := l.filter fun p => !ds.contains p.1
/-- All that come ahead of 'i'. -/
def ancs (ops : List Oper) (i : Nat) : List Nat := match ops[i]? with
  | some o => (List.range i).reverse.foldl (fun acc j => if acc.contains j then (match ops[j]? with | some p => deps p ++ acc | none => acc) else acc) (deps o)
  | none => []
/-- Those that may not have come yet when 'i' comes. -/
def lateOf (ops : List Oper) (i : Nat) (pend : List (Nat × Value)) : List (Nat × Value) := pend.filter fun p => !(ancs ops i).contains p.1
def dstsOf (ops : List Oper) (pend : List (Nat × Value)) : List Nat := pend.filterMap fun p => dstOf ops p.1
/-- 'v' is what operation 'o' leaves, and it leaves the world alone; or it isn't carried out. -/
def EV (P : Program) (g : World) (ops : List Oper) (o : Oper) (Γ : Env) (L : List HP) (v : Value) : Prop :=
  (wants ops Γ.l o.guard = some true ∧ EO P g o Γ L v) ∨ (wants ops Γ.l o.guard = some false ∧ v = .tuple #[])
section
variable (P : Program) (r : Option Nat) (g : World) (ops : List Oper) (Q : Post) (n : Nat) (D : List Deferred)
/-- 'vd': those that have come, or have been taken first ('pend': these). -/
def RW : Nat → List Nat → List (Nat × Value) → List (Nat × Value) → List HP → Prop
  | 0, vd, _, l, L => nextOf ops vd = [] ∧ (∀ i, i < ops.length → i ∈ vd) ∧ PO g Q .normal ⟨n, D, l⟩ L
  | k + 1, vd, pend, l, L =>
    (∃ i o d v, ops[i]? = some o ∧ i ∉ vd ∧ (deps o).all vd.contains = true ∧ o.dst = some d ∧ d < n ∧ noWar ops i = true ∧ EV P g ops o ⟨n, D, l⟩ L v ∧ RW k (i :: vd) ((i, v) :: pend) ((d, v) :: l) L) ∨
    (nextOf ops vd ≠ [] ∧ ∀ i ∈ nextOf ops vd, ∃ o, ops[i]? = some o ∧ (∀ d, o.dst = some d → d < n) ∧
      wants ops (dropS (dstsOf ops (lateOf ops i pend)) l) o.guard = some true ∧
      HO P r g o ⟨n, D, dropS (dstsOf ops (lateOf ops i pend)) l⟩ L fun v M =>
        (∀ j u, (j, u) ∈ lateOf ops i pend → ∃ oj, ops[j]? = some oj ∧ EV P g ops oj ⟨n, D, (match o.dst with | some d => (d, v) :: l | none => l)⟩ M u) ∧
        RW k (i :: vd) (lateOf ops i pend) (match o.dst with | some d => (d, v) :: l | none => l) M)
end
section
variable {P : Program} {r : Option Nat} {g : World} {ops : List Oper} {Q : Post} {n : Nat} {D : List Deferred}
theorem look_dropS (ds : List Nat) : ∀ (l : List (Nat × Value)) (i : Nat), i ∉ ds → look (dropS ds l) i = look l i
  | [], _, _ => rfl
  | (j, v) :: l, i, h => by
    unfold dropS
    by_cases e : j = i
    · subst e
      rw [List.filter_cons_of_pos (by simpa using h)]
      simp [look]
    · by_cases hj : ds.contains j = true
      · rw [List.filter_cons_of_neg (by simpa using hj)]
        simp only [look, beq_no e]
        exact look_dropS ds l i h
      · rw [List.filter_cons_of_pos (by simpa using hj)]
        simp only [look, beq_no e]
        exact look_dropS ds l i h
theorem look_dropS_none (ds : List Nat) : ∀ (l : List (Nat × Value)) (i : Nat), i ∈ ds → look (dropS ds l) i = none
  | [], _, _ => rfl
  | (j, v) :: l, i, h => by
    unfold dropS
    by_cases hj : ds.contains j = true
    · rw [List.filter_cons_of_neg (by simpa using hj)]
      exact look_dropS_none ds l i h
    · rw [List.filter_cons_of_pos (by simpa using hj)]
      have e : j ≠ i := fun e => by subst e; exact hj (by simpa using h)
      simp only [look, beq_no e]
      exact look_dropS_none ds l i h
structure RInv (ops : List Oper) (P : Program) (g : World) (n : Nat) (D : List Deferred) (vd : List Nat) (pend l : List (Nat × Value)) (L : List HP) (listed : Array Bool) (a : Act) (w : World) : Prop where
  size : listed.size = ops.length
  sub : ∀ i : Nat, listed[i]? = some true → i ∈ vd
  closed : ∀ (i : Nat) (o : Oper), i ∈ vd → ops[i]? = some o → ∀ j ∈ deps o, j ∈ vd
  closedL : ∀ (i : Nat) (o : Oper), listed[i]? = some true → ops[i]? = some o → ∀ j ∈ deps o, listed[j]? = some true
  late : ∀ i : Nat, i ∈ vd → i < ops.length → listed[i]? = some false → noWar ops i = true ∧ ∃ v o d, (i, v) ∈ pend ∧ ops[i]? = some o ∧ o.dst = some d ∧ d < n ∧ look l d = some v
  ev : ∀ (i : Nat) (v : Value), (i, v) ∈ pend → ∃ o, ops[i]? = some o ∧ i ∈ vd ∧ EV P g ops o ⟨n, D, l⟩ L v ∧ (∀ d, o.dst = some d → look l d = some v)
  tmps : a.tmps.size = n
  defers : a.defers = D
  at_ : ∀ (t : Nat) (v : Value), look l t = some v → (∀ i : Nat, i < ops.length → listed[i]? = some false → i ∈ vd → dstOf ops i ≠ some t) → a.tmps[t]? = some v
  sat : Sat g L w
theorem regOk_at (h : regOk ops = true) {i : Nat} {o : Oper} (hi : ops[i]? = some o) : okAt ops i o = true ∧ ∀ c, o.op ≠ .defer c := by
  have hlt : i < ops.length := by
    rcases Nat.lt_or_ge i ops.length with h' | h'
    · exact h'
    · rw [List.getElem?_eq_none h'] at hi; cases hi
  have := List.all_eq_true.1 h i (by simpa using hlt)
  rw [hi] at this
  simp only [Bool.and_eq_true] at this
  refine ⟨this.1, fun c e => ?_⟩
  have h2 := this.2
  rw [e] at h2; cases h2
theorem ok_dep (h : regOk ops = true) {i j : Nat} {o : Oper} (hi : ops[i]? = some o) (hj : j ∈ deps o) : j < i := by
  have := (regOk_at h hi).1
  unfold okAt at this
  simp only [Bool.and_eq_true] at this
  have := List.all_eq_true.1 this.1.1.1 j hj
  simpa using this
theorem ok_guard (h : regOk ops = true) {i j : Nat} {b : Bool} {o : Oper} (hi : ops[i]? = some o) (hg : o.guard = some (j, b)) : j ∈ deps o := by
  have := (regOk_at h hi).1
  unfold okAt at this
  simp only [Bool.and_eq_true] at this
  have := this.1.1.2
  rw [hg] at this
  simpa using this
theorem ok_own (h : regOk ops = true) {i d : Nat} {o : Oper} (hi : ops[i]? = some o) (hd : o.dst = some d) : d ∉ slotsOf o := by
  have := (regOk_at h hi).1
  unfold okAt at this
  simp only [Bool.and_eq_true] at this
  have := this.1.2
  rw [hd] at this
  simpa using this
theorem ok_dst (h : regOk ops = true) {i j d : Nat} {o : Oper} (hi : ops[i]? = some o) (hne : i ≠ j) (hd : dstOf ops j = some d) : o.dst ≠ some d := by
  have := (regOk_at h hi).1
  unfold okAt at this
  simp only [Bool.and_eq_true] at this
  have hj : j < ops.length := by
    rcases Nat.lt_or_ge j ops.length with h' | h'
    · exact h'
    · simp [dstOf, List.getElem?_eq_none h'] at hd
  have := List.all_eq_true.1 this.2 j (by simpa using hj)
  rw [hd] at this
  simp only [Bool.or_eq_true, Bool.and_eq_true, beq_no hne, Bool.false_eq_true, false_or] at this
  intro he
  have h2 := this.2
  rw [he] at h2
  simp at h2
theorem noWar_slot {i j d : Nat} {o : Oper} (h : noWar ops j = true) (hi : ops[i]? = some o) (hne : i ≠ j) (hd : dstOf ops j = some d) (hs : d ∈ slotsOf o) : j ∈ deps o := by
  have hlt : i < ops.length := by
    rcases Nat.lt_or_ge i ops.length with h' | h'
    · exact h'
    · rw [List.getElem?_eq_none h'] at hi; cases hi
  have := List.all_eq_true.1 h i (by simpa using hlt)
  rw [hi, hd, beq_no (Ne.symm hne)] at this
  simp only [Bool.false_or, Bool.or_eq_true, Bool.not_eq_true', List.contains_eq_mem, decide_eq_false_iff_not, decide_eq_true_eq] at this
  rcases this with h' | h'
  · exact absurd hs h'
  · exact h'
theorem mem_slots {o : Oper} {t : Nat} (h : .tmp t ∈ o.op.operands) : t ∈ slotsOf o := by
  unfold slotsOf
  exact List.mem_filterMap.2 ⟨.tmp t, by simpa using h, rfl⟩
theorem listed_getD {listed : Array Bool} {i : Nat} {d : Bool} (h : i < listed.size) : listed.getD i d = true ↔ listed[i]? = some true := by
  simp [Array.getD, h]
theorem ready_iff {listed : Array Bool} (hs : listed.size = ops.length) {i : Nat} : i ∈ Region.ready .any ops.toArray listed ↔ ∃ o, ops[i]? = some o ∧ listed[i]? = some false ∧ ∀ j ∈ deps o, listed.getD j false = true := by
  unfold Region.ready
  simp only [List.size_toArray, List.mem_filter, List.mem_range, List.getElem?_toArray]
  constructor
  · rintro ⟨hlt, h⟩
    rw [List.getElem?_eq_getElem hlt] at h ⊢
    simp only [Bool.and_eq_true, Option.map_some, Option.getD_some] at h
    refine ⟨_, rfl, ?_, fun j hj => ?_⟩
    · have h1 := h.1
      have hl : i < listed.size := by omega
      simp [Array.getD, hl] at h1
      rw [Array.getElem?_eq_getElem hl, h1]
    · unfold deps at hj
      obtain ⟨e, he, rfl⟩ := List.mem_map.1 hj
      obtain ⟨he1, he2⟩ := List.mem_filter.1 he
      have := Array.all_eq_true'.1 h.2 e (by simpa using he1)
      simpa [he2] using this
  · rintro ⟨o, ho, hl, hd⟩
    have hlt : i < ops.length := by
      rcases Nat.lt_or_ge i ops.length with h' | h'
      · exact h'
      · rw [List.getElem?_eq_none h'] at ho; cases ho
    refine ⟨hlt, ?_⟩
    rw [ho]
    simp only [Bool.and_eq_true, Option.map_some, Option.getD_some]
    refine ⟨?_, ?_⟩
    · have hl' : i < listed.size := by omega
      simp [Array.getD, hl']
      rw [Array.getElem?_eq_getElem hl'] at hl
      simpa using hl
    · rw [Array.all_eq_true']
      intro e he
      by_cases hb : Region.binds .any e = true
      · have := hd e.on (List.mem_map.2 ⟨e, List.mem_filter.2 ⟨by simpa using he, hb⟩, rfl⟩)
        simp [this]
      · simp [hb]
/-- If none may come up, all have. -/
theorem all_listed (h : regOk ops = true) {listed : Array Bool} (hs : listed.size = ops.length) (hr : Region.ready .any ops.toArray listed = []) : ∀ i, i < ops.length → listed[i]? = some true := by
  intro i
  induction i using Nat.strongRecOn with
  | _ i ih =>
    intro hi
    cases hl : listed[i]? with
    | none => rw [Array.getElem?_eq_none_iff] at hl; omega
    | some b =>
      cases b with
      | true => rfl
      | false =>
        exfalso
        have : i ∈ Region.ready .any ops.toArray listed := (ready_iff hs).2 ⟨ops[i], List.getElem?_eq_getElem hi, hl, fun j hj => by
          have hji := ok_dep h (List.getElem?_eq_getElem hi) hj
          exact (listed_getD (by omega)).2 (ih j hji (by omega))⟩
        rw [hr] at this; cases this
variable {vd : List Nat} {pend l : List (Nat × Value)} {L : List HP} {listed : Array Bool} {a : Act} {w : World}
theorem ev_mono {Γ : Env} {o : Oper} {v : Value} {l' : List (Nat × Value)} (hs : ∀ t ∈ slotsOf o, look l' t = look Γ.l t) (hg : wants ops l' o.guard = wants ops Γ.l o.guard) (h : EV P g ops o Γ L v) : EV P g ops o ⟨Γ.n, Γ.D, l'⟩ L v := by
  rcases h with ⟨h1, h2⟩ | ⟨h1, h2⟩
  · refine .inl ⟨hg.trans h1, fun ρ w hρ hw => h2 ρ w (fun x u hx hu => hρ x u hx ?_) hw⟩
    cases x with
    | tmp t => exact (hs t (mem_slots hx)).trans hu
    | const c => exact hu
    | global c => exact hu
    | func c => exact hu
  · exact .inr ⟨hg.trans h1, h2⟩
theorem wants_congr {o : Oper} {l l' : List (Nat × Value)} (h : ∀ j b d, o.guard = some (j, b) → dstOf ops j = some d → look l' d = look l d) : wants ops l' o.guard = wants ops l o.guard := by
  unfold wants
  cases hg : o.guard with
  | none => rfl
  | some x =>
    obtain ⟨j, b⟩ := x
    simp only
    cases hd : (ops[j]?).bind (·.dst) with
    | none => rfl
    | some d => simp only [Option.bind_some]; rw [h j b d hg hd]
/-- A slot that an operation which may come up looks at holds what is known of it. -/
theorem RInv.see (h : RInv ops P g n D vd pend l L listed a w) (hok : regOk ops = true) {i : Nat} {o : Oper} (ho : ops[i]? = some o) (hi : listed[i]? = some false) (hr : ∀ j ∈ deps o, listed[j]? = some true) {t : Nat} (ht : t ∈ slotsOf o ∨ ∃ j b, o.guard = some (j, b) ∧ dstOf ops j = some t) {v : Value} (hv : look l t = some v) : a.tmps[t]? = some v := by
  refine h.at_ t v hv fun j hj hl hjv he => ?_
  have hne : i ≠ j ∨ i = j := by omega
  rcases ht with ht | ⟨q, b, hq, hd⟩
  · rcases hne with hne | rfl
    · have := hr j (noWar_slot (h.late j hjv hj hl).1 ho hne he ht)
      rw [this] at hl; cases hl
    · have : o.dst = some t := by unfold dstOf at he; rw [ho] at he; simpa using he
      exact ok_own hok ho this ht
  · have hqd := ok_guard hok ho hq
    have := hr q hqd
    by_cases e : j = q
    · subst e; rw [this] at hl; cases hl
    · have hoj : ∃ oj, ops[j]? = some oj := ⟨ops[j], List.getElem?_eq_getElem hj⟩
      obtain ⟨oj, hoj⟩ := hoj
      have : oj.dst = some t := by unfold dstOf at he; rw [hoj] at he; simpa using he
      exact ok_dst hok hoj e hd this
theorem wants_see (h : RInv ops P g n D vd pend l L listed a w) (hok : regOk ops = true) {i : Nat} {o : Oper} (ho : ops[i]? = some o) (hi : listed[i]? = some false) (hr : ∀ j ∈ deps o, listed[j]? = some true) {b : Bool} (hw : wants ops l o.guard = some b) : Region.wanted o (yielded ops.toArray a.tmps) = b := by
  unfold wants at hw; unfold Region.wanted
  cases hg : o.guard with
  | none => rw [hg] at hw; simpa using hw
  | some x =>
    obtain ⟨j, c⟩ := x
    rw [hg] at hw
    simp only at hw ⊢
    unfold yielded
    simp only [List.getElem?_toArray]
    cases hd : (ops[j]?).bind (·.dst) with
    | none => rw [hd] at hw; simp at hw
    | some d =>
      rw [hd] at hw
      simp only [Option.bind_some] at hw ⊢
      cases hv : look l d with
      | none => rw [hv] at hw; simp at hw
      | some v =>
        rw [hv] at hw
        rw [h.see hok ho hi hr (.inr ⟨j, c, hg, hd⟩) hv]
        cases v <;> simp_all
theorem set_at {i j : Nat} (hs : i < listed.size) : (listed.setIfInBounds i true)[j]? = if i = j then some true else listed[j]? := by
  by_cases e : i = j
  · subst e; simp [hs]
  · rw [Array.getElem?_setIfInBounds_ne e, if_neg e]
theorem put_at {a : Act} {o : Oper} {v : Value} {t : Nat} (hd : ∀ d, o.dst = some d → d < a.tmps.size) : (a.put o.dst v).tmps[t]? = if o.dst = some t then some v else a.tmps[t]? := by
  cases ho : o.dst with
  | none => simp [Act.put]
  | some d =>
    have := hd d ho
    by_cases e : d = t
    · subst e; simp [Act.put, this]
    · simp [Act.put, Array.getElem?_setIfInBounds_ne e, e]
theorem put_size {a : Act} {o : Oper} {v : Value} : (a.put o.dst v).tmps.size = a.tmps.size := by cases o.dst <;> simp [Act.put]
theorem put_defers' {a : Act} {o : Oper} {v : Value} : (a.put o.dst v).defers = a.defers := by cases o.dst <;> simp [Act.put]
/-- One that was taken first comes. -/
theorem RInv.comes (h : RInv ops P g n D vd pend l L listed a w) (hok : regOk ops = true) {i : Nat} {o : Oper} {v : Value} (ho : ops[i]? = some o) (hi : listed[i]? = some false) (hr : ∀ j ∈ deps o, listed[j]? = some true) (hv : i ∈ vd) (hd : ∀ d, o.dst = some d → d < n ∧ look l d = some v) :
    RInv ops P g n D vd pend l L (listed.setIfInBounds i true) (a.put o.dst v) w := by
  have hil : i < listed.size := by
    rcases Nat.lt_or_ge i listed.size with h' | h'
    · exact h'
    · rw [Array.getElem?_eq_none h'] at hi; cases hi
  refine ⟨by simpa using h.size, fun j hj => ?_, h.closed, fun j oj hj hoj q hq => ?_, fun j hj hlt hl => ?_, h.ev, by rw [put_size]; exact h.tmps, by rw [put_defers']; exact h.defers, fun t u hu hno => ?_, h.sat⟩
  · rw [set_at hil] at hj
    by_cases e : i = j
    · subst e; exact hv
    · rw [if_neg e] at hj; exact h.sub j hj
  · rw [set_at hil] at hj ⊢
    by_cases e : i = j
    · subst e; rw [ho] at hoj; cases hoj
      have := hr q hq
      by_cases e2 : i = q
      · rw [if_pos e2]
      · rw [if_neg e2]; exact this
    · rw [if_neg e] at hj
      have := h.closedL j oj hj hoj q hq
      by_cases e2 : i = q
      · rw [if_pos e2]
      · rw [if_neg e2]; exact this
  · rw [set_at hil] at hl
    by_cases e : i = j
    · rw [if_pos e] at hl; cases hl
    · rw [if_neg e] at hl; exact h.late j hj hlt hl
  · rw [put_at (fun d hd' => by rw [h.tmps]; exact (hd d hd').1)]
    by_cases e : o.dst = some t
    · rw [if_pos e]; have := (hd t e).2; rw [this] at hu; exact hu
    · rw [if_neg e]
      refine h.at_ t u hu fun j hj hl hjv he => ?_
      by_cases e2 : i = j
      · subst e2; exact e (by unfold dstOf at he; rw [ho] at he; simpa using he)
      · exact hno j hj (by rw [set_at hil, if_neg e2]; exact hl) hjv he
/-- One is taken first. -/
theorem RInv.first (h : RInv ops P g n D vd pend l L listed a w) (hok : regOk ops = true) {i d : Nat} {o : Oper} {v : Value} (ho : ops[i]? = some o) (hi : i ∉ vd) (hr : ∀ j ∈ deps o, j ∈ vd) (hd : o.dst = some d) (hdn : d < n) (hnw : noWar ops i = true) (he : EV P g ops o ⟨n, D, l⟩ L v) :
    RInv ops P g n D (i :: vd) ((i, v) :: pend) ((d, v) :: l) L listed a w := by
  have hilt : i < ops.length := by
    rcases Nat.lt_or_ge i ops.length with h' | h'
    · exact h'
    · rw [List.getElem?_eq_none h'] at ho; cases ho
  have hds : dstOf ops i = some d := by unfold dstOf; rw [ho]; simpa using hd
  have hfalse : listed[i]? = some false := by
    have hil : i < listed.size := by rw [h.size]; exact hilt
    cases hb : listed[i]? with
    | none => rw [Array.getElem?_eq_none_iff] at hb; omega
    | some b => cases b with
      | false => rfl
      | true => exact absurd (h.sub i hb) hi
  -- nobody who has been taken looks at the slot d
  have hfree : ∀ (j : Nat) oj, j ∈ vd → ops[j]? = some oj → d ∉ slotsOf oj ∧ (∀ q b, oj.guard = some (q, b) → dstOf ops q ≠ some d) ∧ oj.dst ≠ some d := by
    intro j oj hj hoj
    have hne : j ≠ i := fun e => by subst e; exact hi hj
    refine ⟨fun hs => hi (h.closed j oj hj hoj i (noWar_slot hnw hoj hne hds hs)), fun q b hq hqd => ?_, ok_dst hok hoj hne hds⟩
    have hqv := h.closed j oj hj hoj q (ok_guard hok hoj hq)
    have hqi : q ≠ i := fun e => by subst e; exact hi hqv
    obtain ⟨oq, hoq⟩ : ∃ oq, ops[q]? = some oq := by
      cases hoq : ops[q]? with
      | none => simp [dstOf, hoq] at hqd
      | some oq => exact ⟨oq, rfl⟩
    have : oq.dst = some d := by unfold dstOf at hqd; rw [hoq] at hqd; simpa using hqd
    exact ok_dst hok hoq hqi hds this
  have hlook : ∀ t, t ≠ d → look ((d, v) :: l) t = look l t := fun t ht => by simp only [look]; rw [beq_no (Ne.symm ht)]
  have hevm : ∀ (j : Nat) oj u, ops[j]? = some oj → (j ∈ vd ∨ j = i) → EV P g ops oj ⟨n, D, l⟩ L u → EV P g ops oj ⟨n, D, (d, v) :: l⟩ L u := by
    intro j oj u hoj hj hev
    have hf : d ∉ slotsOf oj ∧ (∀ q b, oj.guard = some (q, b) → dstOf ops q ≠ some d) := by
      rcases hj with hj | rfl
      · exact ⟨(hfree j oj hj hoj).1, (hfree j oj hj hoj).2.1⟩
      · rw [ho] at hoj; cases hoj
        refine ⟨ok_own hok ho hd, fun q b hq hqd => ?_⟩
        have hqv := hr q (ok_guard hok ho hq)
        obtain ⟨oq, hoq⟩ : ∃ oq, ops[q]? = some oq := by
          cases hoq : ops[q]? with
          | none => simp [dstOf, hoq] at hqd
          | some oq => exact ⟨oq, rfl⟩
        exact (hfree q oq hqv hoq).2.2 (by unfold dstOf at hqd; rw [hoq] at hqd; simpa using hqd)
    refine ev_mono (Γ := ⟨n, D, l⟩) (fun t ht => hlook t (fun e => by subst e; exact hf.1 ht)) (wants_congr fun q b t hq ht => hlook t (fun e => by subst e; exact hf.2 q b hq ht)) hev
  refine ⟨h.size, fun j hj => List.mem_cons_of_mem _ (h.sub j hj), fun j oj hj hoj q hq => ?_, h.closedL, fun j hj hlt hl => ?_, fun j u hj => ?_, h.tmps, h.defers, fun t u hu hno => ?_, h.sat⟩
  · rcases List.mem_cons.1 hj with rfl | hj
    · rw [ho] at hoj; cases hoj; exact List.mem_cons_of_mem _ (hr q hq)
    · exact List.mem_cons_of_mem _ (h.closed j oj hj hoj q hq)
  · rcases List.mem_cons.1 hj with rfl | hj
    · exact ⟨hnw, v, o, d, by simp, ho, hd, hdn, by simp [look]⟩
    · obtain ⟨h0, u, oj, dj, h1, h2, h3, h4, h5⟩ := h.late j hj hlt hl
      have hne : dj ≠ d := fun e => by subst e; exact (hfree j oj hj h2).2.2 h3
      exact ⟨h0, u, oj, dj, List.mem_cons_of_mem _ h1, h2, h3, h4, by rw [hlook _ hne]; exact h5⟩
  · rcases List.mem_cons.1 hj with e | hj
    · cases e
      exact ⟨o, ho, by simp, hevm i o v ho (.inr rfl) he, fun d' hd' => by rw [hd] at hd'; cases hd'; simp [look]⟩
    · obtain ⟨oj, h1, h2, h3, h4⟩ := h.ev j u hj
      refine ⟨oj, h1, List.mem_cons_of_mem _ h2, hevm j oj u h1 (.inl h2) h3, fun d' hd' => ?_⟩
      have hne : d' ≠ d := fun e => by subst e; exact (hfree j oj h2 h1).2.2 hd'
      rw [hlook _ hne]; exact h4 d' hd'
  · by_cases e : t = d
    · subst e
      exact absurd hds (hno i hilt hfalse (by simp))
    · rw [hlook t e] at hu
      exact h.at_ t u hu fun j hj hl hjv => hno j hj hl (List.mem_cons_of_mem _ hjv)
theorem countP_set : ∀ (l : List Bool) (i : Nat), l[i]? = some false → (l.set i true).countP (fun b => !b) + 1 = l.countP (fun b => !b)
  | [], i, h => by simp at h
  | b :: l, 0, h => by simp at h; subst h; simp
  | b :: l, i + 1, h => by
    simp only [List.getElem?_cons_succ] at h
    simp only [List.set_cons_succ, List.countP_cons]
    have := countP_set l i h; omega
theorem countP_pos' : ∀ (l : List Bool) (i : Nat), l[i]? = some false → 0 < l.countP (fun b => !b) := fun l i h => by
  rw [List.countP_pos_iff]
  exact ⟨false, List.mem_of_getElem? h, rfl⟩
theorem RW.sound (hok : regOk ops = true) : ∀ (fuel k : Nat) (vd : List Nat) (pend l : List (Nat × Value)) (L : List HP) (listed : Array Bool) (a : Act) (w : World), RW P r g ops Q n D k vd pend l L → RInv ops P g n D vd pend l L listed a w →
    listed.toList.countP (fun b => !b) ≤ fuel → wpAnyIn (FR r) 0 P .any ops.toArray Q fuel listed a w := by
  intro fuel
  induction fuel with
  | zero =>
    intro k
    induction k with
    | zero =>
      intro vd pend l L listed a w ⟨_, hall, hQ⟩ hI hc
      have hl : ∀ i, i < ops.length → listed[i]? = some true := fun i hi => by
        cases hb : listed[i]? with
        | none => rw [Array.getElem?_eq_none_iff] at hb; have := hI.size; omega
        | some b => cases b with
          | true => rfl
          | false => have := countP_pos' listed.toList i (by simpa using hb); omega
      refine ⟨?_, hQ a w ⟨hI.tmps, hI.defers, fun t v hv => hI.at_ t v hv fun j hj hl' _ => by rw [hl j hj] at hl'; cases hl'⟩ hI.sat⟩
      rw [List.eq_nil_iff_forall_not_mem]
      intro i hi
      obtain ⟨o, ho, hf, _⟩ := (ready_iff hI.size).1 hi
      have hlt : i < ops.length := by
        rcases Nat.lt_or_ge i ops.length with h' | h'
        · exact h'
        · rw [List.getElem?_eq_none h'] at ho; cases ho
      rw [hl i hlt] at hf; cases hf
    | succ k ih =>
      intro vd pend l L listed a w h hI hc
      rcases h with ⟨i, o, d, v, ho, hi, hr, hd, hdn, hnw, he, hrw⟩ | ⟨hne, hall⟩
      · exact ih _ _ _ _ listed a w hrw (hI.first hok ho hi (by simpa using List.all_eq_true.1 hr) hd hdn hnw he) hc
      · exfalso
        obtain ⟨i, hi⟩ := List.exists_mem_of_ne_nil _ hne
        obtain ⟨o, ho, _⟩ := hall i hi
        unfold nextOf at hi
        simp only [List.mem_filter, List.mem_range, Bool.and_eq_true] at hi
        have hiv : i ∉ vd := by simpa using hi.2.1
        cases hb : listed[i]? with
        | none => rw [Array.getElem?_eq_none_iff] at hb; have := hI.size; omega
        | some b => cases b with
          | true => exact hiv (hI.sub i hb)
          | false => have := countP_pos' listed.toList i (by simpa using hb); omega
  | succ fuel ihf =>
    intro k
    induction k with
    | zero =>
      intro vd pend l L listed a w h hI hc
      have h0 := h
      obtain ⟨_, hall, hQ⟩ := h
      refine ⟨fun hr => ?_, fun i hi => ?_⟩
      · have hl := all_listed hok hI.size hr
        exact hQ a w ⟨hI.tmps, hI.defers, fun t v hv => hI.at_ t v hv fun j hj hl' _ => by rw [hl j hj] at hl'; cases hl'⟩ hI.sat
      · obtain ⟨o, ho, hf, hdp⟩ := (ready_iff hI.size).1 hi
        exact pending (k := 0) ihf hok hI h0 hc ho hf hdp (hall i (by
          rcases Nat.lt_or_ge i ops.length with h' | h'
          · exact h'
          · rw [List.getElem?_eq_none h'] at ho; cases ho))
    | succ k ih =>
      intro vd pend l L listed a w h hI hc
      rcases h with ⟨i, o, d, v, ho, hi, hr, hd, hdn, hnw, he, hrw⟩ | ⟨hne, hall⟩
      · exact ih _ _ _ _ listed a w hrw (hI.first hok ho hi (by simpa using List.all_eq_true.1 hr) hd hdn hnw he) hc
      · refine ⟨fun hr => ?_, fun i hi => ?_⟩
        · exfalso
          have hl := all_listed hok hI.size hr
          obtain ⟨i, hi⟩ := List.exists_mem_of_ne_nil _ hne
          unfold nextOf at hi
          simp only [List.mem_filter, List.mem_range, Bool.and_eq_true] at hi
          have hiv : i ∉ vd := by simpa using hi.2.1
          exact hiv (hI.sub i (hl i hi.1))
        · obtain ⟨o, ho, hf, hdp⟩ := (ready_iff hI.size).1 hi
          have hlt : i < ops.length := by
            rcases Nat.lt_or_ge i ops.length with h' | h'
            · exact h'
            · rw [List.getElem?_eq_none h'] at ho; cases ho
          by_cases hiv : i ∈ vd
          · exact pending (k := k + 1) ihf hok hI (.inr ⟨hne, hall⟩) hc ho hf hdp hiv
          · exact fresh ihf hok hI hc ho hf hdp hiv hlt (hall i (by
              unfold nextOf
              simp only [List.mem_filter, List.mem_range, Bool.and_eq_true]
              refine ⟨hlt, by simpa using hiv, ?_⟩
              rw [ho]
              rw [List.all_eq_true]
              intro j hj
              have hjl := ok_dep hok ho hj
              simpa using hI.sub j ((listed_getD (by rw [hI.size]; omega)).1 (hdp j hj))))
where
  dep_listed {vd : List Nat} {pend l : List (Nat × Value)} {L : List HP} {listed : Array Bool} {a : Act} {w : World} (hok : regOk ops = true) (hI : RInv ops P g n D vd pend l L listed a w) {i : Nat} {o : Oper} (ho : ops[i]? = some o) (hf : listed[i]? = some false) (hdp : ∀ j ∈ deps o, listed.getD j false = true) : ∀ j ∈ deps o, listed[j]? = some true := fun j hj => by
    have hjl := ok_dep hok ho hj
    have hil : i < listed.size := by
      rcases Nat.lt_or_ge i listed.size with h' | h'
      · exact h'
      · rw [Array.getElem?_eq_none h'] at hf; cases hf
    exact (listed_getD (by omega)).1 (hdp j hj)
  pending {fuel k : Nat} {vd : List Nat} {pend l : List (Nat × Value)} {L : List HP} {listed : Array Bool} {a : Act} {w : World}
      (ihf : ∀ (k : Nat) (vd : List Nat) (pend l : List (Nat × Value)) (L : List HP) (listed : Array Bool) (a : Act) (w : World), RW P r g ops Q n D k vd pend l L → RInv ops P g n D vd pend l L listed a w → listed.toList.countP (fun b => !b) ≤ fuel → wpAnyIn (FR r) 0 P .any ops.toArray Q fuel listed a w)
      (hok : regOk ops = true) (hI : RInv ops P g n D vd pend l L listed a w) (hrw : RW P r g ops Q n D k vd pend l L) (hc : listed.toList.countP (fun b => !b) ≤ fuel + 1) {i : Nat} {o : Oper} (ho : ops[i]? = some o) (hf : listed[i]? = some false) (hdp : ∀ j ∈ deps o, listed.getD j false = true) (hiv : i ∈ vd) :
      wpOpIn (FR r) 0 P ops.toArray Q i (wpAnyIn (FR r) 0 P .any ops.toArray Q fuel (listed.setIfInBounds i true)) a w := by
    have hdl := dep_listed hok hI ho hf hdp
    have hlt : i < ops.length := by
      rcases Nat.lt_or_ge i ops.length with h' | h'
      · exact h'
      · rw [List.getElem?_eq_none h'] at ho; cases ho
    obtain ⟨_, v, o', d, hp, ho', hd, hdn, hlk⟩ := hI.late i hiv hlt hf
    rw [ho] at ho'; cases ho'
    obtain ⟨o', ho', _, hev, _⟩ := hI.ev i v hp
    rw [ho] at ho'; cases ho'
    have hI' := hI.comes hok ho hf hdl hiv (fun d' hd' => by rw [hd] at hd'; cases hd'; exact ⟨hdn, hlk⟩)
    have hc' : (listed.setIfInBounds i true).toList.countP (fun b => !b) ≤ fuel := by
      rw [Array.toList_setIfInBounds]
      have := countP_set listed.toList i (by simpa using hf); omega
    have hnext := ihf k vd pend l L _ _ w hrw hI' hc'
    unfold wpOpIn
    simp only [List.getElem?_toArray, ho]
    rcases hev with ⟨hw, he⟩ | ⟨hw, rfl⟩
    · rw [if_pos (wants_see hI hok ho hf hdl hw)]
      obtain ⟨hrun, hop⟩ := he a.eval w (fun x u hx hu => by
        cases x with
        | tmp t => have := hI.see hok ho hf hdl (.inl (mem_slots hx)) hu; simp [Act.eval, this]
        | const c => simpa [SL.ev, Act.eval] using hu
        | global c => simpa [SL.ev, Act.eval] using hu
        | func c => simpa [SL.ev, Act.eval] using hu) hI.sat
      refine ⟨about_FR, ?_⟩
      rw [Oper.semAt_eq _ _ _ hop, hrun]
      exact hnext
    · rw [if_neg (by rw [wants_see hI hok ho hf hdl hw]; simp)]
      exact ⟨about_FR, hnext⟩
  fresh {fuel k : Nat} {vd : List Nat} {pend l : List (Nat × Value)} {L : List HP} {listed : Array Bool} {a : Act} {w : World}
      (ihf : ∀ (k : Nat) (vd : List Nat) (pend l : List (Nat × Value)) (L : List HP) (listed : Array Bool) (a : Act) (w : World), RW P r g ops Q n D k vd pend l L → RInv ops P g n D vd pend l L listed a w → listed.toList.countP (fun b => !b) ≤ fuel → wpAnyIn (FR r) 0 P .any ops.toArray Q fuel listed a w)
      (hok : regOk ops = true) (hI : RInv ops P g n D vd pend l L listed a w) (hc : listed.toList.countP (fun b => !b) ≤ fuel + 1) {i : Nat} {o : Oper} (ho : ops[i]? = some o) (hf : listed[i]? = some false) (hdp : ∀ j ∈ deps o, listed.getD j false = true) (hiv : i ∉ vd) (hlt : i < ops.length)
      (hall : ∃ o, ops[i]? = some o ∧ (∀ d, o.dst = some d → d < n) ∧ wants ops (dropS (dstsOf ops (lateOf ops i pend)) l) o.guard = some true ∧
        HO P r g o ⟨n, D, dropS (dstsOf ops (lateOf ops i pend)) l⟩ L fun v M => (∀ j u, (j, u) ∈ lateOf ops i pend → ∃ oj, ops[j]? = some oj ∧ EV P g ops oj ⟨n, D, (match o.dst with | some d => (d, v) :: l | none => l)⟩ M u) ∧ RW P r g ops Q n D k (i :: vd) (lateOf ops i pend) (match o.dst with | some d => (d, v) :: l | none => l) M) :
      wpOpIn (FR r) 0 P ops.toArray Q i (wpAnyIn (FR r) 0 P .any ops.toArray Q fuel (listed.setIfInBounds i true)) a w := by
    have hdl := dep_listed hok hI ho hf hdp
    obtain ⟨o', ho', hdn, hwt, hh⟩ := hall
    rw [ho] at ho'; cases ho'
    have hlate : lateOf ops i pend = pend.filter fun p => !(ancs ops i).contains p.1 := rfl
    have hanc : ∀ j, j ∈ ancs ops i → listed[j]? = some true := by
      have key : ∀ (l acc : List Nat), (∀ j ∈ acc, listed[j]? = some true) → ∀ j ∈ l.foldl (fun acc j => if acc.contains j then (match ops[j]? with | some p => deps p ++ acc | none => acc) else acc) acc, listed[j]? = some true := by
        intro l
        induction l with
        | nil => exact fun acc h => h
        | cons x l ih =>
          intro acc h
          refine ih _ ?_
          show ∀ j ∈ (if acc.contains x = true then _ else _), listed[j]? = some true
          by_cases hx : acc.contains x = true
          · rw [if_pos hx]
            cases hp : ops[x]? with
            | none => exact h
            | some p =>
              intro j hj
              rcases List.mem_append.1 hj with hj | hj
              · exact hI.closedL x p (h x (by simpa using hx)) hp j hj
              · exact h j hj
          · rw [if_neg hx]; exact h
      unfold ancs
      rw [ho]
      exact key _ _ hdl
    have hil : i < listed.size := by rw [hI.size]; exact hlt
    -- those that have not come are among the late ones
    have hpl : ∀ (j : Nat) u, (j, u) ∈ pend → listed[j]? = some false → (j, u) ∈ lateOf ops i pend := fun j u hj hl => by
      rw [hlate]
      refine List.mem_filter.2 ⟨hj, ?_⟩
      simp only [Bool.not_eq_true', List.contains_eq_mem, decide_eq_false_iff_not]
      intro hm
      rw [hanc j hm] at hl; cases hl
    have hmem : ∀ (j : Nat), j < ops.length → listed[j]? = some false → j ∈ vd → ∀ t, dstOf ops j = some t → t ∈ dstsOf ops (lateOf ops i pend) := fun j hj hl hjv t ht => by
      obtain ⟨_, u, oj, dj, h1, h2, h3, h4, h5⟩ := hI.late j hjv hj hl
      exact List.mem_filterMap.2 ⟨(j, u), hpl j u h1 hl, ht⟩
    have hΓ : Env.ok ⟨n, D, dropS (dstsOf ops (lateOf ops i pend)) l⟩ a := ⟨hI.tmps, hI.defers, fun t v hv => by
      by_cases ht : t ∈ dstsOf ops (lateOf ops i pend)
      · rw [look_dropS_none _ _ _ ht] at hv; cases hv
      · rw [look_dropS _ _ _ ht] at hv
        exact hI.at_ t v hv fun j hj hl hjv he => ht (hmem j hj hl hjv t he)⟩
    unfold wpOpIn
    simp only [List.getElem?_toArray, ho]
    rw [if_pos (wants_ok (Γ := ⟨n, D, dropS (dstsOf ops (lateOf ops i pend)) l⟩) hwt hΓ)]
    refine hh a w Q _ hΓ hI.sat fun v M w' hk hw' => ?_
    obtain ⟨hpe, hrw⟩ := hk
    have hc' : (listed.setIfInBounds i true).toList.countP (fun b => !b) ≤ fuel := by
      rw [Array.toList_setIfInBounds]
      have := countP_set listed.toList i (by simpa using hf); omega
    refine ihf k _ _ _ _ _ _ w' hrw ?_ hc'
    generalize hl' : (match o.dst with | some d => (d, v) :: l | none => l) = l' at hrw hpe
    have hlook : ∀ t, o.dst ≠ some t → look l' t = look l t := fun t ht => by
      subst hl'
      cases hd : o.dst with
      | none => rfl
      | some d => simp only [look]; rw [beq_no (fun e => ht (by rw [hd, e]))]
    have hlookd : ∀ d, o.dst = some d → look l' d = some v := fun d hd => by subst hl'; rw [hd]; simp [look]
    have hdst : ∀ (j : Nat) oj d, ops[j]? = some oj → j ≠ i → oj.dst = some d → o.dst ≠ some d := fun j oj d hoj hne hd => by
      exact ok_dst hok ho (Ne.symm hne) (by unfold dstOf; rw [hoj]; simpa using hd)
    refine ⟨by simpa using hI.size, fun j hj => ?_, fun j oj hj hoj q hq => ?_, fun j oj hj hoj q hq => ?_, fun j hj hjlt hl => ?_, fun j u hj => ?_, by rw [put_size]; exact hI.tmps, by rw [put_defers']; exact hI.defers, fun t u hu hno => ?_, hw'⟩
    · rw [set_at hil] at hj
      by_cases e : i = j
      · subst e; simp
      · rw [if_neg e] at hj; exact List.mem_cons_of_mem _ (hI.sub j hj)
    · rcases List.mem_cons.1 hj with rfl | hj
      · rw [ho] at hoj; cases hoj; exact List.mem_cons_of_mem _ (hI.sub q (hdl q hq))
      · exact List.mem_cons_of_mem _ (hI.closed j oj hj hoj q hq)
    · rw [set_at hil] at hj ⊢
      by_cases e2 : i = q
      · rw [if_pos e2]
      · rw [if_neg e2]
        by_cases e : i = j
        · subst e; rw [ho] at hoj; cases hoj; exact hdl q hq
        · rw [if_neg e] at hj; exact hI.closedL j oj hj hoj q hq
    · rw [set_at hil] at hl
      by_cases e : i = j
      · rw [if_pos e] at hl; cases hl
      · rw [if_neg e] at hl
        rcases List.mem_cons.1 hj with rfl | hj
        · exact absurd rfl e
        · obtain ⟨h0, u, oj, dj, h1, h2, h3, h4, h5⟩ := hI.late j hj hjlt hl
          exact ⟨h0, u, oj, dj, hpl j u h1 hl, h2, h3, h4, by rw [hlook _ (hdst j oj dj h2 (Ne.symm e) h3)]; exact h5⟩
    · have hjp : (j, u) ∈ pend := by rw [hlate] at hj; exact (List.mem_filter.1 hj).1
      obtain ⟨oj, h1, h2, _, h4⟩ := hI.ev j u hjp
      obtain ⟨oj', h1', h3'⟩ := hpe j u hj
      rw [h1] at h1'; cases h1'
      have hne : j ≠ i := fun e => by subst e; exact hiv h2
      exact ⟨oj, h1, List.mem_cons_of_mem _ h2, h3', fun d hd => by rw [hlook _ (hdst j oj d h1 hne hd)]; exact h4 d hd⟩
    · rw [put_at (fun d hd' => by rw [hI.tmps]; exact hdn d hd')]
      by_cases e : o.dst = some t
      · rw [if_pos e]; rw [hlookd t e] at hu; exact hu
      · rw [if_neg e]
        rw [hlook t e] at hu
        refine hI.at_ t u hu fun j hj hl hjv he => ?_
        have hne : i ≠ j := fun e => by subst e; exact hiv hjv
        exact hno j hj (by rw [set_at hil, if_neg hne]; exact hl) (List.mem_cons_of_mem _ hjv) he
/-- **A region that draws its order.** -/
theorem WP.draws {id : Nat} {l : List (Nat × Value)} {L : List HP} (hm : P.follows .mixedOrders = true) (k : Nat) (h : RW P r g ops Q n D k [] [] l L) (hok : regOk ops = true := by decide +kernel) : WP P r g (.region id ops.toArray true) Q ⟨n, D, l⟩ L := fun a w ha hw => by
  refine wpIn_region_any hm ?_
  have hsz : ops.toArray.size = ops.length := by simp
  refine RW.sound hok ops.toArray.size k [] [] l L _ a _ h ⟨by simp, fun i hi => ?_, fun i o hi => by simp at hi, fun i o hi => ?_, fun i hi => by simp at hi, fun i v hi => by simp at hi, ha.size, ha.defers, fun t v hv _ => ha.at_ t v hv, hw.draw _⟩ ?_
  · simp [Array.getElem?_replicate] at hi
  · simp [Array.getElem?_replicate] at hi
  · simp [List.countP_replicate]
/-! ### The moves -/
def PendOk (P : Program) (g : World) (ops : List Oper) (Γ : Env) (L : List HP) : List (Nat × Value) → Prop
  | [] => True
  | (j, u) :: ps => (∃ o, ops[j]? = some o ∧ EV P g ops o Γ L u) ∧ PendOk P g ops Γ L ps
theorem PendOk.all {Γ : Env} {L : List HP} : ∀ {ps : List (Nat × Value)}, PendOk P g ops Γ L ps → ∀ j u, (j, u) ∈ ps → ∃ o, ops[j]? = some o ∧ EV P g ops o Γ L u
  | [], _, _, _, h => by cases h
  | (k, x) :: ps, ⟨h1, h2⟩, j, u, h => by
    rcases List.mem_cons.1 h with e | h
    · cases e; exact h1
    · exact PendOk.all h2 j u h
section moves
variable {k : Nat}
theorem RW.e (i : Nat) {d : Nat} {op : Op} {t : TypeId} {pos : String} {aft : Array Edge} {gd : Option (Nat × Bool)} {v : Value} (ho : ops[i]? = some ⟨some d, op, t, pos, aft, gd⟩) (he : EO P g ⟨some d, op, t, pos, aft, gd⟩ ⟨n, D, l⟩ L v) (h : RW P r g ops Q n D k (i :: vd) ((i, v) :: pend) ((d, v) :: l) L)
    (hw : wants ops l gd = some true := by rfl) (hv : vd.contains i = false := by rfl) (hr : (deps ⟨some d, op, t, pos, aft, gd⟩).all vd.contains = true := by rfl) (hd : Nat.blt d n = true := by rfl) (hnw : noWar ops i = true := by rfl) : RW P r g ops Q n D (k + 1) vd pend l L :=
  .inl ⟨i, _, d, v, ho, by simpa using hv, hr, rfl, by simpa using hd, hnw, .inl ⟨hw, he⟩, h⟩
theorem RW.skip (i : Nat) {d : Nat} {op : Op} {t : TypeId} {pos : String} {aft : Array Edge} {gd : Option (Nat × Bool)} (ho : ops[i]? = some ⟨some d, op, t, pos, aft, gd⟩) (h : RW P r g ops Q n D k (i :: vd) ((i, .tuple #[]) :: pend) ((d, .tuple #[]) :: l) L)
    (hw : wants ops l gd = some false := by rfl) (hv : vd.contains i = false := by rfl) (hr : (deps ⟨some d, op, t, pos, aft, gd⟩).all vd.contains = true := by rfl) (hd : Nat.blt d n = true := by rfl) (hnw : noWar ops i = true := by rfl) : RW P r g ops Q n D (k + 1) vd pend l L :=
  .inl ⟨i, _, d, _, ho, by simpa using hv, hr, rfl, by simpa using hd, hnw, .inr ⟨hw, rfl⟩, h⟩
/-- One that changes the world comes. -/
def RWat (P : Program) (r : Option Nat) (g : World) (ops : List Oper) (Q : Post) (n : Nat) (D : List Deferred) (k : Nat) (vd : List Nat) (pend l : List (Nat × Value)) (L : List HP) (i : Nat) : Prop :=
  ∃ o, ops[i]? = some o ∧ (∀ d, o.dst = some d → d < n) ∧ wants ops (dropS (dstsOf ops (lateOf ops i pend)) l) o.guard = some true ∧
    HO P r g o ⟨n, D, dropS (dstsOf ops (lateOf ops i pend)) l⟩ L fun v M =>
      (∀ j u, (j, u) ∈ lateOf ops i pend → ∃ oj, ops[j]? = some oj ∧ EV P g ops oj ⟨n, D, (match o.dst with | some d => (d, v) :: l | none => l)⟩ M u) ∧
      RW P r g ops Q n D k (i :: vd) (lateOf ops i pend) (match o.dst with | some d => (d, v) :: l | none => l) M
def RWall (P : Program) (r : Option Nat) (g : World) (ops : List Oper) (Q : Post) (n : Nat) (D : List Deferred) (k : Nat) (vd : List Nat) (pend l : List (Nat × Value)) (L : List HP) : List Nat → Prop
  | [] => True
  | i :: is => RWat P r g ops Q n D k vd pend l L i ∧ RWall P r g ops Q n D k vd pend l L is
theorem RW.any {is : List Nat} (hn : nextOf ops vd = is) (h : RWall P r g ops Q n D k vd pend l L is) (hne : is.isEmpty = false := by rfl) : RW P r g ops Q n D (k + 1) vd pend l L := by
  subst hn
  refine .inr ⟨fun e => by rw [e] at hne; simp at hne, fun i hi => ?_⟩
  have key : ∀ is, RWall P r g ops Q n D k vd pend l L is → i ∈ is → RWat P r g ops Q n D k vd pend l L i := by
    intro is
    induction is with
    | nil => intro _ hi; cases hi
    | cons j is ih =>
      intro h hi
      rcases List.mem_cons.1 hi with rfl | hi
      · exact h.1
      · exact ih h.2 hi
  exact key _ h hi
theorem RWat.h {i : Nat} {d : Nat} {op : Op} {t : TypeId} {pos : String} {aft : Array Edge} {gd : Option (Nat × Bool)} {ls : List (Nat × Value)} {l' : List (Nat × Value)} (ho : ops[i]? = some ⟨some d, op, t, pos, aft, gd⟩) (hls : lateOf ops i pend = ls) (hl' : dropS (dstsOf ops ls) l = l')
    (hh : HO P r g ⟨some d, op, t, pos, aft, gd⟩ ⟨n, D, l'⟩ L fun v M => PendOk P g ops ⟨n, D, (d, v) :: l⟩ M ls ∧ RW P r g ops Q n D k (i :: vd) ls ((d, v) :: l) M)
    (hw : wants ops l' gd = some true := by rfl) (hd : Nat.blt d n = true := by rfl) : RWat P r g ops Q n D k vd pend l L i := by
  subst hls; subst hl'
  exact ⟨_, ho, (fun d' e => by cases e; simpa using hd), hw, fun a w Q next ha hs hk => hh a w Q next ha hs fun v M w' hkk => hk v M w' ⟨hkk.1.all, hkk.2⟩⟩
theorem RWat.h' {i : Nat} {op : Op} {t : TypeId} {pos : String} {aft : Array Edge} {gd : Option (Nat × Bool)} {ls : List (Nat × Value)} {l' : List (Nat × Value)} (ho : ops[i]? = some ⟨none, op, t, pos, aft, gd⟩) (hls : lateOf ops i pend = ls) (hl' : dropS (dstsOf ops ls) l = l')
    (hh : HO P r g ⟨none, op, t, pos, aft, gd⟩ ⟨n, D, l'⟩ L fun _ M => PendOk P g ops ⟨n, D, l⟩ M ls ∧ RW P r g ops Q n D k (i :: vd) ls l M)
    (hw : wants ops l' gd = some true := by rfl) : RWat P r g ops Q n D k vd pend l L i := by
  subst hls; subst hl'
  exact ⟨_, ho, (fun d' e => by cases e), hw, fun a w Q next ha hs hk => hh a w Q next ha hs fun v M w' hkk => hk v M w' ⟨hkk.1.all, hkk.2⟩⟩
theorem HO.of_eo {o : Oper} {Γ : Env} {L : List HP} {v : Value} {K : Value → List HP → Prop} (he : EO P g o Γ L v) (hK : K v L) : HO P r g o Γ L K := fun a w Q next ha hw hn => by
  obtain ⟨h1, h2⟩ := he a.eval w (fun x u _ hu => ev_ok hu ha) hw
  refine ⟨about_FR, ?_⟩
  rw [Oper.semAt_eq _ _ _ h2, h1]
  exact hn v L w hK hw
theorem RW.done (h : PO g Q .normal ⟨n, D, l⟩ L) (hn : nextOf ops vd = [] := by rfl) (hall : (List.range ops.length).all vd.contains = true := by rfl) : RW P r g ops Q n D 0 vd pend l L :=
  ⟨hn, fun i hi => by simpa using List.all_eq_true.1 hall i (by simpa using hi), h⟩
end moves
end
end Go.SL
/- The steps of the walk: functions as values, a range over a function. -/
set_option linter.unusedSimpArgs false
set_option linter.unusedVariables false
set_option linter.unusedSectionVars false
namespace Go.SL
open Go
/-- Several pieces as one. -/
def bun (L : List HP) : HP := stars L
def ex {α : Type} (A : α → HP) : HP := fun S => ∃ x, A x S
theorem stars_bun {L M : List HP} {S : Piece} (h : stars (bun L :: M) S) : stars (L ++ M) S := stars_append' h
theorem bun_stars {L M : List HP} {S : Piece} (h : stars (L ++ M) S) : stars (bun L :: M) S := stars_append h
theorem stars_ex {α : Type} {A : α → HP} {M : List HP} {S : Piece} (h : stars (ex A :: M) S) : ∃ x, stars (A x :: M) S := by
  obtain ⟨S1, S2, a, b, c, ⟨x, d⟩, e⟩ := h; exact ⟨x, S1, S2, a, b, c, d, e⟩
theorem ex_stars {α : Type} {A : α → HP} {M : List HP} {S : Piece} (x : α) (h : stars (A x :: M) S) : stars (ex A :: M) S := by
  obtain ⟨S1, S2, a, b, c, d, e⟩ := h; exact ⟨S1, S2, a, b, c, ⟨x, d⟩, e⟩
theorem stars_pu {φ : Prop} {M : List HP} {S : Piece} (h : stars (pu φ :: M) S) : φ ∧ stars M S := ⟨let ⟨_, _, _, _, _, h, _⟩ := h; h, stars_tail h⟩
theorem pu_stars {φ : Prop} {M : List HP} {S : Piece} (h : φ) (hs : stars M S) : stars (pu φ :: M) S := ⟨fun _ => none, S, fun _ => .inl rfl, (fun _ _ h => by cases h), le_refl _, h, hs⟩
def RetK (g : World) (K : Value → List HP → Prop) : Ending → World → Prop := fun e w' => ∃ v M, e = .returned v ∧ K v M ∧ Sat g M w'
/-- What is known of a function's value: called with 'args' on what 'Pre' says .. -/
def CallV (P : Program) (g : World) (y : Value) (args : List Value) (Pre : List HP) (T : (Value → List HP → Prop) → List HP → Prop) : Prop :=
  ∀ (R : List HP) (K : Value → List HP → Prop) (w : World) (r : Option Nat), Sat g (Pre ++ R) w → T K R →
    ∃ d nx w', (∀ w, (Deferred.ofValue y args.toArray).run P w = .ok d w) ∧ (invoke d.target d.args).run P w = .ok nx w' ∧
      match nx with
      | .enter f as => Calls P f as w' (RetK g K)
      | .round l fn tmps assign body => RoundIn (FR r) 0 P l fn tmps assign body w' (RetK g K)
      | _ => False
section
variable {P : Program} {r : Option Nat} {g : World} {Γ : Env} {L M : List HP} {dst : Option Tmp} {t : TypeId} {pos : String} {aft : Array Edge} {gd : Option (Nat × Bool)}
theorem CallV.of_spec {f : FuncId} {fs cs args : List Value} {Pre : List HP} {T : (Value → List HP → Prop) → List HP → Prop} (hs : Spec P g f (fs ++ args ++ cs) Pre T) (hf : callable P f = true) : CallV P g (.func (.func f) fs.toArray cs.toArray) args Pre T :=
  fun R K w _ hw hT => ⟨{ target := .fn (.func f) cs.toArray, args := fs.toArray ++ args.toArray }, .enter f (fs ++ args ++ cs).toArray, w, fun w => rfl, by
    simp only [invoke]; rw [callFunc_enter hf]; simp, hs R K w hw hT⟩
theorem h_cally {y : Value} {x : Operand} {as : List Operand} {ts : Array TypeId} {args : List Value} {Pre R : List HP} {T : (Value → List HP → Prop) → List HP → Prop} {K : Value → List HP → Prop} (hs : CallV P g y args Pre T) (hK : T K R) (hx : ev Γ x = some y := by rfl) (ha : evs Γ as = some args := by rfl)
    (hL : Split L Pre R := by repeat first | exact .nil | exact Pick.z | apply Pick.s | apply Split.cons) : HO P r g ⟨dst, .call ⟨.value x, as.toArray, ts⟩, t, pos, aft, gd⟩ Γ L K := by
  intro a w Q next hΓ hw hn
  refine ⟨about_FR, ?_⟩
  rw [Oper.semAt_eq _ _ _ (by simp)]
  obtain ⟨d, nx, w', h1, h2, h3⟩ := hs R K w r (hw.conv fun _ => hL.to) hK
  have hrun : (execOp a.eval ⟨dst, .call ⟨.value x, as.toArray, ts⟩, t, pos, aft, gd⟩).run P w = .ok nx w' := by
    have hm : as.toArray.map a.eval = args.toArray := evs_mapA ha (fun x u _ hx => ev_ok hx hΓ)
    show (do let d ← resolve a.eval ⟨.value x, as.toArray, ts⟩ t; invoke d.target d.args : Sem Next).run P w = _
    simp only [resolve, hm, ev_ok hx hΓ, Sem.run_bind, h1, Result.andThen_ok, h2]
  rw [hrun]
  cases nx <;> simp only at h3 <;> first | exact h3.elim | skip
  · refine ⟨depth_FR r 0, HO.enter.callsIn_fr (h3.mono ?_)⟩
    rintro e w'' ⟨v, M, rfl, hk, hw'⟩
    exact hn v M w'' hk hw'
  · refine ⟨depth_FR r 0, RoundIn.mono h3 ?_⟩
    rintro e w'' ⟨v, M, rfl, hk, hw'⟩
    exact hn v M w'' hk hw'
/-! ### A range over a function -/
/-- None of them has stopped it. -/
def Hist {α : Type} (cont : List α → α → Prop) (pre : List α) : Prop := ∀ p x q, pre = p ++ x :: q → cont p x
theorem Hist.nil {α : Type} {cont : List α → α → Prop} : Hist cont [] := fun p x q h => by simp at h
theorem Hist.snoc {α : Type} {cont : List α → α → Prop} {pre : List α} {x : α} (h : Hist cont pre) (hx : cont pre x) : Hist cont (pre ++ [x]) := fun p y q e => by
  rcases List.append_eq_append_iff.1 e with ⟨as, h1, h2⟩ | ⟨as, h1, h2⟩
  · cases as with
    | nil => simp at h1 h2; obtain ⟨rfl, rfl⟩ := h2; subst h1; exact hx
    | cons b bs => simp at h2
  · cases as with
    | nil => simp at h1 h2; obtain ⟨rfl, rfl⟩ := h2; subst h1; exact hx
    | cons b bs => simp at h2; obtain ⟨rfl, h3⟩ := h2; exact h p y bs h1
/-- The contract of an iterator: 'All': what may come in all, 'Pfx': what may have come. -/
def Iter {α : Type} (P : Program) (g : World) (f : FuncId) (args : Value → List Value) (Pre : List HP) (enc : α → List Value) (Res : α → HP) (All Pfx : List α → Prop) (Out : List HP) : Prop :=
  ∀ (y : Value) (J : List α → HP) (X : List α → α → HP) (cont : List α → α → Prop),
    (∀ pre x, Pfx (pre ++ [x]) → Hist cont pre → CallV P g y (enc x) [J pre, Res x] fun K R => (cont pre x → K (.bool true) (J (pre ++ [x]) :: R)) ∧ (¬ cont pre x → K (.bool false) (X pre x :: R))) →
    Spec P g f (args y) (J [] :: Pre) fun K R => (∀ xs, All xs → Hist cont xs → K (.tuple #[]) (J xs :: (Out ++ R))) ∧
      (∀ pre x, Pfx (pre ++ [x]) → Hist cont pre → ¬ cont pre x → K (.tuple #[]) (X pre x :: (Out ++ R)))
/-- The record of a loop. -/
def Lp (l : Nat) (rec : Loop) : HP := pt l (.loop rec)
/-- The end of a round. -/
def RndP (P : Program) (g : World) (l : Nat) (rec : Loop) (A : HP) (B : Code → HP) (c : Prop) (R : List HP) : Post := roundPost P l fun e w' =>
  (c ∧ e = .returned (.bool true) ∧ Sat g (Lp l { rec with state := .ready, pending := none } :: A :: R) w') ∨ (¬ c ∧ e = .returned (.bool false) ∧ ∃ j, Sat g (Lp l { rec with state := .done, pending := some j } :: B j :: R) w')
section rounds
variable {l : Nat} {rec : Loop} {A : HP} {B : Code → HP} {c : Prop} {R : List HP}
theorem run_getLoop {w : World} (h : w.heap[l]? = some (.loop rec)) : (Instr.getLoop l).run P w = .ok rec w := by
  unfold Instr.getLoop
  rw [Sem.run_bind, run_getObj h (by simp)]; rfl
theorem run_endRound {w : World} (h : w.heap[l]? = some (.loop rec)) (j : Option Code) : (Instr.endRound l j).run P w = .ok (.bool j.isNone) { w with heap := w.heap.setIfInBounds l (.loop { rec with state := if j.isNone then .ready else .done, pending := j }) } := by
  unfold Instr.endRound
  simp only [Sem.run_bind, run_getLoop h, Result.andThen_ok, run_setObj h (by simp), Sem.run_pure]
theorem lp_set {w : World} {rec' : Loop} (hw : Sat g (Lp l rec :: M) w) : Sat g (Lp l rec' :: M) { w with heap := w.heap.setIfInBounds l (.loop rec') } := by
  obtain ⟨S1, S2, hd, l1, l2, h1, h2⟩ := hw.heap
  exact Sat.setObj (B := Lp l rec') hw hd l1 l2 h1 h2 fun S hS _ => hS
theorem PO.rnd {n : Nat} {D : List Deferred} {m : List (Nat × Value)} (hc : c) (hL : Sub L (Lp l rec :: A :: R)) : PO g (RndP P g l rec A B c R) .normal ⟨n, D, m⟩ L := fun a w _ hw => by
  have hw' := hw.conv fun _ => hL.to
  refine ⟨_, _, run_endRound (hw'.get .z) none, .inl ⟨hc, rfl, lp_set hw'⟩⟩
theorem PO.rnd_exit {n id : Nat} {D : List Deferred} {m : List (Nat × Value)} (hc : ¬ c) (hL : Sub L (Lp l rec :: B (.exit id) :: R)) : PO g (RndP P g l rec A B c R) (.exit id) ⟨n, D, m⟩ L := fun a w _ hw => by
  have hw' := hw.conv fun _ => hL.to
  refine ⟨_, _, run_endRound (hw'.get .z) (some (.exit id)), .inr ⟨hc, rfl, .exit id, lp_set hw'⟩⟩
end rounds
def setParams (ps : List Tmp) (vs : List Value) (l : List (Nat × Value)) : List (Nat × Value) := (ps.zip vs).foldl (fun l p => p :: l) l
theorem setParams_ok {n : Nat} {ps : List Tmp} {vs : List Value} {l : List (Nat × Value)} {tmps : Array Value} (hps : ps.all (Nat.blt · n) = true) (h : Env.ok ⟨n, [], l⟩ ⟨tmps, []⟩) :
    Env.ok ⟨n, [], setParams ps vs l⟩ ⟨(ps.toArray.zip vs.toArray).foldl (fun tmps (t, a) => tmps.setIfInBounds t a) tmps, []⟩ := by
  unfold setParams
  rw [List.zip_toArray, List.foldl_toArray]
  induction ps generalizing vs l tmps with
  | nil => simpa using h
  | cons p ps ih =>
    cases vs with
    | nil => simpa using h
    | cons v vs =>
      simp only [List.all_cons, Bool.and_eq_true] at hps
      simp only [List.zip_cons_cons, List.foldl_cons]
      exact ih hps.2 (Env.ok_put (a := ⟨tmps, []⟩) v h (by simpa using hps.1))
/-- Behind the assignments to the loop's variables the round begins. -/
def AsgP (P : Program) (g : World) (l : Nat) (body : Code) (Q : Post) : Post := Exit.then (fun a₁ w₁ => ∃ w₂, (Instr.beginRound l).run P w₁ = .ok () w₂ ∧ body.wpIn (FR (some l)) 0 P Q a₁ w₂) (fun _ _ _ => False)
theorem PO.asg {l n : Nat} {body : Code} {Q : Post} {rec : Loop} {D : List Deferred} {m : List (Nat × Value)} (hr : rec.state = .ready) (hp : Put L (Lp l rec) (Lp l { rec with state := .busy }) M) (h : WP P (some l) g body Q ⟨n, D, m⟩ M) : PO g (AsgP P g l body Q) .normal ⟨n, D, m⟩ L := fun a w ha hw => by
  obtain ⟨R, p1, p2⟩ := hp.picks
  have hw1 := hw.conv fun _ => p1.to
  refine ⟨_, ?_, h a _ ha ((lp_set (rec' := { rec with state := .busy }) hw1).conv fun _ => p2.back)⟩
  unfold Instr.beginRound
  simp only [Sem.run_bind, run_getLoop (hw1.get .z), Result.andThen_ok, run_setObj (hw1.get .z) (by simp)]
  rw [hr]; rfl
theorem stars_move {A : HP} : ∀ {L M : List HP} {S : Piece}, stars (A :: (L ++ M)) S → stars (L ++ A :: M) S
  | [], _, _, h => h
  | _ :: _, _, _, h => stars_cons (fun _ => stars_move) (stars_swap h)
theorem stars_unmove {A : HP} : ∀ {L M : List HP} {S : Piece}, stars (L ++ A :: M) S → stars (A :: (L ++ M)) S
  | [], _, _, h => h
  | _ :: _, _, _, h => stars_swap (stars_cons (fun _ => stars_unmove) h)
theorem run_endLoop {lb : Nat} {rec : Loop} {w : World} (h : w.heap[lb]? = some (.loop rec)) (hb : (rec.state == .busy) = false) : (Instr.endLoop lb).run P w = .ok rec.pending { w with heap := w.heap.setIfInBounds lb (.loop { rec with state := .exhausted }) } := by
  unfold Instr.endLoop
  simp only [Sem.run_bind, run_getLoop h, Result.andThen_ok, hb, Bool.false_eq_true, if_false, Sem.run_pure, run_setObj h (by simp)]
theorem yield_run {lb : Nat} {rec : Loop} {w : World} {args : List Value} (h : w.heap[lb]? = some (.loop rec)) (hl : args.length = rec.params.size) :
    (invoke (.fn (.yield lb) #[]) args.toArray).run P w = .ok (.round lb rec.fn ((rec.params.zip args.toArray).foldl (fun tmps (t, a) => tmps.setIfInBounds t a) rec.tmps) rec.assign rec.body) w := by
  simp only [invoke, Instr.yield, Sem.run_bind, run_getLoop h, Result.andThen_ok]
  rw [if_neg (by simp [hl])]; rfl
theorem WP.range {α : Type} {enc : α → List Value} {gop : Operand} {ps : List Tmp} {assign body : Code} {fs cs : List Value} {f : FuncId} {n : Nat} {D : List Deferred} {l : List (Nat × Value)} {Pre Out R : List HP} {All Pfx : List α → Prop} {Q : Post}
    (J : List α → HP) (X : List α → α → Code → HP) (cont : List α → α → Prop) {Res : α → HP} (hit : Iter P g f (fun y => fs ++ [y] ++ cs) Pre enc Res All Pfx Out) (hf : callable P f = true)
    (hL : Split L (J [] :: Pre) R)
    (hbody : ∀ lb db fn tmps pre x R', Pfx (pre ++ [x]) → Hist cont pre → WP P (some lb) g assign (AsgP P g lb body (RndP P g lb ⟨.busy, none, fn, tmps, ps.toArray, assign, body, db⟩ (J (pre ++ [x])) (X pre x) (cont pre x) R')) ⟨n, [], setParams ps (enc x) l⟩ (Lp lb ⟨.ready, none, fn, tmps, ps.toArray, assign, body, db⟩ :: J pre :: Res x :: R'))
    (hdone : ∀ db xs, All xs → Hist cont xs → PO g Q .normal ⟨n, ⟨.collected db, #[]⟩ :: D, l⟩ (J xs :: pt db (.deferred (some [])) :: (Out ++ R)))
    (hstop : ∀ db pre x j, Pfx (pre ++ [x]) → Hist cont pre → ¬ cont pre x → WP P none g j Q ⟨n, ⟨.collected db, #[]⟩ :: D, l⟩ (X pre x j :: pt db (.deferred (some [])) :: (Out ++ R)))
    (hpl : ∀ x, (enc x).length = ps.length) (hg : ev ⟨n, D, l⟩ gop = some (.func (.func f) fs.toArray cs.toArray) := by rfl) (hps : ps.all (Nat.blt · n) = true := by rfl) : WP P none g (.rangeFunc gop ps.toArray assign body) Q ⟨n, D, l⟩ L := by
  intro a w ha hw
  refine wpIn_rangeFunc fun fn _ => ?_
  let db := w.heap.size
  let lb := w.heap.size + 1
  let rec0 : Loop := ⟨.ready, none, fn, a.tmps, ps.toArray, assign, body, db⟩
  let w1 : World := (w.alloc (.deferred (some []))).alloc (.loop rec0)
  have hent : (Instr.enterLoop fn a.tmps ps.toArray assign body (FR none).round).run P w = .ok (lb, [⟨.collected db, #[]⟩]) w1 := by
    unfold Instr.enterLoop
    simp [FR, Fence.wide, w1, lb, db, rec0]
  refine ⟨lb, [⟨.collected db, #[]⟩], w1, { target := .fn (.func f) cs.toArray, args := fs.toArray ++ #[Value.func (.yield lb) #[] #[]] }, w1, f, (fs ++ [Value.func (.yield lb) #[] #[]] ++ cs).toArray, w1, hent, ?_, fun _ _ => trivial, ?_, depth_FR none 0, ?_⟩
  · simp only [resolve, ev_ok hg ha]
    simp [Deferred.ofValue, Act.eval]
  · simp only [invoke]; rw [callFunc_enter hf]; simp
  · -- the call of the iterator
    let J' : List α → HP := fun pre => bun [Lp lb rec0, J pre]
    let X' : List α → α → HP := fun pre x => ex fun j : Code => bun [Lp lb { rec0 with state := .done, pending := some j }, X pre x j]
    have hy : ∀ pre x, Pfx (pre ++ [x]) → Hist cont pre → CallV P g (.func (.yield lb) #[] #[]) (enc x) [J' pre, Res x] fun K R => (cont pre x → K (.bool true) (J' (pre ++ [x]) :: R)) ∧ (¬ cont pre x → K (.bool false) (X' pre x :: R)) := by
      intro pre x hp hh R' K w2 r2 hw2 ⟨hT1, hT2⟩
      have hw3 : Sat g (Lp lb rec0 :: J pre :: Res x :: R') w2 := hw2.conv fun _ => stars_bun
      refine ⟨{ target := .fn (.yield lb) #[], args := (enc x).toArray }, _, w2, fun w => by simp [Deferred.ofValue], yield_run (rec := rec0) (hw3.get .z) (by simp [rec0, hpl]), ?_⟩
      show RoundIn (FR r2) 0 P lb fn ((ps.toArray.zip (enc x).toArray).foldl (fun tmps (t, a) => tmps.setIfInBounds t a) a.tmps) assign body w2 (RetK g K)
      refine roundIn_of_wpIn trivial ?_
      have hΓ : Env.ok ⟨n, [], setParams ps (enc x) l⟩ ⟨(ps.toArray.zip (enc x).toArray).foldl (fun tmps (t, a) => tmps.setIfInBounds t a) a.tmps, []⟩ := setParams_ok hps ⟨ha.size, rfl, ha.at_⟩
      refine wpIn_mono (hbody lb db fn a.tmps pre x R' hp hh _ w2 hΓ hw3) ?_
      intro e a₁ w₁ hq
      cases e <;> first | exact hq.elim | skip
      obtain ⟨w₂, hb, hq⟩ := hq
      refine ⟨w₂, hb, wpIn_mono hq ?_⟩
      intro e a₂ w₃ hq
      have fin : ∀ v w₄, ((cont pre x ∧ Ending.returned v = .returned (.bool true) ∧ Sat g (Lp lb { rec0 with state := .ready, pending := none } :: J (pre ++ [x]) :: R') w₄) ∨ (¬ cont pre x ∧ Ending.returned v = .returned (.bool false) ∧ ∃ j, Sat g (Lp lb { rec0 with state := .done, pending := some j } :: X pre x j :: R') w₄)) → RetK g K (.returned v) w₄ := by
        rintro v w₄ (⟨hc, e1, h1⟩ | ⟨hc, e1, j, h1⟩)
        · cases e1
          exact ⟨_, _, rfl, hT1 hc, h1.conv fun _ => bun_stars (L := [_, _])⟩
        · cases e1
          exact ⟨_, _, rfl, hT2 hc, h1.conv fun _ h => ex_stars j (bun_stars (L := [_, _]) h)⟩
      cases e <;> first | exact hq.elim | skip
      all_goals
        obtain ⟨v, w₄, h1, h2⟩ := hq
        exact ⟨v, w₄, h1, fin v w₄ h2⟩
    have hw1 : Sat g (J' [] :: Pre ++ (pt db (.deferred (some [])) :: R)) w1 := by
      have h1 := hw.push (.deferred (some []))
      have h2 := h1.push (.loop rec0)
      refine h2.conv fun S hS => ?_
      have h3 : (w.alloc (.deferred (some []))).heap.size = lb := by simp [lb]
      have hS' : stars (Lp lb rec0 :: pt db (.deferred (some [])) :: L) S := by
        have := hS; simp only [World.alloc] at h3; rw [h3] at this; exact this
      have h4 : stars (Lp lb rec0 :: pt db (.deferred (some [])) :: (J [] :: Pre ++ R)) S := stars_cons (fun _ => stars_cons (fun _ => hL.to)) hS'
      refine bun_stars (L := [Lp lb rec0, J []]) ?_
      refine stars_cons (fun S h => ?_) h4
      have h5 : stars (J [] :: pt db (.deferred (some [])) :: (Pre ++ R)) S := stars_swap h
      exact stars_cons (fun S h => stars_move h) h5
    have hcall := hit (.func (.yield lb) #[] #[]) J' X' cont hy (pt db (.deferred (some [])) :: R) (fun v M => ∀ w3, Sat g M w3 → rangePost (FR none) 0 P lb Q { a with defers := [⟨.collected db, #[]⟩] ++ a.defers } (.returned v) w3) w1 hw1 ?_
    · refine HO.enter.callsIn_fr (hcall.mono ?_)
      rintro e w3 ⟨v, M, rfl, hk, hw3⟩
      exact hk w3 hw3
    · have haD : Env.ok ⟨n, ⟨.collected db, #[]⟩ :: D, l⟩ { a with defers := [⟨.collected db, #[]⟩] ++ a.defers } := ⟨ha.size, by simp [show a.defers = D from ha.defers], ha.at_⟩
      refine ⟨fun xs hx hh w3 hw3 => ?_, fun pre x hp hh hc w3 hw3 => ?_⟩
      · have h1 : Sat g (Lp lb rec0 :: J xs :: (Out ++ pt db (.deferred (some [])) :: R)) w3 := hw3.conv fun _ => stars_bun
        refine ⟨none, _, run_endLoop (h1.get .z) rfl, ?_⟩
        have h2 := lp_set (rec' := { rec0 with state := .exhausted }) h1
        exact hdone db xs hx hh _ _ haD (h2.conv fun _ h => stars_cons (fun _ => stars_unmove) (stars_tail h))
      · obtain ⟨j, h1⟩ : ∃ j, Sat g (Lp lb { rec0 with state := .done, pending := some j } :: X pre x j :: (Out ++ pt db (.deferred (some [])) :: R)) w3 := by
          obtain ⟨j, hj⟩ := stars_ex hw3.heap
          exact ⟨j, hw3.os, hw3.tape, hw3.output, hw3.size, stars_bun hj⟩
        refine ⟨some j, _, run_endLoop (h1.get .z) rfl, ?_⟩
        have h2 := lp_set (rec' := { rec0 with state := .exhausted, pending := some j }) h1
        exact hstop db pre x j hp hh hc _ _ haD (h2.conv fun _ h => stars_cons (fun _ => stars_unmove) (stars_tail h))
end
end Go.SL
