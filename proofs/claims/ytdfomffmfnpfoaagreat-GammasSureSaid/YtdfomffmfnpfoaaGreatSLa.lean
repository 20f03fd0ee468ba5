/- Separation-style assertions over the heap, and the judgements of the walk over them. -/
import Derived.RangeFuncIn
import Derived.RangeFuncLeaves
import Derived.TacticsIn
import Derived.OrdersIn
import Derived.Laws.Sem
import Derived.Sort.LoopGhostIn
set_option linter.unusedSimpArgs false
set_option linter.unusedVariables false
namespace Go.SL
open Go

abbrev Piece := Nat → Option Obj
abbrev HP := Piece → Prop

def le (S T : Piece) : Prop := ∀ b o, S b = some o → T b = some o
def disj (S T : Piece) : Prop := ∀ b, S b = none ∨ T b = none
def joinP (S T : Piece) : Piece := fun b => (S b).or (T b)

theorem le_refl (S : Piece) : le S S := fun _ _ h => h
theorem le_trans {S T U : Piece} (h : le S T) (h' : le T U) : le S U := fun b o x => h' b o (h b o x)
theorem le_joinL (S T : Piece) : le S (joinP S T) := fun b o h => by simp [joinP, h]
theorem le_joinR {S T : Piece} (hd : disj S T) : le T (joinP S T) := fun b o h => by
  rcases hd b with h0 | h0
  · simp [joinP, h0, h]
  · rw [h0] at h; cases h
theorem join_le {S T U : Piece} (h : le S U) (h' : le T U) : le (joinP S T) U := fun b o x => by
  unfold joinP at x
  cases hs : S b with
  | none => rw [hs] at x; exact h' b o (by simpa using x)
  | some y => rw [hs] at x; simp at x; subst x; exact h b y hs
theorem disj_symm {S T : Piece} (h : disj S T) : disj T S := fun b => (h b).symm
theorem disj_le {S T U : Piece} (h : disj S T) (hl : le U T) : disj S U := fun b => by
  rcases h b with h0 | h0
  · exact .inl h0
  · right; cases hu : U b with
    | none => rfl
    | some y => rw [hl b y hu] at h0; cases h0
theorem disj_join {S T U : Piece} (h : disj S T) (h' : disj S U) : disj S (joinP T U) := fun b => by
  rcases h b with h0 | h0
  · exact .inl h0
  · rcases h' b with h1 | h1
    · exact .inl h1
    · right; simp [joinP, h0, h1]

def star (A B : HP) : HP := fun S => ∃ S1 S2, disj S1 S2 ∧ le S1 S ∧ le S2 S ∧ A S1 ∧ B S2
def stars : List HP → HP
  | [] => fun _ => True
  | A :: L => star A (stars L)
def pt (b : Nat) (o : Obj) : HP := fun S => S b = some o
def pu (φ : Prop) : HP := fun _ => φ
/-- A block of cells, no byte of it shared with a string. -/
def cl (b : Nat) (t : TypeId) (l : List Value) : HP := pt b (.cells l.toArray t (0, 0))

theorem stars_le {L : List HP} {S T : Piece} (h : stars L S) (hl : le S T) : stars L T := by
  cases L with
  | nil => trivial
  | cons A L => obtain ⟨S1, S2, a, b, c, d, e⟩ := h; exact ⟨S1, S2, a, le_trans b hl, le_trans c hl, d, e⟩

theorem stars_swap {A B : HP} {L : List HP} {S : Piece} (h : stars (A :: B :: L) S) : stars (B :: A :: L) S := by
  obtain ⟨S1, S', hd, h1, h2, hA, S2, S3, hd', h3, h4, hB, hL⟩ := h
  refine ⟨S2, joinP S1 S3, ?_, le_trans h3 h2, join_le h1 (le_trans h4 h2), hB, S1, S3, disj_le hd h4, le_joinL _ _, le_joinR (disj_le hd h4), hA, hL⟩
  exact disj_join (disj_symm (disj_le hd h3)) hd'

theorem stars_cons {A : HP} {L L' : List HP} (h : ∀ S, stars L S → stars L' S) {S : Piece} (hs : stars (A :: L) S) : stars (A :: L') S := by
  obtain ⟨S1, S2, a, b, c, d, e⟩ := hs; exact ⟨S1, S2, a, b, c, d, h _ e⟩

theorem stars_tail {A : HP} {L : List HP} {S : Piece} (h : stars (A :: L) S) : stars L S := by
  obtain ⟨S1, S2, _, _, c, _, e⟩ := h; exact stars_le e c

theorem stars_append {L M : List HP} {S : Piece} (h : stars (L ++ M) S) : star (stars L) (stars M) S := by
  induction L generalizing S with
  | nil => exact ⟨fun _ => none, S, fun _ => .inl rfl, (fun _ _ h => by cases h), le_refl _, trivial, h⟩
  | cons A L ih =>
    obtain ⟨S1, S', hd, h1, h2, hA, hr⟩ := h
    obtain ⟨S2, S3, hd', h3, h4, hL, hM⟩ := ih hr
    exact ⟨joinP S1 S2, S3, disj_symm (disj_join (disj_symm (disj_le hd h4)) (disj_symm hd')), join_le h1 (le_trans h3 h2), le_trans h4 h2,
      ⟨S1, S2, disj_le hd h3, le_joinL _ _, le_joinR (disj_le hd h3), hA, hL⟩, hM⟩

theorem stars_append' {L M : List HP} {S : Piece} (h : star (stars L) (stars M) S) : stars (L ++ M) S := by
  induction L generalizing S with
  | nil => obtain ⟨S1, S2, _, _, c, _, e⟩ := h; exact stars_le e c
  | cons A L ih =>
    obtain ⟨S12, S3, hd, h1, h2, ⟨S1, S2, hd', h3, h4, hA, hL⟩, hM⟩ := h
    exact ⟨S1, joinP S2 S3, disj_join hd' (disj_symm (disj_le (disj_symm hd) h3)), le_trans h3 h1, join_le (le_trans h4 h1) h2, hA,
      ih ⟨S2, S3, disj_symm (disj_le (disj_symm hd) h4), le_joinL _ _, le_joinR (disj_symm (disj_le (disj_symm hd) h4)), hL, hM⟩⟩

/-- 'A' stands in 'L'; 'M' is the rest. -/
inductive Pick : List HP → HP → List HP → Prop
  | z {A : HP} {L : List HP} : Pick (A :: L) A L
  | s {A B : HP} {L M : List HP} : Pick L A M → Pick (B :: L) A (B :: M)

theorem Pick.to {L M : List HP} {A : HP} (h : Pick L A M) : ∀ {S : Piece}, stars L S → stars (A :: M) S := by
  induction h with
  | z => exact id
  | s _ ih => exact fun hs => stars_swap (stars_cons (fun _ => ih) hs)
theorem Pick.back {L M : List HP} {A : HP} (h : Pick L A M) : ∀ {S : Piece}, stars (A :: M) S → stars L S := by
  induction h with
  | z => exact id
  | s _ ih => exact fun hs => stars_cons (fun _ => ih) (stars_swap hs)

/-- In 'L' one 'A' is put in the place of another; the rest stays. -/
inductive Put : List HP → HP → HP → List HP → Prop
  | z {A B : HP} {L : List HP} : Put (A :: L) A B (B :: L)
  | s {A B C : HP} {L M : List HP} : Put L A B M → Put (C :: L) A B (C :: M)

theorem Put.picks {L M : List HP} {A B : HP} (h : Put L A B M) : ∃ R, Pick L A R ∧ Pick M B R := by
  induction h with
  | z => exact ⟨_, .z, .z⟩
  | s _ ih => obtain ⟨R, a, b⟩ := ih; exact ⟨_, .s a, .s b⟩

/-- 'L' is 'M' and the rest 'R', in whatever order. -/
inductive Split : List HP → List HP → List HP → Prop
  | nil {L : List HP} : Split L [] L
  | cons {L L' M R : List HP} {A : HP} : Pick L A L' → Split L' M R → Split L (A :: M) R

theorem Split.to {L M R : List HP} (h : Split L M R) : ∀ {S : Piece}, stars L S → stars (M ++ R) S := by
  induction h with
  | nil => exact id
  | cons hp _ ih => exact fun hs => stars_cons (fun _ => ih) (hp.to hs)

theorem Split.drop {L M R : List HP} (h : Split L M R) {S : Piece} (hs : stars L S) : stars M S := by
  obtain ⟨S1, S2, _, b, _, d, _⟩ := stars_append (h.to hs)
  exact stars_le d b

/-- 'M' is some of 'L', in whatever order; what stands last may be a letter. -/
inductive Sub : List HP → List HP → Prop
  | refl {L : List HP} : Sub L L
  | drop {L M : List HP} {A : HP} : Sub L M → Sub (A :: L) M
  | cons {L L' M : List HP} {A : HP} : Pick L A L' → Sub L' M → Sub L (A :: M)
theorem Sub.to {L M : List HP} (h : Sub L M) : ∀ {S : Piece}, stars L S → stars M S := by
  induction h with
  | refl => exact id
  | drop _ ih => exact fun hs => ih (stars_tail hs)
  | cons hp _ ih => exact fun hs => stars_cons (fun _ => ih) (hp.to hs)

def heapOf (w : World) : Piece := fun b => w.heap[b]?

/-- What a world is known to be: the outside world, the tape and the output are those of 'g'; its heap has these pieces. -/
structure Sat (g : World) (L : List HP) (w : World) : Prop where
  os : w.os = g.os
  tape : w.tape = g.tape
  output : w.output = g.output
  size : g.heap.size ≤ w.heap.size
  heap : stars L (heapOf w)

theorem Sat.conv {g w : World} {L M : List HP} (h : Sat g L w) (hc : ∀ S, stars L S → stars M S) : Sat g M w := ⟨h.os, h.tape, h.output, h.size, hc _ h.heap⟩

theorem Sat.get {g w : World} {L M : List HP} {b : Nat} {o : Obj} (h : Sat g L w) (hp : Pick L (pt b o) M) : w.heap[b]? = some o := by
  obtain ⟨S1, S2, _, h1, _, hA, _⟩ := hp.to h.heap
  exact h1 _ _ hA

theorem Sat.draw {g w : World} {L : List HP} (h : Sat g L w) (n : Nat) : Sat g L { w with drawn := n } := ⟨h.os, h.tape, h.output, h.size, h.heap⟩

/-- One object put in the place of another. -/
theorem Sat.set {g w : World} {L M : List HP} {b : Nat} {o o' : Obj} (h : Sat g L w) (hp : Put L (pt b o) (pt b o') M) (w' : World) (he : w'.os = w.os) (ht : w'.tape = w.tape) (hu : w'.output = w.output)
    (hs : w'.heap.size = w.heap.size) (hb : w'.heap[b]? = some o') (hr : ∀ i, i ≠ b → w'.heap[i]? = w.heap[i]?) : Sat g M w' := by
  obtain ⟨R, p1, p2⟩ := hp.picks
  refine ⟨he.trans h.os, ht.trans h.tape, hu.trans h.output, hs ▸ h.size, p2.back ?_⟩
  obtain ⟨S1, S2, hd, h1, h2, hA, hR⟩ := p1.to h.heap
  have hS2 : S2 b = none := by
    rcases hd b with h0 | h0
    · rw [show S1 b = some o from hA] at h0; cases h0
    · exact h0
  refine ⟨fun i => if i = b then some o' else none, S2, fun i => ?_, fun i x hx => ?_, fun i x hx => ?_, by simp [pt], hR⟩
  · by_cases hi : i = b
    · subst hi; exact .inr hS2
    · left; simp [hi]
  · by_cases hi : i = b
    · subst hi; simp at hx; subst hx; exact hb
    · simp [hi] at hx
  · have hi : i ≠ b := fun e => by subst e; rw [hS2] at hx; cases hx
    show w'.heap[i]? = some x
    rw [hr i hi]; exact h2 i x hx

theorem heapOf_push_le (w : World) (o : Obj) : le (heapOf w) (heapOf { w with heap := w.heap.push o }) := fun b x hx => by
  have hb : b < w.heap.size := by
    rcases Nat.lt_or_ge b w.heap.size with h' | h'
    · exact h'
    · simp [heapOf, Array.getElem?_eq_none h'] at hx
  show (w.heap.push o)[b]? = some x
  rw [Array.getElem?_push_lt hb]
  simpa [heapOf, Array.getElem?_eq_getElem hb] using hx

/-- A new object. -/
theorem Sat.push {g w : World} {L : List HP} (h : Sat g L w) (o : Obj) : Sat g (pt w.heap.size o :: L) { w with heap := w.heap.push o } := by
  refine ⟨h.os, h.tape, h.output, by have := h.size; simp; omega, ?_⟩
  refine ⟨fun i => if i = w.heap.size then some o else none, heapOf w, fun i => ?_, fun i x hx => ?_, heapOf_push_le w o, by simp [pt], h.heap⟩
  · by_cases hi : i = w.heap.size
    · right; subst hi; simp [heapOf]
    · left; simp [hi]
  · by_cases hi : i = w.heap.size
    · subst hi; simp at hx; subst hx; simp [heapOf]
    · simp [hi] at hx

/-! ### Frames -/

def look : List (Nat × Value) → Nat → Option Value
  | [], _ => none
  | (i, v) :: l, j => match Nat.beq i j with
    | true => some v
    | false => look l j

structure Env where
  n : Nat
  D : List Deferred
  l : List (Nat × Value)

structure Env.ok (Γ : Env) (a : Act) : Prop where
  size : a.tmps.size = Γ.n
  defers : a.defers = Γ.D
  at_ : ∀ i v, look Γ.l i = some v → a.tmps[i]? = some v

def ev (Γ : Env) : Operand → Option Value
  | .tmp t => look Γ.l t
  | .const v => some v
  | .global g => some (.pointer (some ⟨g, 0, none⟩))
  | .func f => some (.func (.func f) #[] #[])

theorem ev_ok {Γ : Env} {a : Act} {x : Operand} {v : Value} (h : ev Γ x = some v) (ha : Γ.ok a) : a.eval x = v := by
  cases x with
  | tmp t => have := ha.at_ t v h; simp [Act.eval, this]
  | const u => simpa [ev, Act.eval] using h
  | global g => simpa [ev, Act.eval] using h
  | func f => simpa [ev, Act.eval] using h

theorem beq_no {i j : Nat} (e : i ≠ j) : Nat.beq i j = false := by
  cases h : Nat.beq i j with
  | false => rfl
  | true => exact absurd (Nat.eq_of_beq_eq_true h) e
theorem ne_of_beq_no {i j : Nat} (h : Nat.beq i j = false) : i ≠ j := fun e => by subst e; simp at h

theorem Env.ok_put {n d : Nat} {D : List Deferred} {l : List (Nat × Value)} {a : Act} (v : Value) (ha : Env.ok ⟨n, D, l⟩ a) (hlt : d < n) : Env.ok ⟨n, D, (d, v) :: l⟩ (a.put (some d) v) := by
  refine ⟨by simpa [Act.put] using ha.size, ha.defers, fun i u hi => ?_⟩
  simp only [look] at hi
  by_cases e : d = i
  · subst e
    simp at hi; subst hi
    have : a.tmps.size = n := ha.size
    simp [Act.put, this, hlt]
  · rw [beq_no e] at hi
    simp only [Act.put]
    rw [Array.getElem?_setIfInBounds_ne e]
    exact ha.at_ i u hi

/-- What is known of fewer slots. -/
def EnvSub (l m : List (Nat × Value)) : Prop := ∀ i v, look l i = some v → look m i = some v
theorem EnvSub.nil {m : List (Nat × Value)} : EnvSub [] m := fun _ _ h => by cases h
theorem EnvSub.cons {l m : List (Nat × Value)} {i : Nat} {v : Value} (h : look m i = some v) (hs : EnvSub l m) : EnvSub ((i, v) :: l) m := fun j u hj => by
  simp only [look] at hj
  by_cases e : i = j
  · subst e; simp at hj; subst hj; exact h
  · rw [beq_no e] at hj; exact hs j u hj
theorem EnvSub.keep {l m : List (Nat × Value)} (h : m = l) : EnvSub l m := h ▸ fun _ _ h => h
theorem Env.ok_sub {n : Nat} {D : List Deferred} {l m : List (Nat × Value)} {a : Act} (ha : Env.ok ⟨n, D, m⟩ a) (h : EnvSub l m) : Env.ok ⟨n, D, l⟩ a := ⟨ha.size, ha.defers, fun i v hi => ha.at_ i v (h i v hi)⟩

/-! ### Judgements -/

/-- The wide fence, in a round or not. -/
def FR (r : Option Nat) : Fence := { Fence.wide with round := r }
theorem room_FR (r : Option Nat) (n : Nat) : (FR r).room n := fun _ h => by simp [FR, Fence.wide] at h
theorem depth_FR (r : Option Nat) (n : Nat) : (FR r).depth.isSome = true → 1 ≤ n := fun h => by simp [FR, Fence.wide] at h

abbrev Post := Exit → Act → World → Prop

section
variable (P : Program) (r : Option Nat) (g : World)

def WP (c : Code) (Q : Post) (Γ : Env) (L : List HP) : Prop := ∀ a w, Γ.ok a → Sat g L w → c.wpIn (FR r) 0 P Q a w
/-- The rest of a region. -/
def WL (ops : List Oper) (rest : List Oper) (Q : Post) (Γ : Env) (L : List HP) : Prop := ∀ a w, Γ.ok a → Sat g L w → wpListIn (FR r) 0 P ops.toArray Q rest a w
/-- A way out. -/
def PO (Q : Post) (e : Exit) (Γ : Env) (L : List HP) : Prop := ∀ a w, Γ.ok a → Sat g L w → Q e a w
/-- Behind a piece of code comes another. -/
def Then (y : Code) (Q : Post) : Post := Exit.then (y.wpIn (FR r) 0 P Q) Q

/-- One operation, whose value is known and which leaves the world alone (but for draws). -/
def EO (o : Oper) (Γ : Env) (L : List HP) (v : Value) : Prop := ∀ ρ w, (∀ x u, x ∈ o.op.operands → ev Γ x = some u → ρ x = u) → Sat g L w → (execOp ρ o).run P w = .ok (.value v) w ∧ ∀ c, o.op ≠ .defer c
/-- One operation, in general. -/
def HO (o : Oper) (Γ : Env) (L : List HP) (K : Value → List HP → Prop) : Prop := ∀ a w (Q : Post) (next : Act → World → Prop), Γ.ok a → Sat g L w →
  (∀ v L' w', K v L' → Sat g L' w' → next (a.put o.dst v) w') → o.wpIn (FR r) 0 P a w next Q
end

section
variable {P : Program} {r : Option Nat} {g : World} {Γ : Env} {L : List HP} {Q : Post}

theorem about_FR {o : Oper} {a : Act} {w : World} : ∀ f, o.about P w a.eval = some f → (FR r).fn f := fun _ _ => trivial

theorem WP.seq {x y : Code} (h : WP P r g x (Then P r y Q) Γ L) : WP P r g (.seq x y) Q Γ L := fun a w ha hw => wpIn_seq (h a w ha hw)
theorem WP.reg {id : Nat} {l : List Oper} (h : WL P r g l l Q Γ L) : WP P r g (.region id l.toArray false) Q Γ L := fun a w ha hw => wpIn_region_lit (h a w ha hw)
theorem WP.skip (h : PO g Q .normal Γ L) : WP P r g .skip Q Γ L := fun a w ha hw => wpIn_skip (h a w ha hw)
theorem WP.ret (h : PO g Q .ret Γ L) : WP P r g .ret Q Γ L := fun a w ha hw => wpIn_ret (h a w ha hw)
theorem WP.exit {id : Nat} (h : PO g Q (.exit id) Γ L) : WP P r g (.exit id) Q Γ L := fun a w ha hw => wpIn_exit (h a w ha hw)
theorem WP.block {id : Nat} {c : Code} (h : WP P r g c (Exit.inBlock id Q) Γ L) : WP P r g (.block id c) Q Γ L := fun a w ha hw => wpIn_block (h a w ha hw)
theorem WP.cond {c : Operand} {x y : Code} {t : Bool} (hc : ev Γ c = some (.bool t)) (ht : t = true → WP P r g x Q Γ L) (hf : t = false → WP P r g y Q Γ L) : WP P r g (.cond c x y) Q Γ L :=
  fun a w ha hw => wpIn_cond_split (ev_ok hc ha) (fun e => ht e a w ha hw) (fun e => hf e a w ha hw)
theorem WP.cond_t {c : Operand} {x y : Code} (hc : ev Γ c = some (.bool true)) (ht : WP P r g x Q Γ L) : WP P r g (.cond c x y) Q Γ L := fun a w ha hw => wpIn_cond_true (ev_ok hc ha) (ht a w ha hw)
theorem WP.cond_f {c : Operand} {x y : Code} (hc : ev Γ c = some (.bool false)) (hf : WP P r g y Q Γ L) : WP P r g (.cond c x y) Q Γ L := fun a w ha hw => wpIn_cond_false (ev_ok hc ha) (hf a w ha hw)
theorem WP.conv {c : Code} {M : List HP} (hc : ∀ S, stars L S → stars M S) (h : WP P r g c Q Γ M) : WP P r g c Q Γ L := fun a w ha hw => h a w ha (hw.conv hc)

theorem WL.nil {l : List Oper} (h : PO g Q .normal Γ L) : WL P r g l [] Q Γ L := fun a w ha hw => h a w ha hw
theorem PO.next {y : Code} (h : WP P r g y Q Γ L) : PO g (Then P r y Q) .normal Γ L := fun a w ha hw => h a w ha hw
theorem WL.next {l : List Oper} {y : Code} (h : WP P r g y Q Γ L) : WL P r g l [] (Then P r y Q) Γ L := fun a w ha hw => h a w ha hw
theorem PO.past {y : Code} {e : Exit} (he : e ≠ .normal) (h : PO g Q e Γ L) : PO g (Then P r y Q) e Γ L := fun a w ha hw => by
  have := h a w ha hw
  cases e <;> first | exact absurd rfl he | exact this
theorem PO.blockN {id : Nat} (h : PO g Q .normal Γ L) : PO g (Exit.inBlock id Q) .normal Γ L := h
theorem PO.blockR {id : Nat} (h : PO g Q .ret Γ L) : PO g (Exit.inBlock id Q) .ret Γ L := h
theorem PO.blockX {id : Nat} (h : PO g Q .normal Γ L) : PO g (Exit.inBlock id Q) (.exit id) Γ L := fun a w ha hw => by simpa [Exit.inBlock] using h a w ha hw
theorem PO.blockY {id id' : Nat} (hne : Nat.beq id' id = false) (h : PO g Q (.exit id') Γ L) : PO g (Exit.inBlock id Q) (.exit id') Γ L := fun a w ha hw => by
  have : id' ≠ id := ne_of_beq_no hne
  simpa [Exit.inBlock, this] using h a w ha hw

/-- A loop: 'I x' is what is known at the head of a round, 'μ' goes down. -/
def Again {α : Type} (g : World) (n : Nat) (D : List Deferred) (I : α → List (Nat × Value) × List HP) (φ : α → Prop) (μ : α → Nat) (x : α) : Act → World → Prop :=
  fun a w => ∃ y, φ y ∧ μ y < μ x ∧ Env.ok ⟨n, D, (I y).1⟩ a ∧ Sat g (I y).2 w

theorem WP.loop {α : Type} {c : Code} {D : List Deferred} {n : Nat} {l : List (Nat × Value)} (I : α → List (Nat × Value) × List HP) (φ : α → Prop) (μ : α → Nat) (x₀ : α) (h₀ : φ x₀) (hl : EnvSub (I x₀).1 l) (hL : Sub L (I x₀).2)
    (h : ∀ x, φ x → WP P r g c (Exit.then (Again g n D I φ μ x) Q) ⟨n, D, (I x).1⟩ (I x).2) : WP P r g (.loop c) Q ⟨n, D, l⟩ L := by
  intro a w ha hw
  refine wpIn_loop_ghost (fun k a w => ∃ x, φ x ∧ μ x = k ∧ Env.ok ⟨n, D, (I x).1⟩ a ∧ Sat g (I x).2 w) (μ x₀) ⟨x₀, h₀, rfl, Env.ok_sub ha hl, hw.conv fun _ => hL.to⟩ ?_
  rintro k a w ⟨x, hx, rfl, hax, hwx⟩
  refine wpIn_mono (h x hx a w hax hwx) ?_
  intro e a' w' hq
  cases e <;> first | exact hq | skip
  obtain ⟨z, hz, hlt, haz, hwz⟩ := hq
  exact ⟨_, hlt, z, hz, rfl, haz, hwz⟩

theorem PO.again {α : Type} {D : List Deferred} {n : Nat} {l : List (Nat × Value)} {I : α → List (Nat × Value) × List HP} {φ : α → Prop} {μ : α → Nat} {x : α} (y : α) (hφ : φ y) (hμ : μ y < μ x) (hl : EnvSub (I y).1 l) (hL : Sub L (I y).2) : PO g (Exit.then (Again g n D I φ μ x) Q) .normal ⟨n, D, l⟩ L :=
  fun _ _ ha hw => ⟨y, hφ, hμ, Env.ok_sub ha hl, hw.conv fun _ => hL.to⟩
theorem PO.round {K : Act → World → Prop} {e : Exit} (he : e ≠ .normal) (h : PO g Q e Γ L) : PO g (Exit.then K Q) e Γ L := fun a w ha hw => by
  have := h a w ha hw
  cases e <;> first | exact absurd rfl he | exact this

theorem WP.loopK {α : Type} {c : Code} {D : List Deferred} {n : Nat} {l : List (Nat × Value)} (E : α → List (Nat × Value)) (H : α → List HP) (keep : List (Nat × Value)) (φ : α → Prop) (μ : α → Nat) (x₀ : α) (h₀ : φ x₀)
    (h : ∀ x, φ x → WP P r g c (Exit.then (Again g n D (fun x => (E x ++ keep, H x)) φ μ x) Q) ⟨n, D, E x ++ keep⟩ (H x))
    (hl : EnvSub (E x₀ ++ keep) l := by repeat first | exact EnvSub.nil | refine EnvSub.cons rfl ?_) (hL : Sub L (H x₀) := by repeat first | exact .refl | exact Pick.z | apply Pick.s | apply Sub.cons | apply Sub.drop) : WP P r g (.loop c) Q ⟨n, D, l⟩ L :=
  WP.loop (fun x => (E x ++ keep, H x)) φ μ x₀ h₀ hl hL h
theorem PO.againK {α : Type} {D : List Deferred} {n : Nat} {l : List (Nat × Value)} {I : α → List (Nat × Value) × List HP} {φ : α → Prop} {μ : α → Nat} {x : α} (y : α) (hφ : φ y) (hμ : μ y < μ x)
    (hl : EnvSub (I y).1 l := by repeat first | exact EnvSub.nil | refine EnvSub.cons rfl ?_) (hL : Sub L (I y).2 := by repeat first | exact .refl | exact Pick.z | apply Pick.s | apply Sub.cons | apply Sub.drop) : PO g (Exit.then (Again g n D I φ μ x) Q) .normal ⟨n, D, l⟩ L := PO.again y hφ hμ hl hL

/-- A place where ways meet: behind 'c' this is known, for some 'x'. -/
def Meet {α : Type} (g : World) (n : Nat) (D : List Deferred) (I : α → List (Nat × Value) × List HP) (φ : α → Prop) : Act → World → Prop := fun a w => ∃ y, φ y ∧ Env.ok ⟨n, D, (I y).1⟩ a ∧ Sat g (I y).2 w
theorem WP.cut {α : Type} {c d : Code} {n : Nat} {D : List Deferred} (I : α → List (Nat × Value) × List HP) (φ : α → Prop) (h : WP P r g c (Exit.then (Meet g n D I φ) Q) Γ L) (hd : ∀ x, φ x → WP P r g d Q ⟨n, D, (I x).1⟩ (I x).2) :
    WP P r g (.seq c d) Q Γ L := fun a w ha hw => wpIn_seq (wpIn_mono (h a w ha hw) fun e a' w' hq => by
  cases e <;> first | exact hq | skip
  obtain ⟨y, hy, hay, hwy⟩ := hq
  exact hd y hy a' w' hay hwy)
theorem WP.cutK {α : Type} {c d : Code} {n : Nat} {D : List Deferred} {l : List (Nat × Value)} (E : α → List (Nat × Value)) (H : α → List HP) (keep : List (Nat × Value)) (φ : α → Prop) (h : WP P r g c (Exit.then (Meet g n D (fun x => (E x ++ keep, H x)) φ) Q) ⟨n, D, l⟩ L) (hd : ∀ x, φ x → WP P r g d Q ⟨n, D, E x ++ keep⟩ (H x)) :
    WP P r g (.seq c d) Q ⟨n, D, l⟩ L := WP.cut (fun x => (E x ++ keep, H x)) φ h hd
theorem PO.meet {α : Type} {D : List Deferred} {n : Nat} {l : List (Nat × Value)} {I : α → List (Nat × Value) × List HP} {φ : α → Prop} (y : α) (hφ : φ y) (hl : EnvSub (I y).1 l) (hL : Sub L (I y).2) :
    PO g (Exit.then (Meet g n D I φ) Q) .normal ⟨n, D, l⟩ L := fun _ _ ha hw => ⟨y, hφ, Env.ok_sub ha hl, hw.conv fun _ => hL.to⟩
theorem PO.meetK {α : Type} {D : List Deferred} {n : Nat} {l : List (Nat × Value)} {I : α → List (Nat × Value) × List HP} {φ : α → Prop} (y : α) (hφ : φ y) (hl : EnvSub (I y).1 l := by repeat first | exact EnvSub.nil | refine EnvSub.cons rfl ?_)
    (hL : Sub L (I y).2 := by repeat first | exact .refl | exact Pick.z | apply Pick.s | apply Sub.cons | apply Sub.drop) : PO g (Exit.then (Meet g n D I φ) Q) .normal ⟨n, D, l⟩ L := PO.meet y hφ hl hL

/-! ### The steps of a region -/

/-- Is an operation carried out? -/
def wants (ops : List Oper) (l : List (Nat × Value)) : Option (Nat × Bool) → Option Bool
  | none => some true
  | some (j, b) => match ((ops[j]?).bind (·.dst)).bind (look l) with
    | some (.bool c) => some (c == b)
    | some (.tuple _) => some false
    | _ => none

theorem wants_ok {ops : List Oper} {o : Oper} {a : Act} {b : Bool} (h : wants ops Γ.l o.guard = some b) (ha : Γ.ok a) : Region.wanted o (yielded ops.toArray a.tmps) = b := by
  unfold wants at h; unfold Region.wanted
  cases hg : o.guard with
  | none => rw [hg] at h; simpa using h
  | some x =>
    obtain ⟨j, c⟩ := x
    rw [hg] at h
    simp only at h ⊢
    unfold yielded
    simp only [List.getElem?_toArray]
    cases hd : (ops[j]?).bind (·.dst) with
    | none => rw [hd] at h; simp at h
    | some d =>
      rw [hd] at h
      simp only [Option.bind_some] at h ⊢
      cases hv : look Γ.l d with
      | none => rw [hv] at h; simp at h
      | some v =>
        rw [hv] at h
        rw [ha.at_ d v hv]
        cases v <;> simp_all

theorem WL.e {ops rest : List Oper} {n d : Nat} {D : List Deferred} {l : List (Nat × Value)} {op : Op} {t : TypeId} {pos : String} {aft : Array Edge} {gd : Option (Nat × Bool)} {v : Value}
    (he : EO P g ⟨some d, op, t, pos, aft, gd⟩ ⟨n, D, l⟩ L v) (h : WL P r g ops rest Q ⟨n, D, (d, v) :: l⟩ L) (hg : wants ops l gd = some true := by rfl) (hd : Nat.blt d n = true := by rfl) :
    WL P r g ops (⟨some d, op, t, pos, aft, gd⟩ :: rest) Q ⟨n, D, l⟩ L := by
  intro a w ha hw
  have hdn : d < n := by simpa using hd
  obtain ⟨hrun, hop⟩ := he a.eval w (fun x u _ hx => ev_ok hx ha) hw
  unfold wpListIn
  rw [if_pos (wants_ok (Γ := ⟨n, D, l⟩) hg ha)]
  refine ⟨about_FR, ?_⟩
  rw [Oper.semAt_eq _ _ _ hop, hrun]
  exact h _ w (Env.ok_put v ha hdn) hw
theorem WL.skip {ops rest : List Oper} {n d : Nat} {D : List Deferred} {l : List (Nat × Value)} {op : Op} {t : TypeId} {pos : String} {aft : Array Edge} {gd : Option (Nat × Bool)}
    (h : WL P r g ops rest Q ⟨n, D, (d, .tuple #[]) :: l⟩ L) (hg : wants ops l gd = some false := by rfl) (hd : Nat.blt d n = true := by rfl) :
    WL P r g ops (⟨some d, op, t, pos, aft, gd⟩ :: rest) Q ⟨n, D, l⟩ L := by
  intro a w ha hw
  have hdn : d < n := by simpa using hd
  unfold wpListIn
  rw [if_neg (by rw [wants_ok (Γ := ⟨n, D, l⟩) hg ha]; simp)]
  exact ⟨about_FR, h _ w (Env.ok_put _ ha hdn) hw⟩
theorem WL.skip' {ops rest : List Oper} {op : Op} {t : TypeId} {pos : String} {aft : Array Edge} {gd : Option (Nat × Bool)}
    (h : WL P r g ops rest Q Γ L) (hg : wants ops Γ.l gd = some false := by rfl) : WL P r g ops (⟨none, op, t, pos, aft, gd⟩ :: rest) Q Γ L := by
  intro a w ha hw
  unfold wpListIn
  rw [if_neg (by rw [wants_ok (Γ := Γ) hg ha]; simp)]
  exact ⟨about_FR, h _ w ha hw⟩
theorem WL.h {ops rest : List Oper} {n d : Nat} {D : List Deferred} {l : List (Nat × Value)} {op : Op} {t : TypeId} {pos : String} {aft : Array Edge} {gd : Option (Nat × Bool)}
    (h : HO P r g ⟨some d, op, t, pos, aft, gd⟩ ⟨n, D, l⟩ L fun v M => WL P r g ops rest Q ⟨n, D, (d, v) :: l⟩ M) (hg : wants ops l gd = some true := by rfl) (hd : Nat.blt d n = true := by rfl) :
    WL P r g ops (⟨some d, op, t, pos, aft, gd⟩ :: rest) Q ⟨n, D, l⟩ L := by
  intro a w ha hw
  have hdn : d < n := by simpa using hd
  unfold wpListIn
  rw [if_pos (wants_ok (Γ := ⟨n, D, l⟩) hg ha)]
  exact h a w Q _ ha hw fun v M w' hk hw' => hk _ w' (Env.ok_put v ha hdn) hw'
theorem WL.h' {ops rest : List Oper} {op : Op} {t : TypeId} {pos : String} {aft : Array Edge} {gd : Option (Nat × Bool)}
    (h : HO P r g ⟨none, op, t, pos, aft, gd⟩ Γ L fun _ M => WL P r g ops rest Q Γ M) (hg : wants ops Γ.l gd = some true := by rfl) : WL P r g ops (⟨none, op, t, pos, aft, gd⟩ :: rest) Q Γ L := by
  intro a w ha hw
  unfold wpListIn
  rw [if_pos (wants_ok (Γ := Γ) hg ha)]
  exact h a w Q _ ha hw fun v M w' hk hw' => hk a w' ha hw'
/-- A Bool in a slot is taken apart. -/
theorem WL.bool {ops rest : List Oper} {n : Nat} {D : List Deferred} {l : List (Nat × Value)} (d : Nat) {b : Bool} (hl : look l d = some (.bool b)) (ht : b = true → WL P r g ops rest Q ⟨n, D, (d, .bool true) :: l⟩ L)
    (hf : b = false → WL P r g ops rest Q ⟨n, D, (d, .bool false) :: l⟩ L) : WL P r g ops rest Q ⟨n, D, l⟩ L := by
  intro a w ha hw
  have hs : ∀ c, b = c → Env.ok ⟨n, D, (d, .bool c) :: l⟩ a := fun c e => by
    subst e
    refine ⟨ha.size, ha.defers, fun i v hi => ?_⟩
    simp only [look] at hi
    by_cases e : d = i
    · subst e; simp at hi; subst hi; exact ha.at_ _ _ hl
    · rw [beq_no e] at hi; exact ha.at_ _ _ hi
  cases hb : b with
  | true => exact ht hb a w (hs _ hb) hw
  | false => exact hf hb a w (hs _ hb) hw
theorem WL.conv {ops rest : List Oper} {M : List HP} (hc : ∀ S, stars L S → stars M S) (h : WL P r g ops rest Q Γ M) : WL P r g ops rest Q Γ L := fun a w ha hw => h a w ha (hw.conv hc)

theorem HO.run {o : Oper} {K : Value → List HP → Prop} (hop : ∀ c, o.op ≠ .defer c)
    (h : ∀ a w, Γ.ok a → Sat g L w → ∃ v M w', (execOp a.eval o).run P w = .ok (.value v) w' ∧ K v M ∧ Sat g M w') : HO P r g o Γ L K := by
  intro a w Q next ha hw hn
  obtain ⟨v, M, w', hr, hk, hw'⟩ := h a w ha hw
  refine ⟨about_FR, ?_⟩
  rw [Oper.semAt_eq _ _ _ hop, hr]
  exact hn v M w' hk hw'
theorem HO.run_skip {o : Oper} {K : Value → List HP → Prop} (hop : ∀ c, o.op ≠ .defer c)
    (h : ∀ a w, Γ.ok a → Sat g L w → ∃ M w', (execOp a.eval o).run P w = .ok .skip w' ∧ K (.tuple #[]) M ∧ Sat g M w') : HO P r g o Γ L K := by
  intro a w Q next ha hw hn
  obtain ⟨M, w', hr, hk, hw'⟩ := h a w ha hw
  refine ⟨about_FR, ?_⟩
  rw [Oper.semAt_eq _ _ _ hop, hr]
  exact hn _ M w' hk hw'

/-! ### Functions -/

/-- A contract: called with 'args' on what 'Pre' says, it returns, and then 'T' holds of the result and what is known behind. -/
def Spec (P : Program) (g : World) (f : FuncId) (args : List Value) (Pre : List HP) (T : (Value → List HP → Prop) → List HP → Prop) : Prop :=
  ∀ (R : List HP) (K : Value → List HP → Prop) (w : World), Sat g (Pre ++ R) w → T K R → Calls P f args.toArray w fun e w' => ∃ v M, e = .returned v ∧ K v M ∧ Sat g M w'

def RP (P : Program) (g : World) (fn : Func) (K : Value → List HP → Prop) : Post := bodyPostM Fence.wide 0 P fn fun e w' => ∃ v M, e = .returned v ∧ K v M ∧ Sat g M w'

def bindArgs : Nat → List Value → List (Nat × Value)
  | _, [] => []
  | i, v :: l => (i, v) :: bindArgs (i + 1) l

theorem look_bindArgs : ∀ (l : List Value) (i j : Nat) (v : Value), look (bindArgs i l) j = some v → i ≤ j ∧ l[j - i]? = some v
  | [], _, _, _, h => by cases h
  | u :: l, i, j, v, h => by
    simp only [bindArgs, look] at h
    by_cases e : i = j
    · subst e; simp at h; subst h; simp
    · rw [beq_no e] at h
      obtain ⟨h1, h2⟩ := look_bindArgs l (i + 1) j v h
      refine ⟨by omega, ?_⟩
      obtain ⟨k, rfl⟩ : ∃ k, j = i + 1 + k := ⟨j - (i + 1), by omega⟩
      have e1 : i + 1 + k - (i + 1) = k := by omega
      have e2 : i + 1 + k - i = k + 1 := by omega
      rw [e1] at h2; rw [e2]; simpa using h2

theorem Spec.intro {f : FuncId} {fn : Func} {c : Code} {args : List Value} {Pre : List HP} {T : (Value → List HP → Prop) → List HP → Prop} {n : Nat} (hf : P.funcs[f]? = some fn) (hb : fn.body = some c) (hn : fn.ntmps = n) (hle : Nat.ble args.length n = true)
    (h : ∀ (R : List HP) (K : Value → List HP → Prop), T K R → WP P none g c (RP P g fn K) ⟨n, [], bindArgs 0 args⟩ (Pre ++ R)) : Spec P g f args Pre T := by
  intro R K w hw hT
  have hle' : args.length ≤ n := by simpa using hle
  have h1 : CallsIn Fence.wide 0 P f args.toArray w fun e w' => ∃ v M, e = .returned v ∧ K v M ∧ Sat g M w' := by
    refine callsIn_of_wp_marks hf hb trivial ?_
    refine h R K hT _ w ⟨?_, rfl, ?_⟩ hw
    · simp; omega
    · intro i v hi
      obtain ⟨_, h2⟩ := look_bindArgs args 0 i v hi
      simp only [Nat.sub_zero] at h2
      have hlt : i < args.length := by
        rcases Nat.lt_or_ge i args.length with h' | h'
        · exact h'
        · rw [List.getElem?_eq_none h'] at h2; cases h2
      simp only
      rw [Array.getElem?_append_left (by simpa using hlt)]
      simpa using h2
  exact callsIn_wide.1 h1

/-- The results, as they are read when the function returns. -/
def readRV (a : Act) : ResultVar → Sem Value
  | .tmp t => pure (a.tmps.getD t undef)
  | .cell p t => do loadVar t (← asAddr (a.tmps.getD p undef))
def RV (P : Program) (g : World) (Γ : Env) (L : List HP) : List ResultVar → List Value → Prop
  | [], vs => vs = []
  | x :: rs, vs => ∃ v us, vs = v :: us ∧ (∀ a w, Γ.ok a → Sat g L w → (readRV a x).run P w = .ok v w) ∧ RV P g Γ L rs us
def tupOf : List Value → Value
  | [v] => v
  | vs => .tuple vs.toArray
@[simp] theorem tupOf0 : tupOf [] = .tuple #[] := rfl
@[simp] theorem tupOf1 {v : Value} : tupOf [v] = v := rfl
@[simp] theorem tupOf2 {u v : Value} {l : List Value} : tupOf (u :: v :: l) = .tuple (u :: v :: l).toArray := rfl
theorem rv_nil : RV P g Γ L [] [] := rfl
theorem rv_tmp {t : Tmp} {v : Value} {rs : List ResultVar} {vs : List Value} (h : RV P g Γ L rs vs) (hv : look Γ.l t = some v := by rfl) : RV P g Γ L (.tmp t :: rs) (v :: vs) :=
  ⟨v, vs, rfl, fun a w ha _ => by simp [readRV, ha.at_ t v hv], h⟩
theorem RV.run : ∀ (rs : List ResultVar) (vs : List Value), RV P g Γ L rs vs → ∀ a w, Γ.ok a → Sat g L w → (rs.mapM (readRV a)).run P w = .ok vs w
  | [], vs, h, a, w, _, _ => by cases h; rfl
  | x :: rs, vs, h, a, w, ha, hw => by
    obtain ⟨v, us, rfl, h1, h2⟩ := h
    simp only [List.mapM_cons, Sem.run_bind, h1 a w ha hw, Result.andThen_ok, RV.run rs us h2 a w ha hw, Sem.run_pure]
theorem run_results {fn : Func} {rs : List ResultVar} {vs : List Value} (hr : fn.results = rs.toArray) (h : RV P g Γ L rs vs) {a : Act} {w : World} (ha : Γ.ok a) (hw : Sat g L w) : (results fn a.tmps).run P w = .ok (tupOf vs) w := by
  show (do let vs ← fn.results.mapM (readRV a); pure (if h : vs.size = 1 then vs[0] else .tuple vs) : Sem Value).run P w = _
  rw [hr, Array.mapM_eq_mapM_toList]
  simp only [Sem.run_bind, Sem.run_map]
  rw [RV.run rs vs h a w ha hw]
  simp only [Result.andThen_ok]
  cases vs with
  | nil => rfl
  | cons v vs => cases vs <;> rfl

theorem PO.fin {fn : Func} {K : Value → List HP → Prop} {e : Exit} {n : Nat} {l : List (Nat × Value)} {rs : List ResultVar} {vs : List Value} {M : List HP} (hr : fn.results = rs.toArray) (hv : RV P g ⟨n, [], l⟩ L rs vs) (hk : K (tupOf vs) M)
    (hL : Sub L M := by repeat first | exact .refl | exact Pick.z | apply Pick.s | apply Sub.cons | apply Sub.drop) (he : e = .ret ∨ e = .normal := by first | exact .inl rfl | exact .inr rfl) : PO g (RP P g fn K) e ⟨n, [], l⟩ L := by
  intro a w ha hw
  have : LeavesInM Fence.wide 0 P fn a.tmps (fun e w' => ∃ v M, e = .returned v ∧ K v M ∧ Sat g M w') a.defers .returning w := by
    rw [show a.defers = [] from ha.defers]
    exact ⟨tupOf vs, run_results hr hv ha hw, _, M, rfl, hk, hw.conv fun _ => hL.to⟩
  rcases he with rfl | rfl <;> exact this
theorem PO.finE {fn : Func} {K : Value → List HP → Prop} {e : Exit} {n : Nat} {l : List (Nat × Value)} {rs : List ResultVar} {vs : List Value} {v : Value} {M : List HP} (hr : fn.results = rs.toArray) (hv : RV P g ⟨n, [], l⟩ L rs vs) (hE : tupOf vs = v) (hk : K v M)
    (hL : Sub L M := by repeat first | exact .refl | exact Pick.z | apply Pick.s | apply Sub.cons | apply Sub.drop) (he : e = .ret ∨ e = .normal := by first | exact .inl rfl | exact .inr rfl) : PO g (RP P g fn K) e ⟨n, [], l⟩ L := PO.fin hr hv (hE ▸ hk) hL he
/-- The same, where a range over a function has left its mark. -/
theorem PO.finM {fn : Func} {K : Value → List HP → Prop} {e : Exit} {n d : Nat} {l : List (Nat × Value)} {rs : List ResultVar} {vs : List Value} {M N : List HP} {as : Array Value} (hp : Put L (pt d (.deferred (some []))) (pt d (.deferred none)) N) (hr : fn.results = rs.toArray) (hv : RV P g ⟨n, [⟨.collected d, as⟩], l⟩ N rs vs) (hk : K (tupOf vs) M)
    (hL : Sub N M := by repeat first | exact .refl | exact Pick.z | apply Pick.s | apply Sub.cons | apply Sub.drop) (he : e = .ret ∨ e = .normal := by first | exact .inl rfl | exact .inr rfl) : PO g (RP P g fn K) e ⟨n, [⟨.collected d, as⟩], l⟩ L := by
  intro a w ha hw
  obtain ⟨R, p1, _⟩ := hp.picks
  have hd := hw.get p1
  have hw' : Sat g N { w with heap := w.heap.setIfInBounds d (.deferred none) } := by
    have hlt : d < w.heap.size := by
      rcases Nat.lt_or_ge d w.heap.size with h' | h'
      · exact h'
      · rw [Array.getElem?_eq_none h'] at hd; cases hd
    exact hw.set hp _ rfl rfl rfl (by simp) (by simp [hlt]) (fun i hi => by simp [Array.getElem?_setIfInBounds_ne (Ne.symm hi)])
  have : LeavesInM Fence.wide 0 P fn a.tmps (fun e w' => ∃ v M, e = .returned v ∧ K v M ∧ Sat g M w') a.defers .returning w := by
    rw [show a.defers = [⟨.collected d, as⟩] from ha.defers]
    refine ⟨by simp, .inl ⟨d, { w with heap := w.heap.setIfInBounds d (.deferred none) }, rfl, ?_, ?_⟩⟩
    · simp [Instr.takeDeferred, getObj, setObj, Sem.run, hd]
    · exact ⟨tupOf vs, run_results hr hv ha hw', _, M, rfl, hk, hw'.conv fun _ => hL.to⟩
  rcases he with rfl | rfl <;> exact this

/-- Two ways through a part of a region meet again: slot 'd' holds 'v' either way. -/
theorem EnvSub.skip {l m : List (Nat × Value)} {d : Nat} {v : Value} (hs : EnvSub l m) (h : look l d = none := by rfl) : EnvSub l ((d, v) :: m) := fun i u hi => by
  by_cases e : d = i
  · subst e; rw [h] at hi; cases hi
  · simp only [look]; rw [beq_no e]; exact hs i u hi
theorem EnvSub.same {l : List (Nat × Value)} {d : Nat} {b c : Bool} (h : look l d = some (.bool b)) (hb : b = c) : EnvSub l ((d, .bool c) :: l) := fun i u hi => by
  by_cases e : d = i
  · subst e; rw [h] at hi; cases hi; subst hb; simp [look]
  · simp only [look]; rw [beq_no e]; exact hi
theorem EnvSub.refl {l : List (Nat × Value)} : EnvSub l l := fun _ _ h => h
/-- The end of a part of a region. -/
def Seg (g : World) (n : Nat) (D : List Deferred) (l : List (Nat × Value)) (L : List HP) : Post := fun e a w => e = .normal ∧ Env.ok ⟨n, D, l⟩ a ∧ Sat g L w
theorem PO.seg {n : Nat} {D : List Deferred} {l m : List (Nat × Value)} {M : List HP} (hl : EnvSub m l) (hL : Sub L M := by repeat first | exact .refl | exact Pick.z | apply Pick.s | apply Sub.cons | apply Sub.drop) : PO g (Seg g n D m M) .normal ⟨n, D, l⟩ L :=
  fun _ _ ha hw => ⟨rfl, Env.ok_sub ha hl, hw.conv fun _ => hL.to⟩
theorem wpListIn_append {ops : Array Oper} {Q : Post} {F : Fence} {k : Nat} (l m : List Oper) : ∀ (a : Act) (w : World), wpListIn F k P ops (fun e a w => e = .normal ∧ wpListIn F k P ops Q m a w) l a w → (∀ c a w, ¬ (fun (e : Exit) (a : Act) (w : World) => e = .normal ∧ wpListIn F k P ops Q m a w) (.panic c) a w) → wpListIn F k P ops Q (l ++ m) a w := by
  induction l with
  | nil => exact fun a w h _ => h.2
  | cons o l ih =>
    intro a w h hn
    show wpListIn F k P ops Q (o :: (l ++ m)) a w
    unfold wpListIn at h ⊢
    by_cases hw : Region.wanted o (yielded ops a.tmps) = true
    · rw [if_pos hw] at h ⊢
      refine Oper.wpIn_mono (Q := Q) (fun a w h => ih a w h hn) ?_
      refine ⟨h.1, ?_⟩
      have h2 := h.2
      generalize (o.semAt F.round a.eval).run P w = x at *
      cases x with
      | ok y w' =>
        cases y <;> simp only [Oper.uponIn] at h2 ⊢ <;> first
          | exact h2
          | exact ⟨h2.1, CallsIn.mono h2.2 (fun e w'' he => by cases e <;> first | exact he | exact (nomatch he.1) | (obtain ⟨_, _, h0, _⟩ := he; exact nomatch h0))⟩
          | exact ⟨h2.1, RoundIn.mono h2.2 (fun e w'' he => by cases e <;> first | exact he | exact (nomatch he.1) | (obtain ⟨_, _, h0, _⟩ := he; exact nomatch h0))⟩
      | halt y w' =>
        cases y <;> simp only [Oper.uponIn] at h2 ⊢ <;> first
          | exact h2
          | (obtain ⟨h0, _⟩ := h2; cases h0)
    · rw [if_neg hw] at h ⊢
      exact ⟨h.1, ih _ _ h.2 hn⟩
theorem WL.seg {ops seg rest : List Oper} {n : Nat} {D : List Deferred} {l : List (Nat × Value)} (m : List (Nat × Value)) (M : List HP) (h1 : WL P r g ops seg (Seg g n D m M) ⟨n, D, l⟩ L) (h2 : WL P r g ops rest Q ⟨n, D, m⟩ M) : WL P r g ops (seg ++ rest) Q ⟨n, D, l⟩ L := by
  intro a w ha hw
  refine wpListIn_append seg rest a w ?_ (fun c a w h => by cases h.1)
  have h := h1 a w ha hw
  refine wpListIn_mono' ?_ h
  rintro e a' w' ⟨rfl, ha', hw'⟩
  exact ⟨rfl, h2 a' w' ha' hw'⟩
where
  wpListIn_mono' {ops : Array Oper} {Q Q' : Post} {F : Fence} {k : Nat} (hq : ∀ e a w, Q e a w → Q' e a w) : ∀ {l : List Oper} {a : Act} {w : World}, wpListIn F k P ops Q l a w → wpListIn F k P ops Q' l a w
    | [], _, _, h => hq _ _ _ h
    | o :: l, a, w, h => by
      unfold wpListIn at h ⊢
      by_cases hw : Region.wanted o (yielded ops a.tmps) = true
      · rw [if_pos hw] at h ⊢
        refine Oper.wpIn_mono (Q := Q') (fun a w h => wpListIn_mono' hq h) ?_
        refine ⟨h.1, ?_⟩
        have h2 := h.2
        generalize (o.semAt F.round a.eval).run P w = x at *
        cases x with
        | ok y w' =>
          cases y <;> simp only [Oper.uponIn] at h2 ⊢ <;> first
            | exact h2
            | exact ⟨h2.1, CallsIn.mono h2.2 (fun e w'' he => by cases e <;> first | exact he | exact hq _ _ _ he | (obtain ⟨a, w, h0⟩ := he; exact ⟨a, w, hq _ _ _ h0⟩))⟩
            | exact ⟨h2.1, RoundIn.mono h2.2 (fun e w'' he => by cases e <;> first | exact he | exact hq _ _ _ he | (obtain ⟨a, w, h0⟩ := he; exact ⟨a, w, hq _ _ _ h0⟩))⟩
        | halt y w' =>
          cases y <;> simp only [Oper.uponIn] at h2 ⊢ <;> first
            | exact h2
            | exact hq _ _ _ h2
      · rw [if_neg hw] at h ⊢
        exact ⟨h.1, wpListIn_mono' hq h.2⟩

/-- The first operations of a list, and the rest. -/
inductive Cut : List Oper → List Oper → List Oper → Prop
  | n {l : List Oper} : Cut [] l l
  | c {o : Oper} {a b l : List Oper} : Cut a b l → Cut (o :: a) b (o :: l)
theorem Cut.eq {a b l : List Oper} (h : Cut a b l) : l = a ++ b := by
  induction h with
  | n => rfl
  | c _ ih => rw [ih]; rfl
theorem WL.join {ops seg rest xs : List Oper} {n : Nat} {D : List Deferred} {l : List (Nat × Value)} (d : Nat) (v : Value) (hc : Cut seg rest xs) (h1 : WL P r g ops seg (Seg g n D ((d, v) :: l) L) ⟨n, D, l⟩ L)
    (h2 : WL P r g ops rest Q ⟨n, D, (d, v) :: l⟩ L) : WL P r g ops xs Q ⟨n, D, l⟩ L := by
  rw [hc.eq]; exact WL.seg _ _ h1 h2
theorem PO.joined {n d : Nat} {D : List Deferred} {l m : List (Nat × Value)} {u v : Value} {M : List HP} (hu : look m d = some u) (he : u = v) (hl : EnvSub l m := by repeat first | exact EnvSub.refl | exact EnvSub.same rfl (by assumption) | refine EnvSub.skip ?_ rfl)
    (hL : Sub L M := by repeat first | exact .refl | exact Pick.z | apply Pick.s | apply Sub.cons | apply Sub.drop) : PO g (Seg g n D ((d, v) :: l) M) .normal ⟨n, D, m⟩ L := PO.seg (EnvSub.cons (he ▸ hu) hl) hL

end
end Go.SL
