/- The steps of the walk: functions as values, a range over a function. -/
import Derived.Test.YtdfomffmfnpfoaaGreatSLi
set_option linter.unusedSimpArgs false
set_option linter.unusedVariables false
set_option linter.unusedSectionVars false
namespace Go.SL
open Go

/-- Several pieces as one. -/
def bun (L : List HP) : HP := stars L
def ex {α : Type} (A : α → HP) : HP := fun S => ∃ x, A x S
theorem stars_bun {L M : List HP} {S : Piece} (h : stars (bun L :: M) S) : stars (L ++ M) S := stars_append' h
theorem bun_stars {L M : List HP} {S : Piece} (h : stars (L ++ M) S) : stars (bun L :: M) S := stars_append h
theorem stars_ex {α : Type} {A : α → HP} {M : List HP} {S : Piece} (h : stars (ex A :: M) S) : ∃ x, stars (A x :: M) S := by
  obtain ⟨S1, S2, a, b, c, ⟨x, d⟩, e⟩ := h; exact ⟨x, S1, S2, a, b, c, d, e⟩
theorem ex_stars {α : Type} {A : α → HP} {M : List HP} {S : Piece} (x : α) (h : stars (A x :: M) S) : stars (ex A :: M) S := by
  obtain ⟨S1, S2, a, b, c, d, e⟩ := h; exact ⟨S1, S2, a, b, c, ⟨x, d⟩, e⟩
theorem stars_pu {φ : Prop} {M : List HP} {S : Piece} (h : stars (pu φ :: M) S) : φ ∧ stars M S := ⟨let ⟨_, _, _, _, _, h, _⟩ := h; h, stars_tail h⟩
theorem pu_stars {φ : Prop} {M : List HP} {S : Piece} (h : φ) (hs : stars M S) : stars (pu φ :: M) S := ⟨fun _ => none, S, fun _ => .inl rfl, (fun _ _ h => by cases h), le_refl _, h, hs⟩

def RetK (g : World) (K : Value → List HP → Prop) : Ending → World → Prop := fun e w' => ∃ v M, e = .returned v ∧ K v M ∧ Sat g M w'

/-- What is known of a function's value: called with 'args' on what 'Pre' says .. -/
def CallV (P : Program) (g : World) (y : Value) (args : List Value) (Pre : List HP) (T : (Value → List HP → Prop) → List HP → Prop) : Prop :=
  ∀ (R : List HP) (K : Value → List HP → Prop) (w : World) (r : Option Nat), Sat g (Pre ++ R) w → T K R →
    ∃ d nx w', (∀ w, (Deferred.ofValue y args.toArray).run P w = .ok d w) ∧ (invoke d.target d.args).run P w = .ok nx w' ∧
      match nx with
      | .enter f as => Calls P f as w' (RetK g K)
      | .round l fn tmps assign body => RoundIn (FR r) 0 P l fn tmps assign body w' (RetK g K)
      | _ => False

section
variable {P : Program} {r : Option Nat} {g : World} {Γ : Env} {L M : List HP} {dst : Option Tmp} {t : TypeId} {pos : String} {aft : Array Edge} {gd : Option (Nat × Bool)}

theorem CallV.of_spec {f : FuncId} {fs cs args : List Value} {Pre : List HP} {T : (Value → List HP → Prop) → List HP → Prop} (hs : Spec P g f (fs ++ args ++ cs) Pre T) (hf : callable P f = true) : CallV P g (.func (.func f) fs.toArray cs.toArray) args Pre T :=
  fun R K w _ hw hT => ⟨{ target := .fn (.func f) cs.toArray, args := fs.toArray ++ args.toArray }, .enter f (fs ++ args ++ cs).toArray, w, fun w => rfl, by
    simp only [invoke]; rw [callFunc_enter hf]; simp, hs R K w hw hT⟩
theorem h_cally {y : Value} {x : Operand} {as : List Operand} {ts : Array TypeId} {args : List Value} {Pre R : List HP} {T : (Value → List HP → Prop) → List HP → Prop} {K : Value → List HP → Prop} (hs : CallV P g y args Pre T) (hK : T K R) (hx : ev Γ x = some y := by rfl) (ha : evs Γ as = some args := by rfl)
    (hL : Split L Pre R := by repeat first | exact .nil | exact Pick.z | apply Pick.s | apply Split.cons) : HO P r g ⟨dst, .call ⟨.value x, as.toArray, ts⟩, t, pos, aft, gd⟩ Γ L K := by
  intro a w Q next hΓ hw hn
  refine ⟨about_FR, ?_⟩
  rw [Oper.semAt_eq _ _ _ (by simp)]
  obtain ⟨d, nx, w', h1, h2, h3⟩ := hs R K w r (hw.conv fun _ => hL.to) hK
  have hrun : (execOp a.eval ⟨dst, .call ⟨.value x, as.toArray, ts⟩, t, pos, aft, gd⟩).run P w = .ok nx w' := by
    have hm : as.toArray.map a.eval = args.toArray := evs_mapA ha (fun x u _ hx => ev_ok hx hΓ)
    show (do let d ← resolve a.eval ⟨.value x, as.toArray, ts⟩ t; invoke d.target d.args : Sem Next).run P w = _
    simp only [resolve, hm, ev_ok hx hΓ, Sem.run_bind, h1, Result.andThen_ok, h2]
  rw [hrun]
  cases nx <;> simp only at h3 <;> first | exact h3.elim | skip
  · refine ⟨depth_FR r 0, HO.enter.callsIn_fr (h3.mono ?_)⟩
    rintro e w'' ⟨v, M, rfl, hk, hw'⟩
    exact hn v M w'' hk hw'
  · refine ⟨depth_FR r 0, RoundIn.mono h3 ?_⟩
    rintro e w'' ⟨v, M, rfl, hk, hw'⟩
    exact hn v M w'' hk hw'

/-! ### A range over a function -/
/-- None of them has stopped it. -/
def Hist {α : Type} (cont : List α → α → Prop) (pre : List α) : Prop := ∀ p x q, pre = p ++ x :: q → cont p x
theorem Hist.nil {α : Type} {cont : List α → α → Prop} : Hist cont [] := fun p x q h => by simp at h
theorem Hist.snoc {α : Type} {cont : List α → α → Prop} {pre : List α} {x : α} (h : Hist cont pre) (hx : cont pre x) : Hist cont (pre ++ [x]) := fun p y q e => by
  rcases List.append_eq_append_iff.1 e with ⟨as, h1, h2⟩ | ⟨as, h1, h2⟩
  · cases as with
    | nil => simp at h1 h2; obtain ⟨rfl, rfl⟩ := h2; subst h1; exact hx
    | cons b bs => simp at h2
  · cases as with
    | nil => simp at h1 h2; obtain ⟨rfl, rfl⟩ := h2; subst h1; exact hx
    | cons b bs => simp at h2; obtain ⟨rfl, h3⟩ := h2; exact h p y bs h1
/-- The contract of an iterator: 'All': what may come in all, 'Pfx': what may have come. -/
def Iter {α : Type} (P : Program) (g : World) (f : FuncId) (args : Value → List Value) (Pre : List HP) (enc : α → List Value) (Res : α → HP) (All Pfx : List α → Prop) (Out : List HP) : Prop :=
  ∀ (y : Value) (J : List α → HP) (X : List α → α → HP) (cont : List α → α → Prop),
    (∀ pre x, Pfx (pre ++ [x]) → Hist cont pre → CallV P g y (enc x) [J pre, Res x] fun K R => (cont pre x → K (.bool true) (J (pre ++ [x]) :: R)) ∧ (¬ cont pre x → K (.bool false) (X pre x :: R))) →
    Spec P g f (args y) (J [] :: Pre) fun K R => (∀ xs, All xs → Hist cont xs → K (.tuple #[]) (J xs :: (Out ++ R))) ∧
      (∀ pre x, Pfx (pre ++ [x]) → Hist cont pre → ¬ cont pre x → K (.tuple #[]) (X pre x :: (Out ++ R)))

/-- The record of a loop. -/
def Lp (l : Nat) (rec : Loop) : HP := pt l (.loop rec)
/-- The end of a round. -/
def RndP (P : Program) (g : World) (l : Nat) (rec : Loop) (A : HP) (B : Code → HP) (c : Prop) (R : List HP) : Post := roundPost P l fun e w' =>
  (c ∧ e = .returned (.bool true) ∧ Sat g (Lp l { rec with state := .ready, pending := none } :: A :: R) w') ∨ (¬ c ∧ e = .returned (.bool false) ∧ ∃ j, Sat g (Lp l { rec with state := .done, pending := some j } :: B j :: R) w')
section rounds
variable {l : Nat} {rec : Loop} {A : HP} {B : Code → HP} {c : Prop} {R : List HP}
theorem run_getLoop {w : World} (h : w.heap[l]? = some (.loop rec)) : (Instr.getLoop l).run P w = .ok rec w := by
  unfold Instr.getLoop
  rw [Sem.run_bind, run_getObj h (by simp)]; rfl
theorem run_endRound {w : World} (h : w.heap[l]? = some (.loop rec)) (j : Option Code) : (Instr.endRound l j).run P w = .ok (.bool j.isNone) { w with heap := w.heap.setIfInBounds l (.loop { rec with state := if j.isNone then .ready else .done, pending := j }) } := by
  unfold Instr.endRound
  simp only [Sem.run_bind, run_getLoop h, Result.andThen_ok, run_setObj h (by simp), Sem.run_pure]
theorem lp_set {w : World} {rec' : Loop} (hw : Sat g (Lp l rec :: M) w) : Sat g (Lp l rec' :: M) { w with heap := w.heap.setIfInBounds l (.loop rec') } := by
  obtain ⟨S1, S2, hd, l1, l2, h1, h2⟩ := hw.heap
  exact Sat.setObj (B := Lp l rec') hw hd l1 l2 h1 h2 fun S hS _ => hS
theorem PO.rnd {n : Nat} {D : List Deferred} {m : List (Nat × Value)} (hc : c) (hL : Sub L (Lp l rec :: A :: R)) : PO g (RndP P g l rec A B c R) .normal ⟨n, D, m⟩ L := fun a w _ hw => by
  have hw' := hw.conv fun _ => hL.to
  refine ⟨_, _, run_endRound (hw'.get .z) none, .inl ⟨hc, rfl, lp_set hw'⟩⟩
theorem PO.rnd_ret {n : Nat} {D : List Deferred} {m : List (Nat × Value)} (hc : ¬ c) (hL : Sub L (Lp l rec :: B .ret :: R)) : PO g (RndP P g l rec A B c R) .ret ⟨n, D, m⟩ L := fun a w _ hw => by
  have hw' := hw.conv fun _ => hL.to
  refine ⟨_, _, run_endRound (hw'.get .z) (some .ret), .inr ⟨hc, rfl, .ret, lp_set hw'⟩⟩
theorem PO.rnd_exit {n id : Nat} {D : List Deferred} {m : List (Nat × Value)} (hc : ¬ c) (hL : Sub L (Lp l rec :: B (.exit id) :: R)) : PO g (RndP P g l rec A B c R) (.exit id) ⟨n, D, m⟩ L := fun a w _ hw => by
  have hw' := hw.conv fun _ => hL.to
  refine ⟨_, _, run_endRound (hw'.get .z) (some (.exit id)), .inr ⟨hc, rfl, .exit id, lp_set hw'⟩⟩
end rounds

def setParams (ps : List Tmp) (vs : List Value) (l : List (Nat × Value)) : List (Nat × Value) := (ps.zip vs).foldl (fun l p => p :: l) l

theorem setParams_ok {n : Nat} {ps : List Tmp} {vs : List Value} {l : List (Nat × Value)} {tmps : Array Value} (hps : ps.all (Nat.blt · n) = true) (h : Env.ok ⟨n, [], l⟩ ⟨tmps, []⟩) :
    Env.ok ⟨n, [], setParams ps vs l⟩ ⟨(ps.toArray.zip vs.toArray).foldl (fun tmps (t, a) => tmps.setIfInBounds t a) tmps, []⟩ := by
  unfold setParams
  rw [List.zip_toArray, List.foldl_toArray]
  induction ps generalizing vs l tmps with
  | nil => simpa using h
  | cons p ps ih =>
    cases vs with
    | nil => simpa using h
    | cons v vs =>
      simp only [List.all_cons, Bool.and_eq_true] at hps
      simp only [List.zip_cons_cons, List.foldl_cons]
      exact ih hps.2 (Env.ok_put (a := ⟨tmps, []⟩) v h (by simpa using hps.1))

/-- Behind the assignments to the loop's variables the round begins. -/
def AsgP (P : Program) (g : World) (l : Nat) (body : Code) (Q : Post) : Post := Exit.then (fun a₁ w₁ => ∃ w₂, (Instr.beginRound l).run P w₁ = .ok () w₂ ∧ body.wpIn (FR (some l)) 0 P Q a₁ w₂) (fun _ _ _ => False)
theorem PO.asg {l n : Nat} {body : Code} {Q : Post} {rec : Loop} {D : List Deferred} {m : List (Nat × Value)} (hr : rec.state = .ready) (hp : Put L (Lp l rec) (Lp l { rec with state := .busy }) M) (h : WP P (some l) g body Q ⟨n, D, m⟩ M) : PO g (AsgP P g l body Q) .normal ⟨n, D, m⟩ L := fun a w ha hw => by
  obtain ⟨R, p1, p2⟩ := hp.picks
  have hw1 := hw.conv fun _ => p1.to
  refine ⟨_, ?_, h a _ ha ((lp_set (rec' := { rec with state := .busy }) hw1).conv fun _ => p2.back)⟩
  unfold Instr.beginRound
  simp only [Sem.run_bind, run_getLoop (hw1.get .z), Result.andThen_ok, run_setObj (hw1.get .z) (by simp)]
  rw [hr]; rfl

theorem stars_move {A : HP} : ∀ {L M : List HP} {S : Piece}, stars (A :: (L ++ M)) S → stars (L ++ A :: M) S
  | [], _, _, h => h
  | _ :: _, _, _, h => stars_cons (fun _ => stars_move) (stars_swap h)
theorem stars_unmove {A : HP} : ∀ {L M : List HP} {S : Piece}, stars (L ++ A :: M) S → stars (A :: (L ++ M)) S
  | [], _, _, h => h
  | _ :: _, _, _, h => stars_swap (stars_cons (fun _ => stars_unmove) h)
theorem run_endLoop {lb : Nat} {rec : Loop} {w : World} (h : w.heap[lb]? = some (.loop rec)) (hb : (rec.state == .busy) = false) : (Instr.endLoop lb).run P w = .ok rec.pending { w with heap := w.heap.setIfInBounds lb (.loop { rec with state := .exhausted }) } := by
  unfold Instr.endLoop
  simp only [Sem.run_bind, run_getLoop h, Result.andThen_ok, hb, Bool.false_eq_true, if_false, Sem.run_pure, run_setObj h (by simp)]
theorem yield_run {lb : Nat} {rec : Loop} {w : World} {args : List Value} (h : w.heap[lb]? = some (.loop rec)) (hl : args.length = rec.params.size) :
    (invoke (.fn (.yield lb) #[]) args.toArray).run P w = .ok (.round lb rec.fn ((rec.params.zip args.toArray).foldl (fun tmps (t, a) => tmps.setIfInBounds t a) rec.tmps) rec.assign rec.body) w := by
  simp only [invoke, Instr.yield, Sem.run_bind, run_getLoop h, Result.andThen_ok]
  rw [if_neg (by simp [hl])]; rfl
theorem WP.range {α : Type} {enc : α → List Value} {gop : Operand} {ps : List Tmp} {assign body : Code} {fs cs : List Value} {f : FuncId} {n : Nat} {D : List Deferred} {l : List (Nat × Value)} {Pre Out R : List HP} {All Pfx : List α → Prop} {Q : Post}
    (J : List α → HP) (X : List α → α → Code → HP) (cont : List α → α → Prop) {Res : α → HP} (hit : Iter P g f (fun y => fs ++ [y] ++ cs) Pre enc Res All Pfx Out) (hf : callable P f = true)
    (hL : Split L (J [] :: Pre) R)
    (hbody : ∀ lb db fn tmps pre x R', Pfx (pre ++ [x]) → Hist cont pre → WP P (some lb) g assign (AsgP P g lb body (RndP P g lb ⟨.busy, none, fn, tmps, ps.toArray, assign, body, db⟩ (J (pre ++ [x])) (X pre x) (cont pre x) R')) ⟨n, [], setParams ps (enc x) l⟩ (Lp lb ⟨.ready, none, fn, tmps, ps.toArray, assign, body, db⟩ :: J pre :: Res x :: R'))
    (hdone : ∀ db xs, All xs → Hist cont xs → PO g Q .normal ⟨n, ⟨.collected db, #[]⟩ :: D, l⟩ (J xs :: pt db (.deferred (some [])) :: (Out ++ R)))
    (hstop : ∀ db pre x j, Pfx (pre ++ [x]) → Hist cont pre → ¬ cont pre x → WP P none g j Q ⟨n, ⟨.collected db, #[]⟩ :: D, l⟩ (X pre x j :: pt db (.deferred (some [])) :: (Out ++ R)))
    (hpl : ∀ x, (enc x).length = ps.length) (hg : ev ⟨n, D, l⟩ gop = some (.func (.func f) fs.toArray cs.toArray) := by rfl) (hps : ps.all (Nat.blt · n) = true := by rfl) : WP P none g (.rangeFunc gop ps.toArray assign body) Q ⟨n, D, l⟩ L := by
  intro a w ha hw
  refine wpIn_rangeFunc fun fn _ => ?_
  let db := w.heap.size
  let lb := w.heap.size + 1
  let rec0 : Loop := ⟨.ready, none, fn, a.tmps, ps.toArray, assign, body, db⟩
  let w1 : World := (w.alloc (.deferred (some []))).alloc (.loop rec0)
  have hent : (Instr.enterLoop fn a.tmps ps.toArray assign body (FR none).round).run P w = .ok (lb, [⟨.collected db, #[]⟩]) w1 := by
    unfold Instr.enterLoop
    simp [FR, Fence.wide, w1, lb, db, rec0]
  refine ⟨lb, [⟨.collected db, #[]⟩], w1, { target := .fn (.func f) cs.toArray, args := fs.toArray ++ #[Value.func (.yield lb) #[] #[]] }, w1, f, (fs ++ [Value.func (.yield lb) #[] #[]] ++ cs).toArray, w1, hent, ?_, fun _ _ => trivial, ?_, depth_FR none 0, ?_⟩
  · simp only [resolve, ev_ok hg ha]
    simp [Deferred.ofValue, Act.eval]
  · simp only [invoke]; rw [callFunc_enter hf]; simp
  · -- the call of the iterator
    let J' : List α → HP := fun pre => bun [Lp lb rec0, J pre]
    let X' : List α → α → HP := fun pre x => ex fun j : Code => bun [Lp lb { rec0 with state := .done, pending := some j }, X pre x j]
    have hy : ∀ pre x, Pfx (pre ++ [x]) → Hist cont pre → CallV P g (.func (.yield lb) #[] #[]) (enc x) [J' pre, Res x] fun K R => (cont pre x → K (.bool true) (J' (pre ++ [x]) :: R)) ∧ (¬ cont pre x → K (.bool false) (X' pre x :: R)) := by
      intro pre x hp hh R' K w2 r2 hw2 ⟨hT1, hT2⟩
      have hw3 : Sat g (Lp lb rec0 :: J pre :: Res x :: R') w2 := hw2.conv fun _ => stars_bun
      refine ⟨{ target := .fn (.yield lb) #[], args := (enc x).toArray }, _, w2, fun w => by simp [Deferred.ofValue], yield_run (rec := rec0) (hw3.get .z) (by simp [rec0, hpl]), ?_⟩
      show RoundIn (FR r2) 0 P lb fn ((ps.toArray.zip (enc x).toArray).foldl (fun tmps (t, a) => tmps.setIfInBounds t a) a.tmps) assign body w2 (RetK g K)
      refine roundIn_of_wpIn trivial ?_
      have hΓ : Env.ok ⟨n, [], setParams ps (enc x) l⟩ ⟨(ps.toArray.zip (enc x).toArray).foldl (fun tmps (t, a) => tmps.setIfInBounds t a) a.tmps, []⟩ := setParams_ok hps ⟨ha.size, rfl, ha.at_⟩
      refine wpIn_mono (hbody lb db fn a.tmps pre x R' hp hh _ w2 hΓ hw3) ?_
      intro e a₁ w₁ hq
      cases e <;> first | exact hq.elim | skip
      obtain ⟨w₂, hb, hq⟩ := hq
      refine ⟨w₂, hb, wpIn_mono hq ?_⟩
      intro e a₂ w₃ hq
      have fin : ∀ v w₄, ((cont pre x ∧ Ending.returned v = .returned (.bool true) ∧ Sat g (Lp lb { rec0 with state := .ready, pending := none } :: J (pre ++ [x]) :: R') w₄) ∨ (¬ cont pre x ∧ Ending.returned v = .returned (.bool false) ∧ ∃ j, Sat g (Lp lb { rec0 with state := .done, pending := some j } :: X pre x j :: R') w₄)) → RetK g K (.returned v) w₄ := by
        rintro v w₄ (⟨hc, e1, h1⟩ | ⟨hc, e1, j, h1⟩)
        · cases e1
          exact ⟨_, _, rfl, hT1 hc, h1.conv fun _ => bun_stars (L := [_, _])⟩
        · cases e1
          exact ⟨_, _, rfl, hT2 hc, h1.conv fun _ h => ex_stars j (bun_stars (L := [_, _]) h)⟩
      cases e <;> first | exact hq.elim | skip
      all_goals
        obtain ⟨v, w₄, h1, h2⟩ := hq
        exact ⟨v, w₄, h1, fin v w₄ h2⟩
    have hw1 : Sat g (J' [] :: Pre ++ (pt db (.deferred (some [])) :: R)) w1 := by
      have h1 := hw.push (.deferred (some []))
      have h2 := h1.push (.loop rec0)
      refine h2.conv fun S hS => ?_
      have h3 : (w.alloc (.deferred (some []))).heap.size = lb := by simp [lb]
      have hS' : stars (Lp lb rec0 :: pt db (.deferred (some [])) :: L) S := by
        have := hS; simp only [World.alloc] at h3; rw [h3] at this; exact this
      have h4 : stars (Lp lb rec0 :: pt db (.deferred (some [])) :: (J [] :: Pre ++ R)) S := stars_cons (fun _ => stars_cons (fun _ => hL.to)) hS'
      refine bun_stars (L := [Lp lb rec0, J []]) ?_
      refine stars_cons (fun S h => ?_) h4
      have h5 : stars (J [] :: pt db (.deferred (some [])) :: (Pre ++ R)) S := stars_swap h
      exact stars_cons (fun S h => stars_move h) h5
    have hcall := hit (.func (.yield lb) #[] #[]) J' X' cont hy (pt db (.deferred (some [])) :: R) (fun v M => ∀ w3, Sat g M w3 → rangePost (FR none) 0 P lb Q { a with defers := [⟨.collected db, #[]⟩] ++ a.defers } (.returned v) w3) w1 hw1 ?_
    · refine HO.enter.callsIn_fr (hcall.mono ?_)
      rintro e w3 ⟨v, M, rfl, hk, hw3⟩
      exact hk w3 hw3
    · have haD : Env.ok ⟨n, ⟨.collected db, #[]⟩ :: D, l⟩ { a with defers := [⟨.collected db, #[]⟩] ++ a.defers } := ⟨ha.size, by simp [show a.defers = D from ha.defers], ha.at_⟩
      refine ⟨fun xs hx hh w3 hw3 => ?_, fun pre x hp hh hc w3 hw3 => ?_⟩
      · have h1 : Sat g (Lp lb rec0 :: J xs :: (Out ++ pt db (.deferred (some [])) :: R)) w3 := hw3.conv fun _ => stars_bun
        refine ⟨none, _, run_endLoop (h1.get .z) rfl, ?_⟩
        have h2 := lp_set (rec' := { rec0 with state := .exhausted }) h1
        exact hdone db xs hx hh _ _ haD (h2.conv fun _ h => stars_cons (fun _ => stars_unmove) (stars_tail h))
      · obtain ⟨j, h1⟩ : ∃ j, Sat g (Lp lb { rec0 with state := .done, pending := some j } :: X pre x j :: (Out ++ pt db (.deferred (some [])) :: R)) w3 := by
          obtain ⟨j, hj⟩ := stars_ex hw3.heap
          exact ⟨j, hw3.os, hw3.tape, hw3.output, hw3.size, stars_bun hj⟩
        refine ⟨some j, _, run_endLoop (h1.get .z) rfl, ?_⟩
        have h2 := lp_set (rec' := { rec0 with state := .exhausted, pending := some j }) h1
        exact hstop db pre x j hp hh hc _ _ haD (h2.conv fun _ h => stars_cons (fun _ => stars_unmove) (stars_tail h))
end
end Go.SL
