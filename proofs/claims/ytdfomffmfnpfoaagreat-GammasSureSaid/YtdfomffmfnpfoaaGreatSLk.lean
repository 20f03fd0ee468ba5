/- The steps of the walk: what was lacking. -/
import Derived.Test.YtdfomffmfnpfoaaGreatSLj
import Derived.Lib.Overlaps
set_option linter.unusedSimpArgs false
set_option linter.unusedVariables false
set_option linter.unusedSectionVars false
namespace Go.SL
open Go

theorem w_i64 {x : Int} (h1 : -9223372036854775808 ≤ x) (h2 : x ≤ 9223372036854775807) : IntKind.i64.wrap x = x := IntWalk.i64_in _ (by omega)

section
variable {P : Program} {r : Option Nat} {g : World} {Γ : Env} {L M : List HP} {Q : Post} {dst : Option Tmp} {t : TypeId} {pos : String} {aft : Array Edge} {gd : Option (Nat × Bool)}

/-! ### What the pieces say by themselves -/
theorem WP.know {c : Code} {φ : Prop} (h : ∀ S, stars L S → φ) (k : φ → WP P r g c Q Γ L) : WP P r g c Q Γ L := fun a w ha hw => k (h _ hw.heap) a w ha hw
theorem WL.know {ops rest : List Oper} {φ : Prop} (h : ∀ S, stars L S → φ) (k : φ → WL P r g ops rest Q Γ L) : WL P r g ops rest Q Γ L := fun a w ha hw => k (h _ hw.heap) a w ha hw
theorem PO.know {e : Exit} {φ : Prop} (h : ∀ S, stars L S → φ) (k : φ → PO g Q e Γ L) : PO g Q e Γ L := fun a w ha hw => k (h _ hw.heap) a w ha hw
theorem Pick.know {A : HP} {φ : Prop} (hp : Pick L A M) (h : ∀ S, A S → φ) : ∀ S, stars L S → φ := fun S hS => by
  obtain ⟨S1, _, _, _, _, h1, _⟩ := hp.to hS; exact h S1 h1
theorem pick_ne {b c : Nat} {o o' : Obj} {N : List HP} (h1 : Pick L (pt b o) M) (h2 : Pick M (pt c o') N) : ∀ S, stars L S → b ≠ c := fun S hS => by
  obtain ⟨S1, S2, hd, _, l2, h3, h4⟩ := h1.to hS
  obtain ⟨S3, S4, _, l3, _, h5, _⟩ := h2.to h4
  intro e; subst e
  have e1 : S1 b = some o := h3
  have e2 := l3 _ _ (show S3 b = some o' from h5)
  rcases hd b with h | h
  · rw [e1] at h; cases h
  · rw [e2] at h; cases h
theorem WL.pull {ops rest : List Oper} {φ : Prop} {R : List HP} (hp : Pick L (pu φ) R := by repeat first | exact .z | apply Pick.s) (k : φ → WL P r g ops rest Q Γ R) : WL P r g ops rest Q Γ L :=
  fun a w ha hw => by
    have h := stars_pu (hp.to hw.heap)
    exact k h.1 a w ha ⟨hw.os, hw.tape, hw.output, hw.size, h.2⟩
theorem WP.pull {c : Code} {φ : Prop} {R : List HP} (hp : Pick L (pu φ) R := by repeat first | exact .z | apply Pick.s) (k : φ → WP P r g c Q Γ R) : WP P r g c Q Γ L :=
  fun a w ha hw => by
    have h := stars_pu (hp.to hw.heap)
    exact k h.1 a w ha ⟨hw.os, hw.tape, hw.output, hw.size, h.2⟩
theorem WL.someh {ops rest : List Oper} {α : Type} {A : α → HP} {R : List HP} (hp : Pick L (ex A) R := by repeat first | exact .z | apply Pick.s) (k : ∀ x, WL P r g ops rest Q Γ (A x :: R)) : WL P r g ops rest Q Γ L :=
  fun a w ha hw => by
    obtain ⟨x, h⟩ := stars_ex (hp.to hw.heap)
    exact k x a w ha ⟨hw.os, hw.tape, hw.output, hw.size, h⟩
theorem WP.someh {c : Code} {α : Type} {A : α → HP} {R : List HP} (hp : Pick L (ex A) R := by repeat first | exact .z | apply Pick.s) (k : ∀ x, WP P r g c Q Γ (A x :: R)) : WP P r g c Q Γ L :=
  fun a w ha hw => by
    obtain ⟨x, h⟩ := stars_ex (hp.to hw.heap)
    exact k x a w ha ⟨hw.os, hw.tape, hw.output, hw.size, h⟩
theorem WL.open_ {ops rest : List Oper} {A R : List HP} (hp : Pick L (bun A) R := by repeat first | exact .z | apply Pick.s) (k : WL P r g ops rest Q Γ (A ++ R)) : WL P r g ops rest Q Γ L :=
  WL.conv (fun _ h => stars_bun (hp.to h)) k
theorem WP.open_ {c : Code} {A R : List HP} (hp : Pick L (bun A) R := by repeat first | exact .z | apply Pick.s) (k : WP P r g c Q Γ (A ++ R)) : WP P r g c Q Γ L :=
  WP.conv (fun _ h => stars_bun (hp.to h)) k
/-- One piece turned into another. -/
theorem conv1 {A B : HP} {N : List HP} (h : ∀ S, A S → B S) (hp : Put L A B N) : ∀ S, stars L S → stars N S := by
  induction hp with
  | z => exact fun S ⟨S1, S2, a, b, c, d, e⟩ => ⟨S1, S2, a, b, c, h S1 d, e⟩
  | s _ ih => exact fun S hS => stars_cons (fun S => ih h S) hS

/-! ### A Bool in a slot, taken apart in a drawn region -/
section
variable {ops : List Oper} {n : Nat} {D : List Deferred}
theorem dropS_look {ds : List Nat} {l l' : List (Nat × Value)} (h : ∀ i, look l i = look l' i) : ∀ i, look (dropS ds l) i = look (dropS ds l') i := fun i => by
  by_cases hi : i ∈ ds
  · rw [look_dropS_none _ _ _ hi, look_dropS_none _ _ _ hi]
  · rw [look_dropS _ _ _ hi, look_dropS _ _ _ hi]; exact h i
theorem wants_look {l l' : List (Nat × Value)} (h : ∀ i, look l i = look l' i) (gd : Option (Nat × Bool)) : wants ops l' gd = wants ops l gd := by
  unfold wants
  cases gd with
  | none => rfl
  | some x =>
    have : (look l') = look l := funext fun i => (h i).symm
    simp only [this]
theorem ok_look {l l' : List (Nat × Value)} (h : ∀ i, look l i = look l' i) {a : Act} (ha : Env.ok ⟨n, D, l'⟩ a) : Env.ok ⟨n, D, l⟩ a := ⟨ha.size, ha.defers, fun i v hi => ha.at_ i v ((h i) ▸ hi)⟩
theorem ev_look {l l' : List (Nat × Value)} (h : ∀ i, look l i = look l' i) {o : Oper} {v : Value} (he : EV P g ops o ⟨n, D, l⟩ L v) : EV P g ops o ⟨n, D, l'⟩ L v :=
  ev_mono (fun t _ => (h t).symm) (wants_look h _) he
theorem RW_look : ∀ (k : Nat) (vd : List Nat) (pend l l' : List (Nat × Value)) (L : List HP), (∀ i, look l i = look l' i) → RW P r g ops Q n D k vd pend l L → RW P r g ops Q n D k vd pend l' L
  | 0, vd, pend, l, l', L, h, ⟨h1, h2, h3⟩ => ⟨h1, h2, fun a w ha hw => h3 a w (ok_look h ha) hw⟩
  | k + 1, vd, pend, l, l', L, h, .inl ⟨i, o, d, v, a1, a2, a3, a4, a5, a5', a6, a7⟩ => .inl ⟨i, o, d, v, a1, a2, a3, a4, a5, a5', ev_look h a6, RW_look k _ _ _ _ _ (fun j => by simp only [look]; split <;> first | rfl | exact h j) a7⟩
  | k + 1, vd, pend, l, l', L, h, .inr ⟨h1, h2⟩ => .inr ⟨h1, fun i hi => by
      obtain ⟨o, a1, a2, a3, a4⟩ := h2 i hi
      have hl : ∀ v, ∀ j, look (match o.dst with | some d => (d, v) :: l | none => l) j = look (match o.dst with | some d => (d, v) :: l' | none => l') j := fun v j => by
        cases o.dst with
        | none => exact h j
        | some d => simp only [look]; split <;> first | rfl | exact h j
      refine ⟨o, a1, a2, (wants_look (dropS_look h) _).trans a3, fun a w Q' next ha hw hn => a4 a w Q' next (ok_look (dropS_look h) ha) hw fun v M w' hk hw' => hn v M w' ⟨fun j u hj => ?_, RW_look k _ _ _ _ _ (hl v) hk.2⟩ hw'⟩
      obtain ⟨oj, b1, b2⟩ := hk.1 j u hj
      exact ⟨oj, b1, ev_look (hl v) b2⟩⟩
theorem RW.bool {k : Nat} {vd : List Nat} {pend l : List (Nat × Value)} (d : Nat) {b : Bool} (hl : look l d = some (.bool b)) (ht : b = true → RW P r g ops Q n D k vd pend ((d, .bool true) :: l) L) (hf : b = false → RW P r g ops Q n D k vd pend ((d, .bool false) :: l) L) : RW P r g ops Q n D k vd pend l L := by
  have hs : ∀ c, b = c → ∀ i, look ((d, .bool c) :: l) i = look l i := fun c e i => by
    subst e
    by_cases e : d = i
    · subst e; simp [look, hl]
    · simp only [look, beq_no e]
  cases hb : b with
  | true => exact RW_look _ _ _ _ _ _ (hs _ hb) (ht hb)
  | false => exact RW_look _ _ _ _ _ _ (hs _ hb) (hf hb)
end

/-! ### Strings, gone through -/
theorem h_range_str {x : Operand} {T : TypeId} {s : ByteArray} {K : Value → List HP → Prop} (ht : P.underlying T = some .string) (hK : ∀ i, K (.pointer (some ⟨i, 0, none⟩)) (pt i (.stringIter s 0) :: L)) (hx : ev Γ x = some (.string s) := by rfl) : HO P r g ⟨dst, .range T x, t, pos, aft, gd⟩ Γ L K :=
  HO.run (by simp) fun a w ha hw => by
    refine ⟨_, _, w.alloc (.stringIter s 0), ?_, hK w.heap.size, hw.push (.stringIter s 0)⟩
    simp [execOp, ev_ok hx ha, Instr.range, run_underlying ht]
theorem h_next_str {x : Operand} {s : ByteArray} {i p : Nat} {R : List HP} {K : Value → List HP → Prop} (h0 : ¬ p < s.size → K (.tuple #[.bool false]) L) (h1 : p < s.size → K (.tuple #[.bool true, .int .i64 p, .int .i32 (Utf8.decode s p).1]) (pt i (.stringIter s (p + (Utf8.decode s p).2)) :: R))
    (hx : ev Γ x = some (.pointer (some ⟨i, 0, none⟩)) := by rfl) (hp : Pick L (pt i (.stringIter s p)) R := by repeat first | exact .z | apply Pick.s) : HO P r g ⟨dst, .next x true, t, pos, aft, gd⟩ Γ L K :=
  HO.run (by simp) fun a w ha hw => by
    have hi := hw.get hp
    by_cases h : p < s.size
    · have hlt : i < w.heap.size := by
        rcases Nat.lt_or_ge i w.heap.size with h' | h'
        · exact h'
        · rw [Array.getElem?_eq_none h'] at hi; cases hi
      refine ⟨_, _, { w with heap := w.heap.setIfInBounds i (.stringIter s (p + (Utf8.decode s p).2)) }, ?_, h1 h, (hw.conv fun _ => hp.to).set (.z (B := pt i (.stringIter s (p + (Utf8.decode s p).2)))) _ rfl rfl rfl (by simp) (by simp [hlt]) (fun j hj => by simp [Array.getElem?_setIfInBounds_ne (Ne.symm hj)])⟩
      simp [execOp, ev_ok hx ha, Instr.next, run_getObj hi, h, run_setObj hi, goInt]
    · refine ⟨_, _, w, ?_, h0 h, hw⟩
      simp [execOp, ev_ok hx ha, Instr.next, run_getObj hi, h]

/-! ### Comparisons with nil -/
def isNilV : Value → Bool
  | .slice none _ _ => true
  | _ => false
theorem run_eq_slnil {T E z y n c : Nat} {a : Option Addr} (hT : slOf P T = some (E, z, y)) (w : World) : (Op.equal T (.slice a n c) (.slice none 0 0)).run P w = .ok (isNilV (.slice a n c)) w := by
  unfold slOf at hT
  split at hT
  case h_2 => cases hT
  case h_1 e hu =>
    unfold Op.equal; rw [show Op.maxDepth = 9999 + 1 from rfl]; unfold Op.equalIn; simp only [Sem.run_bind, run_underlying hu, Result.andThen_ok]
    cases a <;> rfl
theorem e_slnil {xt yt : TypeId} {x y : Operand} {E z z' b n : Nat} {u : Value} {A : HP} {cs : List Value} (hT : slOf P xt = some (E, z', b)) (hA : Rd A z u n cs) (hx : ev Γ x = some u := by rfl) (hy : ev Γ y = some (.slice none 0 0) := by rfl) (hp : Pick L A M := by repeat first | exact .z | apply Pick.s) :
    EO P g ⟨dst, .binOp .eql xt x y yt, t, pos, aft, gd⟩ Γ L (.bool (isNilV u)) :=
  .of (by simp) fun ρ hρ w hw => by
    have h1 := hρ x u (by simp [Op.operands]) hx
    have h2 := hρ y _ (by simp [Op.operands]) hy
    have hr := hw.rd hp hA
    have hsh : ∃ a n c, u = .slice a n c := by rcases hr with ⟨rfl, _, a, c, rfl⟩ | ⟨b, o, c, l, t, rfl, _⟩ <;> exact ⟨_, _, _, rfl⟩
    obtain ⟨a, n, c, rfl⟩ := hsh
    show ((do pure (Next.value (← (do eqGuard .eql xt x y (ρ x) (ρ y); binOp .eql xt (ρ x) (ρ y) : Sem Value))) : Sem Next)).run P w = _
    rw [h1, h2, eqGuard_at_slice]
    show ((do pure (Next.value (← (do pure (.bool (← Op.equal xt (.slice a n c) (.slice none 0 0))) : Sem Value))) : Sem Next)).run P w = _
    simp only [Sem.run_bind, run_eq_slnil hT, Result.andThen_ok, Sem.run_pure]
end
end Go.SL
