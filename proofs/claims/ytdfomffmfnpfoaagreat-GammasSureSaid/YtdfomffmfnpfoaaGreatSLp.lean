/- The steps of the walk: append within a block that is known whole. -/
import Derived.Test.YtdfomffmfnpfoaaGreatSLo
set_option linter.unusedSimpArgs false
set_option linter.unusedVariables false
set_option linter.unusedSectionVars false
namespace Go.SL
open Go
theorem stars_one {b : Nat} {o : Obj} {S : Piece} (h : stars [pt b o] S) : pt b o S := by
  obtain ⟨S1, S2, _, h1, _, h2, _⟩ := h; exact h1 _ _ h2
section
variable {P : Program} {r : Option Nat} {g : World} {Γ : Env} {L M : List HP} {Q : Post} {dst : Option Tmp} {t : TypeId} {pos : String} {aft : Array Edge} {gd : Option (Nat × Bool)}
theorem h_append_at {T E z y n c k b o : Nat} {U : TypeId} {x xv : Operand} {u v : Value} {l ds : List Value} {B : HP} {N M' : List HP} {K : Value → List HP → Prop} (hs : slOf P T = some (E, z, y)) (hA : At u b o n c) (hl : o + c * z ≤ l.length) (hB : Rd B z v k ds) (h1 : ones ds = true) (hnk : n + k ≤ c)
    (hK : ∀ a, At (.slice a (n + k) c) b o (n + k) c → K (.slice a (n + k) c) N) (hx : ev Γ x = some u := by rfl) (hv : ev Γ xv = some v := by rfl) (p2 : Pick L B M' := by repeat first | exact .z | apply Pick.s) (hp : Put L (cl b U l) (cl b U (splice l (o + n * z) ds)) N := by repeat first | exact .z | apply Put.s) : HO P r g ⟨dst, .call ⟨.builtin .append, #[x, xv], #[T, T]⟩, t, pos, aft, gd⟩ Γ L K :=
  HO.run (by simp) fun a w ha hw => by
    obtain ⟨a', rfl, hn, hx'⟩ := hA
    obtain ⟨R, p1, _⟩ := hp.picks
    have hr := hw.rd p2 hB
    have hb := hw.get p1
    obtain ⟨hu, hsz, _⟩ := slOf_und hs
    have hm : (#[x, xv] : Array Operand).map a.eval = #[.slice a' n c, v] := by simp [ev_ok hx ha, ev_ok hv ha]
    have hm1 : (n + k) * z ≤ c * z := Nat.mul_le_mul_right _ hnk
    rw [Nat.add_mul] at hm1
    have hread := hr.read (P := P)
    have hlen := hr.len
    rcases hx' with rfl | rfl
    · obtain ⟨w', hrun, a1, a2, a3, a4, a5, a6⟩ := run_storeCells (P := P) (T := U) ds 0 (o + n * z) l w hb (by omega) (ones_ok h1)
      refine ⟨_, N, w', ?_, hK _ ⟨_, rfl, hnk, .inl rfl⟩, hw.set hp w' a1 a2 a3 a4 (by simpa using a5) a6⟩
      show (do let d ← resolve a.eval ⟨.builtin .append, #[x, xv], #[T, T]⟩ t; invoke d.target d.args : Sem Next).run P w = _
      simp only [resolve, hm, Sem.run_bind, Sem.run_pure, Result.andThen_ok, invoke, builtin]
      simp only [Builtin.append_, List.getElem?_toArray, List.getElem?_cons_zero, List.getElem?_cons_succ, Sem.run_bind, run_underlying hu, Result.andThen_ok, run_sizeOf hsz]
      simp [hread.1, hread.2, hnk, add_none, hrun]
    · have e1 : n = 0 := by omega
      have e2 : k = 0 := by omega
      subst e1; subst e2
      have hd : ds = [] := by simpa using hlen
      subst hd
      refine ⟨_, N, w, ?_, hK a' ⟨_, rfl, Nat.le_refl _, .inr rfl⟩, hw.set hp w rfl rfl rfl rfl (by simpa [splice] using hb) (fun _ _ => rfl)⟩
      show (do let d ← resolve a.eval ⟨.builtin .append, #[x, xv], #[T, T]⟩ t; invoke d.target d.args : Sem Next).run P w = _
      simp only [resolve, hm, Sem.run_bind, Sem.run_pure, Result.andThen_ok, invoke, builtin]
      simp only [Builtin.append_, List.getElem?_toArray, List.getElem?_cons_zero, List.getElem?_cons_succ, Sem.run_bind, run_underlying hu, Result.andThen_ok, run_sizeOf hsz]
      cases a' <;> simp [hread.1, hread.2, storeCells]
theorem splice_mid (U V W vs : List Value) (h : vs.length = V.length) : splice (U ++ V ++ W) U.length vs = U ++ vs ++ W := by
  rw [splice_eq _ _ _ (by simp [h])]
  rw [List.append_assoc U V W, List.take_left, ← List.append_assoc, List.drop_append, List.drop_eq_nil_of_le (by simp [h])]
  simp [h]
theorem del_cells {α : Type} {z o c : Nat} {enc : α → List Value} (he : EncOk z enc) {l zs : List Value} {A D : List α} {x : α} (hl : o + c * z ≤ l.length) (hc : (A ++ x :: D).length ≤ c) (hcs : (l.drop o).take ((A ++ x :: D).length * z) = (A ++ x :: D).flatMap enc) (hz : zs.length = z) :
    ((splice (splice l (o + A.length * z) (D.flatMap enc)) (o + (A.length + D.length) * z) zs).drop o).take ((A ++ D).length * z) = (A ++ D).flatMap enc ∧ (splice (splice l (o + A.length * z) (D.flatMap enc)) (o + (A.length + D.length) * z) zs).length = l.length := by
  have hm : (A ++ x :: D).length * z ≤ c * z := Nat.mul_le_mul_right _ hc
  have hlP : (l.take o).length = o := by simp; omega
  have el : l = l.take o ++ (A ++ x :: D).flatMap enc ++ l.drop (o + (A ++ x :: D).length * z) := by
    rw [← hcs, List.append_assoc]
    conv => lhs; rw [← List.take_append_drop o l]
    congr 1
    rw [← List.drop_drop]; exact (List.take_append_drop _ _).symm
  generalize hP : l.take o = P at el hlP
  generalize l.drop (o + (A ++ x :: D).length * z) = S at el
  have hfA := flat_len he A
  have hfD := flat_len he D
  have hfx := he.len x
  have e1 : l = (P ++ A.flatMap enc) ++ ((enc x ++ D.flatMap enc).take (D.flatMap enc).length) ++ ((enc x ++ D.flatMap enc).drop (D.flatMap enc).length ++ S) := by
    rw [el]; simp only [List.flatMap_append, List.flatMap_cons, List.append_assoc]
    rw [← List.append_assoc (List.take _ _), List.take_append_drop]; simp
  have hU : (P ++ A.flatMap enc).length = o + A.length * z := by simp [hfA, hlP]
  have s1 : splice l (o + A.length * z) (D.flatMap enc) = (P ++ A.flatMap enc) ++ D.flatMap enc ++ ((enc x ++ D.flatMap enc).drop (D.flatMap enc).length ++ S) := by
    rw [e1, ← hU, splice_mid _ _ _ _ (by simp)]
  have hU2 : (P ++ A.flatMap enc ++ D.flatMap enc).length = o + (A.length + D.length) * z := by simp [hfA, hfD, hlP, Nat.add_mul]
  have s2 : splice (splice l (o + A.length * z) (D.flatMap enc)) (o + (A.length + D.length) * z) zs = P ++ (A.flatMap enc ++ D.flatMap enc) ++ (zs ++ S) := by
    rw [s1, ← List.append_assoc _ _ S, ← hU2, splice_mid _ _ _ _ (by rw [List.length_drop, List.length_append]; omega)]; simp
  have hlen : l.length = P.length + (A ++ x :: D).length * z + S.length := by
    conv => lhs; rw [el]
    simp only [List.length_append, flat_len he]
  rw [s2]
  refine ⟨?_, ?_⟩
  · rw [List.append_assoc, ← hlP, List.drop_left, ← List.flatMap_append, ← flat_len he, List.take_left]
  · rw [hlen]; simp only [List.length_append, List.length_cons, hfA, hfD, hz, Nat.add_mul, Nat.one_mul]; omega
end
end Go.SL
