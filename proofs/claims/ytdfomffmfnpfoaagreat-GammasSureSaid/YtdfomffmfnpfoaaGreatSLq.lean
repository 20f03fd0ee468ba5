/- The steps of the walk: one is put between the others, within a block. -/
import Derived.Test.YtdfomffmfnpfoaaGreatW8
set_option linter.unusedSimpArgs false
set_option linter.unusedVariables false
namespace Go.SL
open Go
theorem ins_cells {α : Type} {z o c : Nat} {enc : α → List Value} (he : EncOk z enc) {l : List Value} {A D : List α} {x : α} (hl : o + c * z ≤ l.length) (hc : (A ++ D).length + 1 ≤ c) (hcs : (l.drop o).take ((A ++ D).length * z) = (A ++ D).flatMap enc) :
    ((splice (splice l (o + (A.length + 1) * z) (D.flatMap enc)) (o + A.length * z) (enc x)).drop o).take (((A ++ D).length + 1) * z) = (A ++ x :: D).flatMap enc ∧
    (splice (splice l (o + (A.length + 1) * z) (D.flatMap enc)) (o + A.length * z) (enc x)).length = l.length ∧ (splice l (o + (A.length + 1) * z) (D.flatMap enc)).length = l.length ∧ (l.drop (o + A.length * z)).take (D.length * z) = D.flatMap enc := by
  have hm : ((A ++ D).length + 1) * z ≤ c * z := Nat.mul_le_mul_right _ hc
  have hlP : (l.take o).length = o := by simp; omega
  have el : l = l.take o ++ (A ++ D).flatMap enc ++ l.drop (o + (A ++ D).length * z) := by
    rw [← hcs, List.append_assoc]
    conv => lhs; rw [← List.take_append_drop o l]
    congr 1
    rw [← List.drop_drop]; exact (List.take_append_drop _ _).symm
  have hQ : (l.drop (o + (A ++ D).length * z)).length = l.length - (o + (A ++ D).length * z) := by simp
  generalize hP : l.take o = P at el hlP
  generalize l.drop (o + (A ++ D).length * z) = Q at el hQ
  have hfA := flat_len he A
  have hfD := flat_len he D
  have hfx := he.len x
  rw [List.length_append] at hm hQ
  simp only [Nat.add_mul, Nat.one_mul] at hm hQ
  have hW : (D.flatMap enc ++ Q).length = D.length * z + Q.length := by simp [hfD]
  have e1 : l = (P ++ A.flatMap enc ++ (D.flatMap enc ++ Q).take z) ++ ((D.flatMap enc ++ Q).drop z).take (D.flatMap enc).length ++ ((D.flatMap enc ++ Q).drop z).drop (D.flatMap enc).length := by
    rw [List.append_assoc _ (List.take _ (List.drop _ _)), List.take_append_drop, List.append_assoc _ (List.take z _), List.take_append_drop, el]; simp
  have hU : (P ++ A.flatMap enc ++ (D.flatMap enc ++ Q).take z).length = o + (A.length + 1) * z := by
    simp only [List.length_append, List.length_take, hfA, hlP, hfD, Nat.add_mul, Nat.one_mul]; omega
  have hV : (((D.flatMap enc ++ Q).drop z).take (D.flatMap enc).length).length = (D.flatMap enc).length := by
    rw [List.length_take, List.length_drop, hW, hfD]; omega
  have s1 : splice l (o + (A.length + 1) * z) (D.flatMap enc) = (P ++ A.flatMap enc ++ (D.flatMap enc ++ Q).take z) ++ D.flatMap enc ++ ((D.flatMap enc ++ Q).drop z).drop (D.flatMap enc).length := by
    conv => lhs; rw [e1, ← hU]
    rw [splice_mid _ _ _ _ hV.symm]
  have hU2 : (P ++ A.flatMap enc).length = o + A.length * z := by simp [hfA, hlP]
  have hV2 : (enc x).length = ((D.flatMap enc ++ Q).take z).length := by rw [hfx, List.length_take, hW]; omega
  have s2 : splice (splice l (o + (A.length + 1) * z) (D.flatMap enc)) (o + A.length * z) (enc x) = (P ++ A.flatMap enc) ++ enc x ++ (D.flatMap enc ++ ((D.flatMap enc ++ Q).drop z).drop (D.flatMap enc).length) := by
    rw [s1, ← hU2, List.append_assoc _ (D.flatMap enc), splice_mid _ _ _ _ hV2]
  have hlen : l.length = P.length + (A.length * z + D.length * z) + Q.length := by
    conv => lhs; rw [el]
    simp only [List.length_append, List.flatMap_append, hfA, hfD]
  have hX : (((D.flatMap enc ++ Q).drop z).drop (D.flatMap enc).length).length = Q.length - z := by
    rw [List.length_drop, List.length_drop, hW, hfD]; omega
  have hY : ((D.flatMap enc ++ Q).take z).length = z := by rw [List.length_take, hW]; omega
  have hzQ : z ≤ Q.length := by omega
  clear e1 hV hV2 hW
  generalize ((D.flatMap enc ++ Q).drop z).drop (D.flatMap enc).length = T at *
  generalize (D.flatMap enc ++ Q).take z = Y at *
  refine ⟨?_, ?_, ?_, ?_⟩
  · rw [s2, show P ++ A.flatMap enc ++ enc x ++ (D.flatMap enc ++ T) = P ++ ((A ++ x :: D).flatMap enc ++ T) by simp]
    rw [← hlP, List.drop_left, show ((A ++ D).length + 1) * z = ((A ++ x :: D).flatMap enc).length by rw [flat_len he]; congr 1; simp; omega, List.take_left]
  · rw [s2, hlen]; simp only [List.length_append, hX, hfA, hfD, hfx]; omega
  · rw [s1, hlen]; simp only [List.length_append, hX, hY, hfA, hfD]; omega
  · conv => lhs; rw [el]
    rw [List.flatMap_append, ← List.append_assoc, List.append_assoc _ (D.flatMap enc), ← hU2, List.drop_left, ← hfD, List.take_left]
theorem over_ins {α : Type} (A D : List α) (x z0 : α) : over (over (A ++ List.replicate (D.length + 1) z0) A.length [x]) (A.length + 1) D = A ++ x :: D := by
  rw [over_eq A _ [x] A.length rfl (by simp)]
  rw [over_eq (A ++ [x]) _ D (A.length + 1) (by simp) (by simp)]
  simp
theorem flat_setF {α : Type} {z : Nat} {enc : α → List Value} (he : EncOk z enc) {xs : List α} {j f : Nat} {a a' : α} {b : Value} (hx : xs[j]? = some a) (hf : f < z) (hb : enc a' = (enc a).set f b) : splice (xs.flatMap enc) (j * z + f) [b] = (xs.set j a').flatMap enc := by
  have hj := idx_lt hx
  have hle : (j + 1) * z ≤ xs.length * z := Nat.mul_le_mul_right z hj
  rw [Nat.add_mul, Nat.one_mul] at hle
  rw [← flat_set he xs j a' hj]
  apply List.ext_getElem?
  intro i
  rw [splice_get _ _ _ (by rw [flat_len he]; simp; omega), splice_get _ _ _ (by rw [flat_len he, he.len]; omega), he.len, hb]
  simp only [List.length_cons, List.length_nil]
  by_cases h1 : i < j * z
  · simp [h1, show i < j * z + f by omega]
  · simp only [h1, if_false]
    by_cases h2 : i < j * z + z
    · simp only [h2, if_true]
      rw [List.getElem?_set]
      have hget : (xs.flatMap enc)[i]? = (enc a)[i - j * z]? := by
        have := flat_at he hx (i - j * z) (by omega)
        rwa [show j * z + (i - j * z) = i by omega] at this
      by_cases h3 : f = i - j * z
      · have : i = j * z + f := by omega
        subst this
        simp [he.len, hf]
      · simp only [h3, if_false]
        by_cases h4 : i < j * z + f
        · simp [h4, hget]
        · simp [h4, show ¬ i < j * z + f + 1 by omega, hget]
    · simp only [h2, if_false]
      simp [show ¬ i < j * z + f by omega, show ¬ i < j * z + f + 1 by omega]
theorem tw_stop {α : Type} {p : α → Bool} : ∀ {D : List α} {k : Nat} {x : α}, (∀ r ∈ D.take k, p r = true) → D[k]? = some x → p x = false → D.takeWhile p = D.take k
  | [], _, _, _, hx, _ => by simp at hx
  | a :: D, 0, x, _, hx, hp => by simp at hx; subst hx; simp [List.takeWhile_cons, hp]
  | a :: D, k + 1, x, h, hx, hp => by
    simp only [List.take_succ_cons, List.mem_cons] at h
    simp only [List.take_succ_cons, List.takeWhile_cons, h a (.inl rfl), if_true]
    rw [tw_stop (fun r hr => h r (.inr hr)) (by simpa using hx) hp]
theorem tw_all {α : Type} {p : α → Bool} {D : List α} (h : ∀ r ∈ D, p r = true) : D.takeWhile p = D := by
  induction D with
  | nil => rfl
  | cons a D ih => simp [List.takeWhile_cons, h a (by simp), ih (fun r hr => h r (by simp [hr]))]
theorem tw_more {α : Type} {p : α → Bool} : ∀ {D : List α} {k : Nat} {x : α}, (∀ r ∈ D.take k, p r = true) → D[k]? = some x → p x = true → D.take k ++ [x] <+: D.takeWhile p
  | [], _, _, _, hx, _ => by simp at hx
  | a :: D, 0, x, _, hx, hp => by simp at hx; subst hx; simp [List.takeWhile_cons, hp]
  | a :: D, k + 1, x, h, hx, hp => by
    simp only [List.take_succ_cons, List.mem_cons] at h
    simp only [List.take_succ_cons, List.takeWhile_cons, h a (.inl rfl), if_true, List.cons_append]
    rw [List.cons_prefix_cons]
    exact ⟨rfl, tw_more (fun r hr => h r (.inr hr)) (by simpa using hx) hp⟩
theorem CallV.more {P : Program} {g : World} {y : Value} {args : List Value} {Pre : List HP} {A : HP} {v : Value} (h : CallV P g y args Pre fun K R => K v R) : CallV P g y args (A :: Pre) fun K R => K v (A :: R) := fun R K w r hw hT =>
  h (A :: R) K w r (hw.conv fun S hS => stars_move hS) hT
theorem CallV.pu {P : Program} {g : World} {y : Value} {args : List Value} {A : HP} {v : Value} (h : CallV P g y args [] fun K R => K v R) : CallV P g y args [A] fun K R => K v (A :: R) := h.more
end Go.SL
