/- What the functions compute, in plain Lean: rows that are set and dropped. -/
import Derived.Test.YtdfomffmfnpfoaaGreatW6
import Derived.Test.YtdfomffmfnpfoaaGreatSLp
set_option linter.unusedSimpArgs false
set_option linter.unusedVariables false
namespace Go.SL
open Go
theorem split_el {α : Type} {xs : List α} {i : Nat} {x : α} (h : xs[i]? = some x) : ∃ A D, xs = A ++ x :: D ∧ A.length = i := by
  have hlt := idx_lt h
  refine ⟨xs.take i, xs.drop (i + 1), ?_, by simp; omega⟩
  rw [List.getElem?_eq_getElem hlt] at h; cases h
  rw [List.getElem_cons_drop, List.take_append_drop]
theorem erase_mid {α : Type} (A D : List α) (x : α) : (A ++ x :: D).eraseIdx A.length = A ++ D := by
  rw [List.eraseIdx_append_of_length_le (Nat.le_refl _)]; simp
theorem rd_part {α : Type} {z o b n c : Nat} {enc : α → List Value} (he : EncOk z enc) {T : TypeId} {l : List Value} {xs : List α} {u : Value} (hA : At u b o n c) (hl : o + c * z ≤ l.length) (hn : xs.length = n) (hcs : (l.drop o).take (n * z) = xs.flatMap enc) : RL (cl b T l) z enc u xs := by
  unfold RL; rw [hn, ← hcs]; exact hA.rd hl
theorem cells_tail {α : Type} {z o : Nat} {enc : α → List Value} (he : EncOk z enc) {l : List Value} {A D : List α} {x : α} (hcs : (l.drop o).take ((A ++ x :: D).length * z) = (A ++ x :: D).flatMap enc) : (l.drop (o + (A.length + 1) * z)).take (D.length * z) = D.flatMap enc := by
  have := congrArg (List.drop ((A.length + 1) * z)) hcs
  rw [List.drop_take, flat_drop he, List.drop_drop, ← Nat.sub_mul] at this
  rw [show (A ++ x :: D).length - (A.length + 1) = D.length by simp; omega, show (A ++ x :: D).drop (A.length + 1) = D by rw [List.drop_append]; simp [List.drop_eq_nil_of_le]] at this
  exact this
end Go.SL
