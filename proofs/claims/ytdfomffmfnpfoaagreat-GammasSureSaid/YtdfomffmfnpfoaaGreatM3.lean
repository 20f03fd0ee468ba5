/- What the functions compute, in plain Lean: frames. -/
import Derived.Test.YtdfomffmfnpfoaaGreatW2
import Derived.Test.YtdfomffmfnpfoaaGreatSLo
set_option linter.unusedSimpArgs false
set_option linter.unusedVariables false
namespace Go.SL
open Go
theorem secs_le (n : Nat) : 8 + n ≤ secs n * 64 := by unfold secs; omega
theorem secs_ub (n : Nat) : secs n * 64 ≤ n + 71 := by unfold secs; omega
theorem over_set {α : Type} (xs ys : List α) (lo i : Nat) (c : α) (h : lo + ys.length ≤ xs.length) (hc : ys[i]? = some c) : (over xs lo (ys.take i)).set (lo + i) c = over xs lo (ys.take (i + 1)) := by
  have hi := idx_lt hc
  apply List.ext_getElem?
  intro j
  rw [List.getElem?_set]
  have e1 : (ys.take i).take (xs.length - lo) = ys.take i := List.take_of_length_le (by simp; omega)
  have e2 : (ys.take (i + 1)).take (xs.length - lo) = ys.take (i + 1) := List.take_of_length_le (by simp; omega)
  simp only [over, e1, e2, List.length_append, List.length_take, List.length_drop]
  rw [List.append_assoc, List.append_assoc, List.getElem?_append, List.getElem?_append, List.getElem?_append, List.getElem?_append]
  simp only [List.length_take, List.getElem?_take, List.getElem?_drop]
  have m1 : min lo xs.length = lo := by omega
  have m2 : min i ys.length = i := by omega
  have m3 : min (i + 1) ys.length = i + 1 := by omega
  rw [m1, m2, m3]
  by_cases h1 : lo + i = j
  · subst h1
    simp [hc, show 0 < xs.length - (lo + i) by omega, show i < i + 1 by omega]; intro h; omega
  · rw [if_neg h1]
    by_cases h2 : j < lo
    · simp [h2]
    · simp only [h2, if_false]
      by_cases h3 : j - lo < i
      · simp [h3, show j - lo < i + 1 by omega]
      · simp only [h3, show ¬ j - lo < i + 1 by omega, if_false]
        congr 1; omega
theorem over_nil {α : Type} (xs : List α) (lo : Nat) (h : lo ≤ xs.length) : over xs lo [] = xs := by simp [over]
theorem over_eq {α : Type} (A xs ys : List α) (lo : Nat) (hA : A.length = lo) (h : ys.length ≤ xs.length) : over (A ++ xs) lo ys = A ++ ys ++ xs.drop ys.length := by
  subst hA
  simp only [over, List.length_append]
  rw [List.take_left, show A.length + xs.length - A.length = xs.length by omega, List.take_of_length_le h, List.drop_append]
  simp [List.drop_eq_nil_of_le]
/-- The first two parts of a frame. -/
def head4 (b : List UInt8) : List UInt8 := numB (UInt32.ofNat b.length) 4
def sum4 (b : List UInt8) : List UInt8 := numB (sumOn (sumOn 0 (head4 b)) b) 4
theorem head4_len (b : List UInt8) : (head4 b).length = 4 := numB_len _ _
theorem sum4_len (b : List UInt8) : (sum4 b).length = 4 := numB_len _ _
theorem frame1 (b : List UInt8) : over (List.replicate (secs b.length * 64) (0 : UInt8)) 0 (head4 b) = head4 b ++ List.replicate (secs b.length * 64 - 4) 0 := by
  have := secs_le b.length
  rw [show List.replicate (secs b.length * 64) (0 : UInt8) = [] ++ List.replicate (secs b.length * 64) 0 from rfl, over_eq [] _ _ 0 rfl (by simp [head4_len]; omega)]
  simp [head4_len]
theorem frame2 (b : List UInt8) : over (head4 b ++ List.replicate (secs b.length * 64 - 4) 0) 4 (sum4 b) = head4 b ++ sum4 b ++ List.replicate (secs b.length * 64 - 8) 0 := by
  have := secs_le b.length
  rw [over_eq _ _ _ 4 (head4_len b) (by simp [sum4_len]; omega)]
  simp [sum4_len]; omega
theorem frame3 (b : List UInt8) : over (head4 b ++ sum4 b ++ List.replicate (secs b.length * 64 - 8) 0) 8 b = frame b := by
  have := secs_le b.length
  rw [over_eq _ _ _ 8 (by simp [head4_len, sum4_len]) (by simp; omega)]
  simp [frame, head4, sum4]
theorem frame_len (b : List UInt8) : (frame b).length = secs b.length * 64 := by
  have := secs_le b.length
  simp [frame, numB_len]; omega
def beN (l : List UInt8) : UInt32 := l.foldl (fun n c => (n <<< 8) ||| c.toUInt32) 0
/-- The record that bytes begin with; its sectors. -/
def getF (b : List UInt8) : Option (List UInt8 × Nat) :=
  if b.length < 8 then none else
  let n := (beN (b.take 4)).toNat
  if 16384 < n then none else
  if b.length < secs n * 64 then none else
  if frame ((b.drop 8).take n) = b.take (secs n * 64) then some ((b.drop 8).take n, secs n) else none
theorem text_beq (a b : List UInt8) : sEq (textOf a) (textOf b) = (a == b) := by
  simp [sEq, textOf, ByteArray.toList_eq]
end Go.SL
