/- What the functions compute, in plain Lean: sums, frames. -/
import Derived.Test.YtdfomffmfnpfoaaGreatW1
import Derived.Test.YtdfomffmfnpfoaaGreatSLn
set_option linter.unusedSimpArgs false
set_option linter.unusedVariables false
namespace Go.SL
open Go
def crc1 (n : UInt32) : UInt32 := (n >>> 1) ^^^ (3988292384 &&& (0 - (n &&& 1)))
def crcN : Nat → UInt32 → UInt32
  | 0, n => n
  | k + 1, n => crcN k (crc1 n)
def crc8 (n : UInt32) : UInt32 := crcN 8 n
def crcB (n : UInt32) (c : UInt8) : UInt32 := (n >>> 8) ^^^ crc8 (UInt32.ofNat (n.toUInt8 ^^^ c).toNat)
def sumOn (s : UInt32) (b : List UInt8) : UInt32 := if b.length = 0 then s else 0xffffffff ^^^ (b.foldl crcB (0xffffffff ^^^ s))
/-- The table, the first 'x' of it filled. -/
def tblTo (f : UInt32 → UInt32) (x : Nat) : List Value := (List.range 256).map fun i => if i < x then .int .u32 (f (UInt32.ofNat i)).toNat else .int .u32 0
theorem tblTo_len (f : UInt32 → UInt32) (x : Nat) : (tblTo f x).length = 256 := by simp [tblTo]
theorem tblTo_ones (f : UInt32 → UInt32) (x : Nat) : ones (tblTo f x) = true := by
  unfold tblTo
  generalize List.range 256 = l
  induction l with
  | nil => rfl
  | cons a l ih => simp only [List.map_cons, ones, ih, Bool.and_true]; split <;> rfl
theorem tblTo_zero (f : UInt32 → UInt32) : tblTo f 0 = List.replicate 256 (.int .u32 0) := by
  unfold tblTo; simp only [Nat.not_lt_zero, if_false, List.map_const', List.length_range]
theorem tblTo_set (f : UInt32 → UInt32) (x : Nat) (h : x < 256) : (tblTo f x).set x (.int .u32 (f (UInt32.ofNat x)).toNat) = tblTo f (x + 1) := by
  apply List.ext_getElem?
  intro i
  rw [List.getElem?_set]
  simp only [tblTo, List.getElem?_map, List.length_map, List.length_range]
  by_cases e : x = i
  · subst e; simp [h]
  · rw [if_neg e]
    rcases Nat.lt_or_ge i 256 with h' | h'
    · rw [List.getElem?_range h']; simp [show i < x ↔ i < x + 1 by omega]
    · rw [List.getElem?_eq_none (by simpa using h')]; rfl
theorem tblTo_get (f : UInt32 → UInt32) (c : UInt8) : (tblTo f 256)[c.toNat]? = some (.int .u32 (f (UInt32.ofNat c.toNat)).toNat) := by
  have := c.toNat_lt
  simp [tblTo]
  exact ⟨c.toNat, by rw [List.getElem?_range (by omega)], by simp; intro h; omega⟩
attribute [irreducible] tblTo
/-! frames -/
def secs (n : Nat) : Nat := (8 + n + 63) / 64
def frame (b : List UInt8) : List UInt8 := numB (UInt32.ofNat b.length) 4 ++ numB (sumOn (sumOn 0 (numB (UInt32.ofNat b.length) 4)) b) 4 ++ b ++ List.replicate (secs b.length * 64 - 8 - b.length) 0
end Go.SL
