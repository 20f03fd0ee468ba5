/- What the functions compute, in plain Lean: rows as bytes. -/
import Derived.Test.YtdfomffmfnpfoaaGreatW0
set_option linter.unusedSimpArgs false
set_option linter.unusedVariables false
namespace Go.SL
open Go
/-- A number as bytes, the greatest first. -/
def numB (n : UInt32) : Nat → List UInt8
  | 0 => []
  | k + 1 => UInt8.ofNat (n.toNat / 2 ^ (8 * k)) :: numB n k
theorem numB_len (n : UInt32) : ∀ k, (numB n k).length = k
  | 0 => rfl
  | k + 1 => by simp [numB, numB_len n k]
def textB (s : ByteArray) : List UInt8 := UInt8.ofNat s.size :: bytesOf s
theorem bytesOf_len (s : ByteArray) : (bytesOf s).length = s.size := rfl
def chgB (c : ChgM) : List UInt8 := textB c.key ++ [if c.gone then 1 else 0] ++ numB c.val 4
def chgsB (l : List ChgM) : List UInt8 := numB (UInt32.ofNat l.length) 2 ++ l.flatMap chgB
end Go.SL
