/- What the functions compute, in plain Lean: disks. -/
import Derived.Test.YtdfomffmfnpfoaaGreatW3
set_option linter.unusedSimpArgs false
set_option linter.unusedVariables false
namespace Go.SL
open Go
/-- A piece: 64 bytes. -/
def pad (b : List UInt8) : List UInt8 := b.take 64 ++ List.replicate (64 - b.length) 0
theorem pad_len (b : List UInt8) : (pad b).length = 64 := by simp [pad]; omega
theorem pad_id {b : List UInt8} (h : b.length = 64) : pad b = b := by simp [pad, h, List.take_of_length_le]
theorem pad_pad (b : List UInt8) : pad (pad b) = pad b := pad_id (pad_len b)
def pieceC (p : List UInt8) : List Value := (pad p).flatMap eB
theorem pieceC_pad (p : List UInt8) : pieceC (pad p) = pieceC p := by simp [pieceC, pad_pad]
theorem pieceE : EncOk 64 pieceC := ⟨fun p => by simp [pieceC, flat_len eB_ok, pad_len], fun p => ones_flat eB_ok _⟩
def waitC (w : Nat × List UInt8) : List Value := .int .i64 w.1 :: pieceC w.2
theorem waitE : EncOk 65 waitC := ⟨fun p => by simp [waitC, pieceE.len], fun p => by simp [waitC, ones, pieceE.one]; rfl⟩
theorem piece0 : pieceC (List.replicate 64 0) = List.replicate 64 (.int .u8 0) := by rw [pieceC, pad_id (by simp)]; rfl
theorem rl_piece {A : HP} {u : Value} {xs : List (List UInt8)} {i : Nat} {b : List UInt8} (h : RL A 64 pieceC u xs) (hb : xs[i]? = some b) : RL A 1 eB (slA u (i * 64) 64) (pad b) := by
  have hlt := idx_lt hb
  have := rd_el (k := i * 64) (n := 64) (z1 := 1) h (by omega) (by decide)
  rw [show 64 * 1 = 64 from rfl, flat_el pieceE hb] at this
  unfold RL; rw [pad_len]; exact this
structure DiskM where
  sure : List (List UInt8)
  seen : List (List UInt8)
  waits : List (Nat × List UInt8)
def newDisk (n : Nat) : DiskM := ⟨List.replicate n (List.replicate 64 0), List.replicate n (List.replicate 64 0), []⟩
def DiskM.write (d : DiskM) (i : Nat) (b : List UInt8) : DiskM := { d with seen := d.seen.set i (pad b), waits := d.waits ++ [(i, pad b)] }
def DiskM.sync (d : DiskM) : DiskM := ⟨d.seen, d.seen, []⟩
theorem copy_piece (b : List UInt8) (h : b.length ≤ 64) : splice (List.replicate 64 (.int .u8 0)) 0 ((b.flatMap eB).take (Nat.min b.length 64 * 1)) = pieceC b := by
  have hm : Nat.min b.length 64 = b.length := Nat.min_eq_left h
  rw [hm, Nat.mul_one, List.take_of_length_le (by rw [flat_len eB_ok]; omega), splice_eq _ _ _ (by rw [flat_len eB_ok]; simp; omega), flat_len eB_ok]
  simp only [pieceC, pad, List.take_of_length_le h, List.flatMap_append, List.take_zero, List.nil_append, Nat.zero_add, Nat.mul_one, List.drop_replicate]
  congr 1
  generalize 64 - b.length = k
  induction k with
  | zero => rfl
  | succ k ih => rw [List.replicate_succ, List.replicate_succ, List.flatMap_cons, ih]; rfl
end Go.SL
