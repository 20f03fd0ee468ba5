/- What the functions compute, in plain Lean: walls. -/
import Derived.Test.YtdfomffmfnpfoaaGreatW4
set_option linter.unusedSimpArgs false
set_option linter.unusedVariables false
namespace Go.SL
open Go
/-- Pieces of bytes, written one behind the other. -/
def addW (d : DiskM) (i : Nat) (b : List UInt8) : Nat → DiskM
  | 0 => d
  | k + 1 => addW (d.write i (b.take 64)) (i + 1) (b.drop 64) k
/-- A disk as it should be. -/
structure DiskM.ok (d : DiskM) : Prop where
  pos : 0 < d.sure.length
  le : d.sure.length ≤ 4096
  len : d.seen.length = d.sure.length
  l1 : ∀ p ∈ d.sure, p.length = 64
  l2 : ∀ p ∈ d.seen, p.length = 64
theorem DiskM.ok.write {d : DiskM} (h : d.ok) (i : Nat) (b : List UInt8) : (d.write i b).ok :=
  ⟨h.pos, h.le, by simpa [DiskM.write] using h.len, h.l1, fun p hp => by
    rcases List.mem_or_eq_of_mem_set hp with h' | rfl
    · exact h.l2 p h'
    · exact pad_len b⟩
theorem DiskM.ok.sync {d : DiskM} (h : d.ok) : d.sync.ok := ⟨by simp [DiskM.sync, h.len, h.pos], by simp [DiskM.sync, h.len, h.le], rfl, h.l2, h.l2⟩
theorem newDisk_ok {n : Nat} (h1 : 0 < n) (h2 : n ≤ 4096) : (newDisk n).ok := by
  refine ⟨by simpa [newDisk] using h1, by simpa [newDisk] using h2, by simp [newDisk], ?_, ?_⟩ <;> intro p hp <;> simp [newDisk, List.mem_replicate] at hp <;> simp [hp.2]
theorem addW_ok : ∀ (k : Nat) (d : DiskM) (i : Nat) (b : List UInt8), d.ok → (addW d i b k).ok
  | 0, _, _, _, h => h
  | k + 1, d, i, b, h => addW_ok k _ _ _ (h.write i _)
theorem addW_len : ∀ (k : Nat) (d : DiskM) (i : Nat) (b : List UInt8), (addW d i b k).sure = d.sure ∧ (addW d i b k).waits.length = d.waits.length + k
  | 0, _, _, _ => ⟨rfl, rfl⟩
  | k + 1, d, i, b => by
    obtain ⟨h1, h2⟩ := addW_len k (d.write i (b.take 64)) (i + 1) (b.drop 64)
    exact ⟨h1, by rw [addW, h2]; simp [DiskM.write]; omega⟩
/-- What is no record is made noughts. -/
def cleanTo (all : List UInt8) (d : DiskM) (lo : Nat) : Nat → DiskM
  | 0 => d
  | k + 1 => if (all.drop ((lo + k) * 64)).take 64 = List.replicate 64 0 then cleanTo all d lo k else (cleanTo all d lo k).write (lo + k) (List.replicate 64 0)
theorem cleanTo_ok (all : List UInt8) (d : DiskM) (lo : Nat) : ∀ k, d.ok → (cleanTo all d lo k).ok ∧ (cleanTo all d lo k).sure = d.sure ∧ (cleanTo all d lo k).waits.length ≤ d.waits.length + k
  | 0, h => ⟨h, rfl, by simp [cleanTo]⟩
  | k + 1, h => by
    obtain ⟨h1, h2, h3⟩ := cleanTo_ok all d lo k h
    simp only [cleanTo]
    split
    · exact ⟨h1, h2, by omega⟩
    · exact ⟨h1.write _ _, h2, by simp [DiskM.write]; omega⟩
/-- The records that bytes begin with. -/
def recF : Nat → List UInt8 → List (List UInt8 × Nat)
  | 0, _ => []
  | k + 1, b => match getF b with
    | none => []
    | some (r, m) => (r, m) :: recF k (b.drop (m * 64))
def recs (b : List UInt8) : List (List UInt8 × Nat) := recF b.length b
theorem getF_some {b r : List UInt8} {m : Nat} (h : getF b = some (r, m)) : 0 < m ∧ m * 64 ≤ b.length ∧ m = secs r.length ∧ r.length ≤ 16384 ∧ frame r = b.take (m * 64) := by
  unfold getF at h
  split at h
  · cases h
  simp only at h
  split at h
  · cases h
  split at h
  · cases h
  split at h
  case isFalse => cases h
  cases h
  have := secs_le (beN (b.take 4)).toNat
  rename_i h1 h2 h3 h4
  have e : ((b.drop 8).take (beN (b.take 4)).toNat).length = (beN (b.take 4)).toNat := by simp; omega
  refine ⟨by omega, by omega, by rw [e], by omega, h4⟩
theorem recF_enough : ∀ (k j : Nat) (b : List UInt8), b.length ≤ k → b.length ≤ j → recF k b = recF j b
  | 0, 0, _, _, _ => rfl
  | 0, j + 1, b, h, _ => by
    have : b = [] := by simpa using h
    subst this; rfl
  | k + 1, 0, b, _, h => by
    have : b = [] := by simpa using h
    subst this; rfl
  | k + 1, j + 1, b, h1, h2 => by
    simp only [recF]
    cases hg : getF b with
    | none => rfl
    | some x =>
      obtain ⟨r, m⟩ := x
      obtain ⟨h3, h4, _⟩ := getF_some hg
      simp only
      rw [recF_enough k j _ (by simp; omega) (by simp; omega)]
theorem recs_none {b : List UInt8} (h : getF b = none) : recs b = [] := by
  unfold recs
  cases hb : b.length with
  | zero => rfl
  | succ k => simp [recF, h]
theorem recs_some {b r : List UInt8} {m : Nat} (h : getF b = some (r, m)) : recs b = (r, m) :: recs (b.drop (m * 64)) := by
  obtain ⟨h3, h4, _⟩ := getF_some h
  unfold recs
  obtain ⟨k, hk⟩ : ∃ k, b.length = k + 1 := ⟨b.length - 1, by omega⟩
  rw [hk]; simp only [recF, h]
  rw [recF_enough k (b.drop (m * 64)).length _ (by simp; omega) (Nat.le_refl _)]
theorem recs_le : ∀ (n : Nat) (b : List UInt8), b.length ≤ n → ((recs b).map (·.2)).sum * 64 ≤ b.length ∧ (recs b).length * 64 ≤ b.length
  | 0, b, h => by
    have : b = [] := by simpa using h
    subst this; simp [recs, recF]
  | n + 1, b, h => by
    cases hg : getF b with
    | none => rw [recs_none hg]; simp
    | some x =>
      obtain ⟨r, m⟩ := x
      obtain ⟨h3, h4, _⟩ := getF_some hg
      rw [recs_some hg]
      have ih := recs_le n (b.drop (m * 64)) (by simp; omega)
      simp only [List.map_cons, List.sum_cons, List.length_cons, List.length_drop] at ih ⊢
      omega
theorem flat_seen {l : List (List UInt8)} (h : ∀ p ∈ l, p.length = 64) : l.flatten.length = l.length * 64 := by
  induction l with
  | nil => rfl
  | cons p l ih => rw [List.flatten_cons, List.length_append, ih (fun q hq => h q (by simp [hq])), h p (by simp)]; simp; omega
end Go.SL
