/- What the functions compute, in plain Lean: rows in order. -/
import Derived.Test.YtdfomffmfnpfoaaGreatW5
set_option linter.unusedSimpArgs false
set_option linter.unusedVariables false
namespace Go.SL
open Go
def cmpS (a b : ByteArray) : Int := if sLt a b then -1 else if sLt b a || sEq a b then (if sEq a b then 0 else 1) else 1
/-! the order of texts -/
theorem sEq_iff {a b : ByteArray} : sEq a b = true ↔ a = b := by
  simp only [sEq, beq_iff_eq]
  constructor
  · intro h
    rw [ByteArray.ext_iff]
    apply Array.ext'
    simpa [ByteArray.toList_eq] using h
  · rintro rfl; rfl
theorem bl_irrefl : ∀ l : List UInt8, Op.bytesLess l l = false
  | [] => rfl
  | a :: l => by simp [Op.bytesLess, bl_irrefl l]
theorem bl_trans : ∀ {a b c : List UInt8}, Op.bytesLess a b = true → Op.bytesLess b c = true → Op.bytesLess a c = true
  | [], [], _, h, _ => by simp [Op.bytesLess] at h
  | [], _ :: _, [], _, h => by simp [Op.bytesLess] at h
  | [], _ :: _, _ :: _, _, _ => by simp [Op.bytesLess]
  | _ :: _, [], _, h, _ => by simp [Op.bytesLess] at h
  | _ :: _, _ :: _, [], _, h => by simp [Op.bytesLess] at h
  | x :: a, y :: b, z :: c, h, h' => by
    simp only [Op.bytesLess, Bool.or_eq_true, Bool.and_eq_true, decide_eq_true_eq, beq_iff_eq] at h h' ⊢
    rcases h with h | ⟨rfl, h⟩ <;> rcases h' with h' | ⟨rfl, h'⟩
    · left; exact UInt8.lt_trans h h'
    · exact .inl h
    · exact .inl h'
    · exact .inr ⟨rfl, bl_trans h h'⟩
theorem bl_tri : ∀ (a b : List UInt8), Op.bytesLess a b = true ∨ a = b ∨ Op.bytesLess b a = true
  | [], [] => .inr (.inl rfl)
  | [], _ :: _ => .inl (by simp [Op.bytesLess])
  | _ :: _, [] => .inr (.inr (by simp [Op.bytesLess]))
  | x :: a, y :: b => by
    simp only [Op.bytesLess, Bool.or_eq_true, Bool.and_eq_true, decide_eq_true_eq, beq_iff_eq, List.cons.injEq]
    rcases UInt8.lt_or_lt_of_ne_or_eq x y with h | h | h
    · exact .inl (.inl h)
    · exact .inr (.inr (.inl h))
    · subst h
      rcases bl_tri a b with h | h | h
      · exact .inl (.inr ⟨rfl, h⟩)
      · exact .inr (.inl ⟨rfl, h⟩)
      · exact .inr (.inr (.inr ⟨rfl, h⟩))
where
  UInt8.lt_or_lt_of_ne_or_eq (x y : UInt8) : x < y ∨ y < x ∨ x = y := by
    rcases Nat.lt_trichotomy x.toNat y.toNat with h | h | h
    · exact .inl (UInt8.lt_iff_toNat_lt.2 h)
    · exact .inr (.inr (UInt8.toNat_inj.1 h))
    · exact .inr (.inl (UInt8.lt_iff_toNat_lt.2 h))
theorem sLt_irrefl (a : ByteArray) : sLt a a = false := bl_irrefl _
theorem sLt_trans {a b c : ByteArray} (h : sLt a b = true) (h' : sLt b c = true) : sLt a c = true := bl_trans h h'
theorem sLt_tri (a b : ByteArray) : sLt a b = true ∨ a = b ∨ sLt b a = true := by
  rcases bl_tri a.toList b.toList with h | h | h
  · exact .inl h
  · refine .inr (.inl (sEq_iff.1 ?_)); simp [sEq, h]
  · exact .inr (.inr h)
theorem sLt_asymm {a b : ByteArray} (h : sLt a b = true) : sLt b a = false := by
  cases e : sLt b a with
  | false => rfl
  | true => have := sLt_trans h e; rw [sLt_irrefl] at this; cases this
/-- Rising. -/
def Rising (l : List RowM) : Prop := l.Pairwise fun a b => sLt a.key b.key = true
def lowI (l : List RowM) (k : ByteArray) : Nat := (l.takeWhile fun r => sLt r.key k).length
def hasI (l : List RowM) (k : ByteArray) : Bool := match l[lowI l k]? with
  | some r => sEq r.key k
  | none => false
theorem lowI_le (l : List RowM) (k : ByteArray) : lowI l k ≤ l.length := (List.takeWhile_sublist _).length_le
theorem low_le {l : List RowM} {k : ByteArray} {h : Nat} {x : RowM} (hx : l[h]? = some x) (hp : sLt x.key k = false) : lowI l k ≤ h := by
  induction l generalizing h with
  | nil => simp at hx
  | cons a l ih =>
    unfold lowI at *
    rw [List.takeWhile_cons]
    cases h with
    | zero => simp at hx; subst hx; simp [hp]
    | succ h =>
      simp at hx
      split
      · simp; exact ih hx
      · simp
theorem low_gt {l : List RowM} {k : ByteArray} (hl : Rising l) {h : Nat} {x : RowM} (hx : l[h]? = some x) (hp : sLt x.key k = true) : h < lowI l k := by
  induction l generalizing h with
  | nil => simp at hx
  | cons a l ih =>
    have hr := List.pairwise_cons.1 hl
    unfold lowI at *
    rw [List.takeWhile_cons]
    cases h with
    | zero => simp at hx; subst hx; simp [hp]
    | succ h =>
      simp at hx
      have ha : sLt a.key k = true := sLt_trans (hr.1 x (List.mem_of_getElem? hx)) hp
      simp [ha]; exact ih hr.2 hx
theorem low_at {l : List RowM} {k : ByteArray} {x : RowM} (hx : l[lowI l k]? = some x) : sLt x.key k = false := by
  induction l with
  | nil => simp at hx
  | cons a l ih =>
    unfold lowI at *
    rw [List.takeWhile_cons] at hx
    split at hx
    · simp at hx; exact ih hx
    · rename_i hn; simp at hx; subst hx; simpa using hn
theorem cmpS_lt (a b : ByteArray) : decide (cmpS a b < 0) = sLt a b := by
  unfold cmpS
  cases sLt a b <;> simp
  split <;> (try split) <;> simp
theorem cmpS_eq {a b : ByteArray} : (cmpS a b == 0) = sEq a b := by
  unfold cmpS
  by_cases h : sEq a b = true
  · have := sEq_iff.1 h; subst this; simp [sLt_irrefl, h]
  · simp only [Bool.not_eq_true] at h
    rw [h]; split <;> (try split) <;> simp_all
end Go.SL
