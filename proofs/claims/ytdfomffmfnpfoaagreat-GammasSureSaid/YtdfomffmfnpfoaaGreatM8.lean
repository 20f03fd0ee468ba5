/- What the functions compute, in plain Lean: rows by their keys. -/
import Derived.Test.YtdfomffmfnpfoaaGreatW8
set_option linter.unusedSimpArgs false
set_option linter.unusedVariables false
namespace Go.SL
open Go
theorem key_split {l : List RowM} (hl : Rising l) (k : ByteArray) : ∃ A D, l = A ++ D ∧ A.length = lowI l k ∧ (∀ r ∈ A, sLt r.key k = true) ∧ (∀ r ∈ D, sLt r.key k = false) ∧ Rising A ∧ Rising D := by
  refine ⟨l.takeWhile fun r => sLt r.key k, l.dropWhile fun r => sLt r.key k, List.takeWhile_append_dropWhile.symm, rfl, fun r hr => ?_, fun r hr => ?_, hl.sublist (List.takeWhile_sublist _), hl.sublist (List.dropWhile_sublist _)⟩
  · have := List.all_takeWhile (p := fun r : RowM => sLt r.key k) (l := l)
    exact List.all_eq_true.1 this r hr
  · have hd := hl.sublist (List.dropWhile_sublist (fun r => sLt r.key k))
    have hh : ∀ x y, l.dropWhile (fun r => sLt r.key k) = x :: y → sLt x.key k = false := fun x y e => by
      have := List.head_dropWhile_not (fun r : RowM => sLt r.key k) (l := l) (by rw [e]; simp)
      simpa [e] using this
    cases e : l.dropWhile (fun r => sLt r.key k) with
    | nil => rw [e] at hr; cases hr
    | cons x y =>
      have hx := hh x y e
      rw [e] at hr hd
      rcases List.mem_cons.1 hr with rfl | hr
      · exact hx
      · have := (List.pairwise_cons.1 hd).1 r hr
        cases e2 : sLt r.key k with
        | false => rfl
        | true => have := sLt_trans this e2; rw [hx] at this; cases this
theorem key_cut {l : List RowM} (hl : Rising l) (k : ByteArray) : (∃ A v D, l = A ++ ⟨k, v⟩ :: D ∧ A.length = lowI l k ∧ hasI l k = true ∧ (∀ r ∈ A, sLt r.key k = true) ∧ (∀ r ∈ D, sLt k r.key = true) ∧ Rising A ∧ Rising D) ∨
    (∃ A D, l = A ++ D ∧ A.length = lowI l k ∧ hasI l k = false ∧ (∀ r ∈ A, sLt r.key k = true) ∧ (∀ r ∈ D, sLt k r.key = true) ∧ Rising A ∧ Rising D) := by
  obtain ⟨A, D, he, ha, h1, h2, h3, h4⟩ := key_split hl k
  have hat : l[lowI l k]? = D.head? := by
    rw [← ha]; conv => lhs; rw [he]
    rw [List.getElem?_append_right (Nat.le_refl _), Nat.sub_self, List.head?_eq_getElem?]
  cases D with
  | nil =>
    right
    exact ⟨A, [], he, ha, by simp only [hasI, hat]; rfl, h1, by simp, h3, h4⟩
  | cons x D =>
    have hp := List.pairwise_cons.1 h4
    have hx := h2 x (by simp)
    by_cases e : x.key = k
    · left
      subst e
      exact ⟨A, x.val, D, he, ha, by simp [hasI, hat, sEq_iff], h1, fun r hr => hp.1 r hr, h3, hp.2⟩
    · right
      have hxk : sLt k x.key = true := by
        rcases sLt_tri x.key k with h | h | h
        · rw [hx] at h; cases h
        · exact absurd h e
        · exact h
      refine ⟨A, x :: D, he, ha, ?_, h1, fun r hr => ?_, h3, h4⟩
      · simp only [hasI, hat, List.head?_cons]
        cases e2 : sEq x.key k with
        | false => rfl
        | true => exact absurd (sEq_iff.1 e2) e
      · rcases List.mem_cons.1 hr with rfl | hr
        · exact hxk
        · exact sLt_trans hxk (hp.1 r hr)
def setR (l : List RowM) (k : ByteArray) (v : UInt32) : List RowM := if hasI l k then l.set (lowI l k) ⟨k, v⟩ else l.take (lowI l k) ++ ⟨k, v⟩ :: l.drop (lowI l k)
def dropR (l : List RowM) (k : ByteArray) : List RowM := if hasI l k then l.eraseIdx (lowI l k) else l
theorem sLt_ne {a b : ByteArray} (h : sLt a b = true) : a ≠ b := fun e => by subst e; rw [sLt_irrefl] at h; cases h
theorem rising_mid {A D : List RowM} {x : RowM} (h1 : ∀ r ∈ A, sLt r.key x.key = true) (h2 : ∀ r ∈ D, sLt x.key r.key = true) (hA : Rising A) (hD : Rising D) : Rising (A ++ x :: D) := by
  refine List.pairwise_append.2 ⟨hA, List.pairwise_cons.2 ⟨h2, hD⟩, fun a ha b hb => ?_⟩
  rcases List.mem_cons.1 hb with rfl | hb
  · exact h1 a ha
  · exact sLt_trans (h1 a ha) (h2 b hb)
theorem rising_two {A D : List RowM} {k : ByteArray} (h1 : ∀ r ∈ A, sLt r.key k = true) (h2 : ∀ r ∈ D, sLt k r.key = true) (hA : Rising A) (hD : Rising D) : Rising (A ++ D) :=
  List.pairwise_append.2 ⟨hA, hD, fun a ha b hb => sLt_trans (h1 a ha) (h2 b hb)⟩
theorem setR_spec {l : List RowM} (hl : Rising l) (k : ByteArray) (v : UInt32) : Rising (setR l k v) ∧ (∀ r, r ∈ setR l k v ↔ r = ⟨k, v⟩ ∨ (r ∈ l ∧ r.key ≠ k)) ∧ (setR l k v).length ≤ l.length + 1 := by
  rcases key_cut hl k with ⟨A, u, D, he, ha, hh, h1, h2, h3, h4⟩ | ⟨A, D, he, ha, hh, h1, h2, h3, h4⟩
  · have e : setR l k v = A ++ ⟨k, v⟩ :: D := by
      unfold setR; rw [if_pos hh, ← ha]; conv => lhs; rw [he]
      simp
    rw [e]
    refine ⟨rising_mid h1 h2 h3 h4, fun r => ?_, by rw [he]; simp⟩
    rw [he]
    simp only [List.mem_append, List.mem_cons]
    constructor
    · rintro (h | rfl | h)
      · exact .inr ⟨.inl h, sLt_ne (h1 r h)⟩
      · exact .inl rfl
      · exact .inr ⟨.inr (.inr h), (sLt_ne (h2 r h)).symm⟩
    · rintro (rfl | ⟨h | rfl | h, hn⟩)
      · exact .inr (.inl rfl)
      · exact .inl h
      · exact absurd rfl hn
      · exact .inr (.inr h)
  · have e : setR l k v = A ++ ⟨k, v⟩ :: D := by
      unfold setR; rw [if_neg (by simp [hh]), ← ha]; conv => lhs; rw [he]
      simp
    rw [e]
    refine ⟨rising_mid h1 h2 h3 h4, fun r => ?_, by rw [he]; simp; omega⟩
    rw [he]
    simp only [List.mem_append, List.mem_cons]
    constructor
    · rintro (h | rfl | h)
      · exact .inr ⟨.inl h, sLt_ne (h1 r h)⟩
      · exact .inl rfl
      · exact .inr ⟨.inr h, (sLt_ne (h2 r h)).symm⟩
    · rintro (rfl | ⟨h | h, hn⟩)
      · exact .inr (.inl rfl)
      · exact .inl h
      · exact .inr (.inr h)
theorem dropR_spec {l : List RowM} (hl : Rising l) (k : ByteArray) : Rising (dropR l k) ∧ (∀ r, r ∈ dropR l k ↔ r ∈ l ∧ r.key ≠ k) ∧ (dropR l k).length ≤ l.length := by
  rcases key_cut hl k with ⟨A, u, D, he, ha, hh, h1, h2, h3, h4⟩ | ⟨A, D, he, ha, hh, h1, h2, h3, h4⟩
  · have e : dropR l k = A ++ D := by
      unfold dropR; rw [if_pos hh, ← ha]; conv => lhs; rw [he]
      rw [List.eraseIdx_append_of_length_le (Nat.le_refl _)]; simp
    rw [e]
    refine ⟨rising_two h1 h2 h3 h4, fun r => ?_, by rw [he]; simp⟩
    rw [he]
    simp only [List.mem_append, List.mem_cons]
    constructor
    · rintro (h | h)
      · exact ⟨.inl h, sLt_ne (h1 r h)⟩
      · exact ⟨.inr (.inr h), (sLt_ne (h2 r h)).symm⟩
    · rintro ⟨h | rfl | h, hn⟩
      · exact .inl h
      · exact absurd rfl hn
      · exact .inr h
  · have e : dropR l k = l := by unfold dropR; rw [if_neg (by simp [hh])]
    rw [e]
    refine ⟨hl, fun r => ⟨fun h => ⟨h, ?_⟩, fun h => h.1⟩, Nat.le_refl _⟩
    rw [he] at h
    rcases List.mem_append.1 h with h | h
    · exact sLt_ne (h1 r h)
    · exact (sLt_ne (h2 r h)).symm
theorem rising_ext {a b : List RowM} (ha : Rising a) (hb : Rising b) (h : ∀ r, r ∈ a ↔ r ∈ b) : a = b := by
  induction a generalizing b with
  | nil =>
    cases b with
    | nil => rfl
    | cons x b => have := (h x).2 (by simp); cases this
  | cons x a ih =>
    have hpa := List.pairwise_cons.1 ha
    cases b with
    | nil => have := (h x).1 (by simp); cases this
    | cons y b =>
      have hpb := List.pairwise_cons.1 hb
      have exy : x = y := by
        rcases List.mem_cons.1 ((h x).1 (by simp)) with e | hx
        · exact e
        · rcases List.mem_cons.1 ((h y).2 (by simp)) with e | hy
          · exact e.symm
          · have := sLt_trans (hpb.1 x hx) (hpa.1 y hy)
            rw [sLt_irrefl] at this; cases this
      subst exy
      congr 1
      refine ih hpa.2 hpb.2 fun r => ?_
      constructor
      · intro hr
        rcases List.mem_cons.1 ((h r).1 (by simp [hr])) with e | h'
        · subst e; have := hpa.1 r hr; rw [sLt_irrefl] at this; cases this
        · exact h'
      · intro hr
        rcases List.mem_cons.1 ((h r).2 (by simp [hr])) with e | h'
        · subst e; have := hpb.1 r hr; rw [sLt_irrefl] at this; cases this
        · exact h'
/-- A key has one row at most. -/
theorem rising_one {l : List RowM} (hl : Rising l) {a b : RowM} (ha : a ∈ l) (hb : b ∈ l) (h : a.key = b.key) : a = b := by
  induction l with
  | nil => cases ha
  | cons x l ih =>
    have hp := List.pairwise_cons.1 hl
    rcases List.mem_cons.1 ha with e1 | h1 <;> rcases List.mem_cons.1 hb with e2 | h2
    · rw [e1, e2]
    · subst e1; exact absurd h (sLt_ne (hp.1 b h2))
    · subst e2; exact absurd h.symm (sLt_ne (hp.1 a h1))
    · exact ih hp.2 h1 h2
def applyC (l : List RowM) (c : ChgM) : List RowM := if c.gone then dropR l c.key else setR l c.key c.val
def changeR (l : List RowM) (cs : List ChgM) : List RowM := cs.foldl applyC l
theorem applyC_rising {l : List RowM} (hl : Rising l) (c : ChgM) : Rising (applyC l c) ∧ (applyC l c).length ≤ l.length + 1 := by
  unfold applyC; split
  · exact ⟨(dropR_spec hl _).1, Nat.le_succ_of_le (dropR_spec hl _).2.2⟩
  · exact ⟨(setR_spec hl _ _).1, (setR_spec hl _ _).2.2⟩
theorem changeR_rising : ∀ (cs : List ChgM) {l : List RowM}, Rising l → Rising (changeR l cs) ∧ (changeR l cs).length ≤ l.length + cs.length
  | [], _, h => ⟨h, Nat.le_refl _⟩
  | c :: cs, l, h => by
    have h1 := applyC_rising h c
    have h2 := changeR_rising cs h1.1
    exact ⟨h2.1, by have := h2.2; simp only [changeR, List.foldl_cons, List.length_cons] at *; omega⟩
theorem mem_applyC {l : List RowM} (hl : Rising l) (c : ChgM) (r : RowM) : r ∈ applyC l c ↔ (c.gone = false ∧ r = ⟨c.key, c.val⟩) ∨ (r ∈ l ∧ r.key ≠ c.key) := by
  unfold applyC; split
  · rename_i h; rw [(dropR_spec hl _).2.1]; simp [h]
  · rename_i h; rw [(setR_spec hl _ _).2.1]; simp [h]
/-- The rows of a span, so many at most. -/
def inSpan (p : SpanM) (k : ByteArray) : Bool := sIn k p.a p.b
def scanR (l : List RowM) (p : SpanM) (most : Nat) : List RowM := (l.filter fun r => inSpan p r.key).take most
theorem sIn_iff {k a b : ByteArray} : sIn k a b = true ↔ (sLt k a = false ∧ sLt b k = false) := by
  have hle : ∀ x y : ByteArray, (sLt x y || sEq x y) = true ↔ sLt y x = false := fun x y => by
    rcases sLt_tri x y with h | h | h
    · simp [h, sLt_asymm h]
    · subst h; simp [sLt_irrefl, sEq_iff]
    · simp [h, sLt_asymm h]
      cases e : sEq x y with
      | false => rfl
      | true => rw [sEq_iff.1 e, sLt_irrefl] at h; cases h
  unfold sIn
  rw [Bool.and_eq_true, hle, hle]
theorem sMax_iff (a b : ByteArray) : sMax a b = if sLt a b then b else a := by
  rcases sLt_tri a b with h | h | h
  · simp [sMax, h]
  · subst h; simp [sMax, sLt_irrefl]
  · simp [sMax, h, sLt_asymm h]
theorem sLe_trans {a b c : ByteArray} (h : sLt b a = false) (h' : sLt c b = false) : sLt c a = false := by
  cases e : sLt c a with
  | false => rfl
  | true =>
    rcases sLt_tri b c with h1 | h1 | h1
    · rw [sLt_trans h1 e] at h; cases h
    · subst h1; rw [h] at e; cases e
    · rw [h1] at h'; cases h'
theorem meet_iff {a b : SpanM} : meet a b = true ↔ ∃ k, inSpan a k = true ∧ inSpan b k = true := by
  unfold meet inSpan
  rw [Bool.and_eq_true, sMax_iff]
  constructor
  · rintro ⟨h1, h2⟩; exact ⟨_, h1, h2⟩
  · rintro ⟨k, h1, h2⟩
    rw [sIn_iff] at h1 h2
    simp only [sIn_iff]
    split
    · rename_i h
      exact ⟨⟨sLt_asymm h, sLe_trans h2.1 h1.2⟩, sLt_irrefl _, sLe_trans h2.1 h2.2⟩
    · rename_i h
      simp only [Bool.not_eq_true] at h
      exact ⟨⟨sLt_irrefl _, sLe_trans h1.1 h1.2⟩, h, sLe_trans h1.1 h2.2⟩
theorem meet_one {k : ByteArray} {p : SpanM} : meet (one k) p = inSpan p k := by
  rw [Bool.eq_iff_iff, meet_iff]
  unfold inSpan one
  constructor
  · rintro ⟨j, h1, h2⟩
    rw [sIn_iff] at h1
    have : j = k := by
      rcases sLt_tri j k with h | h | h
      · rw [h1.1] at h; cases h
      · exact h
      · rw [h1.2] at h; cases h
    subst this; exact h2
  · intro h; exact ⟨k, by rw [sIn_iff]; exact ⟨sLt_irrefl _, sLt_irrefl _⟩, h⟩
theorem set_app {A D : List RowM} {x y : RowM} {n : Nat} (h : A.length = n) : (A ++ x :: D).set n y = A ++ y :: D := by subst h; simp
theorem scan_eq {l : List RowM} (hl : Rising l) (s : SpanM) : (l.drop (lowI l s.a)).takeWhile (fun r => !sLt s.b r.key) = l.filter fun r => inSpan s r.key := by
  obtain ⟨A, D, rfl, ha, h1, h2, h3, h4⟩ := key_split hl s.a
  rw [← ha, List.drop_left, List.filter_append]
  have e1 : A.filter (fun r => inSpan s r.key) = [] := by
    rw [List.filter_eq_nil_iff]
    intro r hr h
    rw [inSpan, sIn_iff, h1 r hr] at h; cases h.1
  rw [e1, List.nil_append]
  clear ha e1 h1 hl h3
  induction D with
  | nil => rfl
  | cons x D ih =>
    have hp := List.pairwise_cons.1 h4
    have hx := h2 x (by simp)
    rw [List.takeWhile_cons, List.filter_cons]
    cases e : sLt s.b x.key with
    | false =>
      have : inSpan s x.key = true := by rw [inSpan, sIn_iff]; exact ⟨hx, e⟩
      simp [this, ih (fun r hr => h2 r (by simp [hr])) hp.2]
    | true =>
      have hn : inSpan s x.key = false := by
        cases e2 : inSpan s x.key with
        | false => rfl
        | true => rw [inSpan, sIn_iff, e] at e2; cases e2.2
      have : D.filter (fun r => inSpan s r.key) = [] := by
        rw [List.filter_eq_nil_iff]
        intro r hr h
        rw [inSpan, sIn_iff, sLt_trans e (hp.1 r hr)] at h; cases h.2
      simp [hn, this]
theorem meet_self {s : SpanM} {l : List RowM} (h : meet s s = false) : l.filter (fun r => inSpan s r.key) = [] := by
  rw [List.filter_eq_nil_iff]
  intro r _ hr
  have : meet s s = true := meet_iff.2 ⟨_, hr, hr⟩
  rw [h] at this; cases this
theorem has_at {l : List RowM} {k : ByteArray} (h : hasI l k = true) : ∃ u, l[lowI l k]? = some ⟨k, u⟩ := by
  unfold hasI at h
  cases e : l[lowI l k]? with
  | none => rw [e] at h; cases h
  | some r => rw [e] at h; have := sEq_iff.1 h; subst this; exact ⟨r.val, rfl⟩
theorem has_lt {l : List RowM} {k : ByteArray} (h : hasI l k = true) : lowI l k < l.length := by obtain ⟨u, hu⟩ := has_at h; exact idx_lt hu
theorem changeR_snoc (l : List RowM) (cs : List ChgM) (c : ChgM) : changeR l (cs ++ [c]) = applyC (changeR l cs) c := by simp [changeR]
theorem sgt_eq (a b : ByteArray) : (!(sLt a b || sEq a b)) = sLt b a := by
  rcases sLt_tri a b with h | h | h
  · simp [h, sLt_asymm h]
  · subst h; simp [sLt_irrefl, sEq_iff]
  · have : sEq a b = false := by
      cases e : sEq a b with
      | false => rfl
      | true => rw [sEq_iff.1 e, sLt_irrefl] at h; cases h
    simp [h, sLt_asymm h, this]
end Go.SL
