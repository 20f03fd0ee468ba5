/- N1 SLy MY N2 N3: rules and walks, several texts in one. -/
import Derived.Test.YtdpmpcoekkhceaaGreatQN15
/- Rows as they were, in plain Lean: what is kept of a past is what its commits left. -/
set_option linter.unusedSimpArgs false
set_option linter.unusedVariables false
set_option linter.unusedSectionVars false
namespace Go.SL
open Go
abbrev HistT := List (List ChgM)
def getR (l : List RowM) (k : ByteArray) : Option UInt32 := (l.find? fun r => decide (r.key = k)).map (·.val)
theorem mem_getR {l : List RowM} (h : Rising l) {r : RowM} : r ∈ l ↔ getR l r.key = some r.val := by
  unfold getR
  constructor
  · intro hr
    cases hf : l.find? fun x => decide (x.key = r.key) with
    | none => have := List.find?_eq_none.1 hf r hr; simp at this
    | some x =>
      have h1 := List.find?_some hf
      have h2 := List.mem_of_find?_eq_some hf
      rw [rising_one h h2 hr (by simpa using h1)]; rfl
  · intro hg
    rw [Option.map_eq_some_iff] at hg
    obtain ⟨x, hx, hv⟩ := hg
    have h1 := List.find?_some hx
    have h2 := List.mem_of_find?_eq_some hx
    have : x = r := by cases x; cases r; simp at h1 hv; simp [h1, hv]
    exact this ▸ h2
theorem getR_ext {a b : List RowM} (ha : Rising a) (hb : Rising b) (h : ∀ k, getR a k = getR b k) : a = b := rising_ext ha hb fun r => by rw [mem_getR ha, mem_getR hb, h]
theorem getR_mem {l : List RowM} {k : ByteArray} {v : UInt32} (h : getR l k = some v) : (⟨k, v⟩ : RowM) ∈ l := by
  unfold getR at h
  rw [Option.map_eq_some_iff] at h
  obtain ⟨x, hx, hv⟩ := h
  have h1 := List.find?_some hx
  have h2 := List.mem_of_find?_eq_some hx
  have : x = ⟨k, v⟩ := by cases x; simp at h1 hv; simp [h1, hv]
  exact this ▸ h2
theorem getR_iff {l : List RowM} (h : Rising l) (k : ByteArray) (o : Option UInt32) (hk : ∀ v, (⟨k, v⟩ : RowM) ∈ l ↔ o = some v) : getR l k = o := by
  cases e : getR l k with
  | some v => exact ((hk v).1 (getR_mem e)).symm
  | none =>
    cases o with
    | none => rfl
    | some v => have := (mem_getR h).1 ((hk v).2 rfl); rw [e] at this; cases this
theorem getR_apply {l : List RowM} (h : Rising l) (c : ChgM) (k : ByteArray) : getR (applyC l c) k = if k = c.key then (if c.gone then none else some c.val) else getR l k := by
  refine getR_iff (applyC_rising h c).1 k _ fun v => ?_
  rw [mem_applyC h]
  by_cases e : k = c.key
  · rw [if_pos e]
    cases hg : c.gone with
    | true => simp [e]
    | false =>
      simp only [Bool.false_eq_true, if_false, Option.some.injEq]
      constructor
      · rintro (⟨_, h2⟩ | ⟨_, h2⟩)
        · cases h2; rfl
        · exact absurd e h2
      · rintro rfl; exact .inl ⟨trivial, by rw [e]⟩
  · rw [if_neg e]
    constructor
    · rintro (⟨_, h2⟩ | ⟨h1, _⟩)
      · cases h2; exact absurd rfl e
      · exact (mem_getR h).1 h1
    · intro hv; exact .inr ⟨getR_mem hv, e⟩
def rowsN (H : List (List ChgM)) (n : Nat) : List RowM := changeR [] (H.take n).flatten
theorem rowsN_rising (H : List (List ChgM)) (n : Nat) : Rising (rowsN H n) := (changeR_rising _ List.Pairwise.nil).1
theorem changeR_app (V : List RowM) (a b : List ChgM) : changeR V (a ++ b) = changeR (changeR V a) b := by simp [changeR]
theorem rowsN_old {H : List (List ChgM)} {n : Nat} (h : n ≤ H.length) (cs : List ChgM) : rowsN (H ++ [cs]) n = rowsN H n := by
  unfold rowsN; rw [List.take_append_of_le_length h]
theorem rowsN_new (H : List (List ChgM)) (cs : List ChgM) : rowsN (H ++ [cs]) (H.length + 1) = changeR (rowsN H H.length) cs := by
  unfold rowsN
  rw [List.take_of_length_le (by simp), List.take_of_length_le (Nat.le_refl _), List.flatten_append, changeR_app]; simp
theorem rowsN_len (H : List (List ChgM)) (n : Nat) : (rowsN H n).length ≤ H.flatten.length := by
  have h1 := (changeR_rising (H.take n).flatten (l := []) List.Pairwise.nil).2
  have h2 : (H.take n).flatten.length ≤ H.flatten.length := by
    conv => rhs; rw [← List.take_append_drop n H, List.flatten_append, List.length_append]
    omega
  unfold rowsN
  rw [List.length_nil] at h1; omega
def valP (l : PS) (k : ByteArray) (n : UInt32) : Option UInt32 := match getS l k with
  | some ws => valW ws n
  | none => none
def lastOk (H : List (List ChgM)) (k : ByteArray) (a : UInt32) : Prop :=
  (∃ cs, 1 ≤ a.toNat ∧ H[a.toNat - 1]? = some cs ∧ ∃ c ∈ cs, c.key = k) ∧ ∀ j cs, a.toNat ≤ j → H[j]? = some cs → ∀ c ∈ cs, c.key ≠ k
structure PastOk (l : PS) (now trim : UInt32) (H : List (List ChgM)) : Prop where
  nowH : now.toNat = H.length
  trimH : trim ≤ now
  nodup : (l.map (·.1)).Nodup
  ne : ∀ p ∈ l, p.2 ≠ []
  keys : ∀ p ∈ l, keyOk p.1 = true
  le : ∀ p ∈ l, ∀ w ∈ p.2, w.at_ ≤ now
  val : ∀ k n, trim ≤ n → n ≤ now → valP l k n = getR (rowsN H n.toNat) k
  last : ∀ p ∈ l, lastOk H p.1 (lastW p.2)
  sure : ∀ cs ∈ H, ∀ c ∈ cs, (getS l c.key).isSome = true
  size : l.length ≤ H.flatten.length
  lens : ∀ p ∈ l, p.2.length ≤ H.length
theorem PastOk.now_eq {l : PS} {now trim : UInt32} {H : List (List ChgM)} (h : PastOk l now trim H) : now = UInt32.ofNat H.length := by rw [← h.nowH, UInt32.ofNat_toNat]
/-! one more commit -/
theorem last_app (ws : List WasM) (w : WasM) : lastW (ws ++ [w]) = w.at_ := by simp [lastW]
theorem addW1_last (ws : List WasM) (n : UInt32) (c : ChgM) : lastW (addW1 ws n c) = n := by unfold addW1; rw [last_app]
theorem addW1_ne (ws : List WasM) (n : UInt32) (c : ChgM) : addW1 ws n c ≠ [] := by unfold addW1; simp
theorem findP_app (ws : List WasM) (w : WasM) (n : UInt32) : findP (ws ++ [w]) n = if w.at_ ≤ n then (w.val, !w.gone) else findP ws n := by
  unfold findP
  rw [List.reverse_append, List.reverse_singleton, List.singleton_append, List.find?_cons]
  by_cases h : w.at_ ≤ n <;> simp [h]
theorem last_split {ws : List WasM} (h : ws ≠ []) : ∃ w, ws = ws.dropLast ++ [w] ∧ lastW ws = w.at_ := by
  refine ⟨ws.getLast h, (List.dropLast_concat_getLast h).symm, ?_⟩
  unfold lastW
  rw [List.getLast?_eq_some_getLast h]; rfl
theorem addW1_old (ws : List WasM) {n m : UInt32} (h : m < n) (c : ChgM) : valW (addW1 ws n c) m = valW ws m := by
  have hn : ¬ n ≤ m := fun e => UInt32.lt_irrefl _ (UInt32.lt_of_lt_of_le h e)
  have e : findP (addW1 ws n c) m = findP ws m := by
    unfold addW1
    rw [findP_app]
    simp only [hn, if_false]
    split
    · rename_i hc
      obtain ⟨w, h1, h2⟩ := last_split hc.1
      conv => rhs; rw [h1]
      rw [findP_app, ← h2, hc.2, if_neg hn]
    · rfl
  unfold valW; rw [e]
theorem addW1_new (ws : List WasM) (n : UInt32) (c : ChgM) : valW (addW1 ws n c) n = if c.gone then none else some c.val := by
  have e : findP (addW1 ws n c) n = (c.val, !c.gone) := by
    unfold addW1
    rw [findP_app]; simp
  unfold valW; rw [e]
  cases c.gone <;> simp
theorem addW1_mem {ws : List WasM} {n : UInt32} {c : ChgM} {w : WasM} (h : w ∈ addW1 ws n c) : w ∈ ws ∨ w.at_ = n := by
  unfold addW1 at h
  rcases List.mem_append.1 h with h | h
  · split at h
    · exact .inl (List.dropLast_subset _ h)
    · exact .inl h
  · simp at h; subst h; exact .inr rfl
theorem findP_last {ws : List WasM} {n m : UInt32} (hn : ∀ w ∈ ws, w.at_ ≤ n) (hm : ∀ w ∈ ws, w.at_ ≤ m) : findP ws n = findP ws m := by
  unfold findP
  cases h : ws.reverse with
  | nil => rfl
  | cons w l =>
    have hw : w ∈ ws := by rw [← List.mem_reverse, h]; simp
    simp [List.find?_cons, hn w hw, hm w hw]
/-- Some changes of a commit are in. -/
structure MidOk (l : PS) (now trim : UInt32) (H : List (List ChgM)) (pre : List ChgM) : Prop where
  nodup : (l.map (·.1)).Nodup
  ne : ∀ p ∈ l, p.2 ≠ []
  keys : ∀ p ∈ l, keyOk p.1 = true
  le : ∀ p ∈ l, ∀ w ∈ p.2, w.at_ ≤ now + 1
  val : ∀ k n, trim ≤ n → n ≤ now → valP l k n = getR (rowsN H n.toNat) k
  new : ∀ k, valP l k (now + 1) = getR (changeR (rowsN H H.length) pre) k
  last : ∀ p ∈ l, (lastW p.2 = now + 1 ∧ ∃ c ∈ pre, c.key = p.1) ∨ (lastOk H p.1 (lastW p.2) ∧ ∀ c ∈ pre, c.key ≠ p.1)
  sure : ∀ cs ∈ H, ∀ c ∈ cs, (getS l c.key).isSome = true
  pres : ∀ c ∈ pre, (getS l c.key).isSome = true
  size : l.length ≤ H.flatten.length + pre.length
  lens : ∀ p ∈ l, p.2.length ≤ H.length ∨ (lastW p.2 = now + 1 ∧ p.2.length ≤ H.length + 1)
theorem setS_len (l : PS) (k : ByteArray) (ws : List WasM) : (setS l k ws).length ≤ l.length + 1 := by
  unfold setS; split <;> simp
theorem PastOk.start {l : PS} {now trim : UInt32} {H : List (List ChgM)} (h : PastOk l now trim H) (hb : H.length < 4294967295) : MidOk l now trim H [] := by
  have hlt : now ≤ now + 1 := by rw [UInt32.le_iff_toNat_le, UInt32.toNat_add, h.nowH]; simp; omega
  refine ⟨h.nodup, h.ne, h.keys, fun p hp w hw => UInt32.le_trans (h.le p hp w hw) hlt, h.val, fun k => ?_, fun p hp => .inr ⟨h.last p hp, by simp⟩, h.sure, by simp, h.size, fun p hp => .inl (h.lens p hp)⟩
  have h1 := h.val k now h.trimH (UInt32.le_refl _)
  rw [h.nowH] at h1
  show valP l k (now + 1) = getR (rowsN H H.length) k
  rw [← h1]
  unfold valP
  cases hg : getS l k with
  | none => rfl
  | some ws =>
    have hm := getS_some hg
    have : findP ws (now + 1) = findP ws now := findP_last (fun w hw => UInt32.le_trans (h.le _ hm w hw) hlt) (fun w hw => h.le _ hm w hw)
    simp only [valW, this]
theorem MidOk.step {l : PS} {now trim : UInt32} {H : List (List ChgM)} {pre : List ChgM} (h : MidOk l now trim H pre) (hnow : now.toNat = H.length) (hb : H.length < 4294967295) (c : ChgM) (hc : keyOk c.key = true) : MidOk (putS l (now + 1) c) now trim H (pre ++ [c]) := by
  have hlt : now < now + 1 := by rw [UInt32.lt_iff_toNat_lt, UInt32.toNat_add, hnow]; simp; omega
  have hmem : ∀ p ∈ putS l (now + 1) c, (p.1 = c.key ∧ p.2 = addW1 ((getS l c.key).getD []) (now + 1) c) ∨ (p.1 ≠ c.key ∧ p ∈ l) := fun p hp => by
    have h1 := getS_mem (setS_nodup h.nodup c.key (addW1 ((getS l c.key).getD []) (now + 1) c)) hp
    rw [setS_get] at h1
    by_cases e : p.1 = c.key
    · rw [if_pos e] at h1; exact .inl ⟨e, (Option.some.inj h1).symm⟩
    · rw [if_neg e] at h1; exact .inr ⟨e, getS_some h1⟩
  have hv : ∀ k n, valP (putS l (now + 1) c) k n = if k = c.key then valW (addW1 ((getS l c.key).getD []) (now + 1) c) n else valP l k n := fun k n => by
    unfold valP putS
    rw [setS_get]
    by_cases e : k = c.key <;> simp [e]
  refine ⟨setS_nodup h.nodup _ _, fun p hp => ?_, fun p hp => ?_, fun p hp w hw => ?_, fun k n h1 h2 => ?_, fun k => ?_, fun p hp => ?_, fun cs hcs c' hc' => ?_, fun c' hc' => ?_, ?_, fun p hp => ?_⟩
  · rcases hmem p hp with ⟨_, h2⟩ | ⟨_, h2⟩
    · rw [h2]; exact addW1_ne _ _ _
    · exact h.ne p h2
  · rcases hmem p hp with ⟨h1, _⟩ | ⟨_, h2⟩
    · rw [h1]; exact hc
    · exact h.keys p h2
  · rcases hmem p hp with ⟨_, h2⟩ | ⟨_, h2⟩
    · rw [h2] at hw
      rcases addW1_mem hw with hw | hw
      · cases hg : getS l c.key with
        | none => rw [hg] at hw; simp at hw
        | some ws => rw [hg] at hw; exact h.le _ (getS_some hg) w hw
      · rw [hw]; exact UInt32.le_refl _
    · exact h.le p h2 w hw
  · rw [hv]
    by_cases e : k = c.key
    · rw [if_pos e, addW1_old _ (UInt32.lt_of_le_of_lt h2 hlt), ← h.val k n h1 h2, e]
      unfold valP
      cases getS l c.key <;> rfl
    · rw [if_neg e]; exact h.val k n h1 h2
  · rw [hv, changeR_snoc, getR_apply (changeR_rising pre (rowsN_rising H _)).1, addW1_new, h.new]
  · rcases hmem p hp with ⟨h1, h2⟩ | ⟨h1, h2⟩
    · left
      rw [h2]
      exact ⟨addW1_last _ _ _, c, by simp, h1.symm⟩
    · rcases h.last p h2 with ⟨a, c', b1, b2⟩ | ⟨a, b⟩
      · exact .inl ⟨a, c', by simp [b1], b2⟩
      · refine .inr ⟨a, fun c' hc' => ?_⟩
        rcases List.mem_append.1 hc' with hc' | hc'
        · exact b c' hc'
        · simp at hc'; subst hc'; exact fun e => h1 e.symm
  · unfold putS; rw [setS_get]; split
    · rfl
    · exact h.sure cs hcs c' hc'
  · unfold putS; rw [setS_get]; split
    · rfl
    · rcases List.mem_append.1 hc' with hc' | hc'
      · exact h.pres c' hc'
      · simp at hc'; subst hc'; rename_i hne; exact absurd rfl hne
  · have := setS_len l c.key (addW1 ((getS l c.key).getD []) (now + 1) c)
    have := h.size
    unfold putS; rw [List.length_append, List.length_singleton]; omega
  · rcases hmem p hp with ⟨_, h2⟩ | ⟨_, h2⟩
    · right
      rw [h2]
      refine ⟨addW1_last _ _ _, ?_⟩
      have hw : ((getS l c.key).getD []).length ≤ H.length ∨ (lastW ((getS l c.key).getD []) = now + 1 ∧ ((getS l c.key).getD []).length ≤ H.length + 1) := by
        cases hg : getS l c.key with
        | none => left; simp
        | some ws => exact h.lens _ (getS_some hg)
      unfold addW1
      rw [List.length_append, List.length_singleton]
      split
      · rename_i hc'
        rw [List.length_dropLast]
        have := List.length_pos_iff.2 hc'.1
        rcases hw with hw | ⟨_, hw⟩ <;> omega
      · rename_i hc'
        rcases hw with hw | ⟨hl, hw⟩
        · omega
        · have : (getS l c.key).getD [] = [] := by
            cases e : (getS l c.key).getD [] with
            | nil => rfl
            | cons a b => exact absurd ⟨by rw [e]; simp, hl⟩ hc'
          rw [this]; simp
    · exact h.lens p h2
theorem MidOk.done {l l0 : PS} {now trim : UInt32} {H : List (List ChgM)} (h : PastOk l0 now trim H) (hb : H.length < 4294967295) {cs : List ChgM} (hm : MidOk l now trim H cs) : PastOk l (now + 1) trim (H ++ [cs]) := by
  have hn1 : (now + 1).toNat = H.length + 1 := by rw [UInt32.toNat_add, h.nowH]; simp; omega
  have hlt : now < now + 1 := by rw [UInt32.lt_iff_toNat_lt, hn1, h.nowH]; omega
  refine ⟨by rw [hn1]; simp, UInt32.le_trans h.trimH (UInt32.le_of_lt hlt), hm.nodup, hm.ne, hm.keys, hm.le, fun k n h1 h2 => ?_, fun p hp => ?_, fun cs' hcs c' hc' => ?_, by have := hm.size; rw [List.flatten_append, List.length_append, List.flatten_singleton]; exact this, fun p hp => by have := hm.lens p hp; rw [List.length_append, List.length_singleton]; omega⟩
  · by_cases e : n = now + 1
    · subst e; rw [hm.new, hn1, rowsN_new]
    · have hle : n ≤ now := by
        rw [UInt32.le_iff_toNat_le] at h2 ⊢
        have : n.toNat ≠ (now + 1).toNat := fun h3 => e (UInt32.toNat_inj.1 h3)
        rw [hn1] at this h2; rw [h.nowH]; omega
      rw [hm.val k n h1 hle, rowsN_old]
      rw [UInt32.le_iff_toNat_le, h.nowH] at hle; exact hle
  · rcases hm.last p hp with ⟨h1, c, h2, h3⟩ | ⟨⟨⟨cs', h1, h2, h3⟩, h4⟩, h5⟩
    · rw [h1]
      refine ⟨⟨cs, by omega, by rw [hn1]; simp, c, h2, h3⟩, fun j cs' hj hcs => ?_⟩
      rw [hn1] at hj
      rw [List.getElem?_eq_none (by simp; omega)] at hcs; cases hcs
    · refine ⟨⟨cs', h1, ?_, h3⟩, fun j cs'' hj hcs => ?_⟩
      · rw [List.getElem?_append_left (idx_lt h2)]; exact h2
      · rcases Nat.lt_or_ge j H.length with hjl | hjl
        · rw [List.getElem?_append_left hjl] at hcs; exact h4 j cs'' hj hcs
        · rw [List.getElem?_append_right hjl] at hcs
          have : cs'' = cs := by
            cases hd : j - H.length with
            | zero => rw [hd] at hcs; simpa using hcs.symm
            | succ q => rw [hd] at hcs; simp at hcs
          subst this; exact h5
  · rcases List.mem_append.1 hcs with hcs | hcs
    · exact hm.sure cs' hcs c' hc'
    · simp at hcs; subst hcs; exact hm.pres c' hc'
/-! what nobody looks at any more -/
theorem trimI_spec (ws : List WasM) (n : UInt32) : ∀ i, trimI ws n i ≤ i ∧ (trimI ws n i = 0 ∨ ∃ w, ws[trimI ws n i]? = some w ∧ w.at_ ≤ n)
  | 0 => ⟨Nat.le_refl _, .inl rfl⟩
  | i + 1 => by
    have ih := trimI_spec ws n i
    unfold trimI
    cases e : ws[i + 1]? with
    | none => exact ⟨Nat.zero_le _, .inl rfl⟩
    | some w =>
      simp only
      split
      · exact ⟨by omega, ih.2⟩
      · rename_i h; exact ⟨Nat.le_refl _, .inr ⟨w, e, UInt32.not_lt.1 h⟩⟩
theorem findP_drop {ws : List WasM} {i : Nat} {w : WasM} {n : UInt32} (h : ws[i]? = some w) (hw : w.at_ ≤ n) : findP (ws.drop i) n = findP ws n := by
  have hlt := idx_lt h
  have e : ws.drop i = w :: ws.drop (i + 1) := by
    rw [List.drop_eq_getElem_cons hlt]; rw [List.getElem?_eq_getElem hlt] at h; cases h; rfl
  have e2 : ws.reverse = (ws.drop i).reverse ++ (ws.take i).reverse := by rw [← List.reverse_append, List.take_append_drop]
  unfold findP
  rw [e2, List.find?_append]
  cases hf : (ws.drop i).reverse.find? fun w => decide (w.at_ ≤ n) with
  | some x => rfl
  | none =>
    have := List.find?_eq_none.1 hf w (by rw [List.mem_reverse, e]; simp)
    simp [hw] at this
theorem trimW_val (ws : List WasM) {n m : UInt32} (h : n ≤ m) : valW (trimW ws n) m = valW ws m := by
  unfold trimW
  rcases (trimI_spec ws n (ws.length - 1)).2 with h0 | ⟨w, h1, h2⟩
  · rw [h0, List.drop_zero]
  · unfold valW; rw [findP_drop h1 (UInt32.le_trans h2 h)]
theorem trimW_ne {ws : List WasM} (h : ws ≠ []) (n : UInt32) : trimW ws n ≠ [] ∧ lastW (trimW ws n) = lastW ws := by
  have h1 := (trimI_spec ws n (ws.length - 1)).1
  have h2 : 0 < ws.length := List.length_pos_iff.2 h
  have h3 : trimW ws n ≠ [] := by
    unfold trimW; intro e; have := congrArg List.length e; rw [List.length_drop] at this; simp at this; omega
  refine ⟨h3, ?_⟩
  unfold lastW trimW
  rw [List.getLast?_drop, if_neg (by omega)]
theorem getS_map (l : PS) (f : List WasM → List WasM) (k : ByteArray) : getS (l.map fun p => (p.1, f p.2)) k = (getS l k).map f := by
  unfold getS
  induction l with
  | nil => rfl
  | cons x l ih =>
    simp only [List.map_cons, List.find?_cons]
    by_cases h : x.1 = k
    · simp [h]
    · simp only [h, decide_false]; exact ih
theorem PastOk.trimmed {l : PS} {now trim : UInt32} {H : List (List ChgM)} (h : PastOk l now trim H) {n : UInt32} (h1 : trim ≤ n) (h2 : n ≤ now) : PastOk (l.map fun p => (p.1, trimW p.2 n)) now n H := by
  have hm : ∀ p ∈ l.map (fun p => (p.1, trimW p.2 n)), ∃ q ∈ l, p = (q.1, trimW q.2 n) := fun p hp => by
    obtain ⟨q, hq, rfl⟩ := List.mem_map.1 hp; exact ⟨q, hq, rfl⟩
  refine ⟨h.nowH, h2, by rw [List.map_map]; exact h.nodup, fun p hp => ?_, fun p hp => ?_, fun p hp w hw => ?_, fun k m h3 h4 => ?_, fun p hp => ?_, fun cs hcs c hc => ?_, ?_, fun p hp => ?_⟩
  · obtain ⟨q, hq, rfl⟩ := hm p hp; exact (trimW_ne (h.ne q hq) n).1
  · obtain ⟨q, hq, rfl⟩ := hm p hp; exact h.keys q hq
  · obtain ⟨q, hq, rfl⟩ := hm p hp; exact h.le q hq w (List.mem_of_mem_drop hw)
  · rw [← h.val k m (UInt32.le_trans h1 h3) h4]
    unfold valP
    rw [getS_map l (fun ws => trimW ws n) k]
    cases getS l k with
    | none => rfl
    | some ws => exact trimW_val ws h3
  · obtain ⟨q, hq, rfl⟩ := hm p hp
    show lastOk H q.1 (lastW (trimW q.2 n))
    rw [(trimW_ne (h.ne q hq) n).2]; exact h.last q hq
  · rw [getS_map l (fun ws => trimW ws n), Option.isSome_map]; exact h.sure cs hcs c hc
  · rw [List.length_map]; exact h.size
  · obtain ⟨q, hq, rfl⟩ := hm p hp
    have := h.lens q hq
    show (trimW q.2 n).length ≤ _
    unfold trimW; rw [List.length_drop]; omega
/-! what is told -/
theorem foldP_rising (n : UInt32) : ∀ (l : PS) {r : List RowM}, Rising r → Rising (l.foldl (stepP n) r)
  | [], _, h => h
  | p :: l, r, h => by
    rw [List.foldl_cons]
    apply foldP_rising n l
    unfold stepP
    split
    · exact (setR_spec h _ _).1
    · exact h
theorem foldP_get (n : UInt32) (k : ByteArray) : ∀ (l : PS) {r : List RowM}, (l.map (·.1)).Nodup → Rising r → getR (l.foldl (stepP n) r) k = (valP l k n).or (getR r k)
  | [], _, _, _ => rfl
  | p :: l, r, hn, h => by
    rw [List.foldl_cons]
    rw [List.map_cons] at hn
    obtain ⟨hn1, hn2⟩ := List.nodup_cons.1 hn
    have hset : ∀ v, getR (setR r p.1 v) k = if k = p.1 then some v else getR r k := fun v => by
      have := getR_apply h ⟨p.1, v, false⟩ k
      simpa [applyC] using this
    have hP : valP (p :: l) k n = if p.1 = k then valW p.2 n else valP l k n := by
      unfold valP getS
      rw [List.find?_cons]
      by_cases e : p.1 = k <;> simp [e]
    rw [hP]
    by_cases e : p.1 = k
    · rw [if_pos e]
      have hno : valP l k n = none := by
        unfold valP
        cases hg : getS l k with
        | none => rfl
        | some ws => exact absurd (List.mem_map.2 ⟨_, getS_some hg, rfl⟩) (e ▸ hn1)
      cases hv : valW p.2 n with
      | none => rw [show stepP n r p = r by unfold stepP; rw [hv], foldP_get n k l hn2 h, hno]
      | some v => rw [show stepP n r p = setR r p.1 v by unfold stepP; rw [hv], foldP_get n k l hn2 (setR_spec h _ _).1, hno, hset, if_pos e.symm]; rfl
    · rw [if_neg e]
      cases hv : valW p.2 n with
      | none => rw [show stepP n r p = r by unfold stepP; rw [hv], foldP_get n k l hn2 h]
      | some v =>
        rw [show stepP n r p = setR r p.1 v by unfold stepP; rw [hv], foldP_get n k l hn2 (setR_spec h _ _).1, hset, if_neg (fun h => e h.symm)]
theorem rowsP_rising (l : PS) (n : UInt32) : Rising (rowsP l n) := foldP_rising n l List.Pairwise.nil
theorem PastOk.rows {l : PS} {now trim : UInt32} {H : List (List ChgM)} (h : PastOk l now trim H) {n : UInt32} (h1 : trim ≤ n) (h2 : n ≤ now) : rowsP l n = rowsN H n.toNat := by
  refine getR_ext (rowsP_rising l n) (rowsN_rising H _) fun k => ?_
  rw [← h.val k n h1 h2]
  unfold rowsP
  rw [foldP_get n k l h.nodup List.Pairwise.nil]
  cases valP l k n <;> rfl
def sinceH (H : List (List ChgM)) (n : Nat) (s : SpanM) : Bool := (H.drop n).any fun cs => cs.any fun c => inSpan s c.key
theorem PastOk.since {l : PS} {now trim : UInt32} {H : List (List ChgM)} (h : PastOk l now trim H) (n : UInt32) (s : SpanM) : sinceP l n s = sinceH H n.toNat s := by
  rw [Bool.eq_iff_iff]
  unfold sinceP sinceH
  simp only [List.any_eq_true, Bool.and_eq_true, decide_eq_true_eq, meet_one]
  constructor
  · rintro ⟨p, hp, h1, h2⟩
    obtain ⟨⟨cs, a1, a2, c, a3, a4⟩, _⟩ := h.last p hp
    refine ⟨cs, ?_, c, a3, by rw [a4]; exact h2⟩
    rw [UInt32.lt_iff_toNat_lt] at h1
    exact List.mem_iff_getElem?.2 ⟨(lastW p.2).toNat - 1 - n.toNat, by rw [List.getElem?_drop, ← a2]; congr 1; omega⟩
  · rintro ⟨cs, hcs, c, hc, h2⟩
    obtain ⟨j, hj⟩ := List.mem_iff_getElem?.1 hcs
    rw [List.getElem?_drop] at hj
    have hs := h.sure cs (List.mem_of_getElem? hj) c hc
    cases hg : getS l c.key with
    | none => rw [hg] at hs; cases hs
    | some ws =>
      have hm := getS_some hg
      refine ⟨_, hm, ?_, h2⟩
      rw [UInt32.lt_iff_toNat_lt]
      rcases Nat.lt_or_ge n.toNat (lastW ws).toNat with h3 | h3
      · exact h3
      · exact absurd rfl ((h.last _ hm).2 (n.toNat + j) cs (by show (lastW ws).toNat ≤ _; omega) hj c hc)
theorem PastOk.init : PastOk [] 0 0 [] := ⟨rfl, UInt32.le_refl _, List.nodup_nil, by simp, by simp, by simp, fun k n _ _ => by simp [valP, getS, rowsN, changeR, getR], by simp, by simp, by simp, by simp⟩
/-- Some entries have come. -/
structure ScanI (l : PS) (n : UInt32) (left : List ByteArray) (rows : List RowM) : Prop where
  rising : Rising rows
  nodup : left.Nodup
  val : ∀ k, getR rows k = if k ∈ left then none else valP l k n
theorem ScanI.first {l : PS} {left : List ByteArray} (h : left = l.map (·.1)) (hn : (l.map (·.1)).Nodup) (n : UInt32) : ScanI l n left [] := by
  refine ⟨List.Pairwise.nil, h ▸ hn, fun k => ?_⟩
  split
  · rfl
  · rename_i hk
    unfold valP
    cases hg : getS l k with
    | none => rfl
    | some ws => exact absurd (h ▸ List.mem_map.2 ⟨_, getS_some hg, rfl⟩) hk
theorem getR_set {l : List RowM} (h : Rising l) (k : ByteArray) (v : UInt32) (j : ByteArray) : getR (setR l k v) j = if j = k then some v else getR l j := by
  have := getR_apply h ⟨k, v, false⟩ j
  simpa [applyC] using this
theorem mid_nodup {A B : List ByteArray} {k : ByteArray} (h : (A ++ k :: B).Nodup) : (A ++ B).Nodup ∧ k ∉ A ++ B := by
  obtain ⟨a1, a2, a3⟩ := List.nodup_append.1 h
  obtain ⟨b1, b2⟩ := List.nodup_cons.1 a2
  refine ⟨List.nodup_append.2 ⟨a1, b2, fun a ha b hb => a3 a ha b (by simp [hb])⟩, fun hm => ?_⟩
  rcases List.mem_append.1 hm with hm | hm
  · exact a3 _ hm _ (by simp) rfl
  · exact b1 hm
theorem ScanI.put {l : PS} {n : UInt32} {left A B : List ByteArray} {rows : List RowM} {k : ByteArray} {ws : List WasM} (h : ScanI l n left rows) (hl : left = A ++ k :: B) (hg : getS l k = some ws) (hf : (findP ws n).2 = true) : ScanI l n (A ++ B) (setR rows k (findP ws n).1) := by
  obtain ⟨h1, h2⟩ := mid_nodup (hl ▸ h.nodup)
  refine ⟨(setR_spec h.rising _ _).1, h1, fun j => ?_⟩
  rw [getR_set h.rising]
  by_cases e : j = k
  · subst e
    rw [if_pos rfl, if_neg h2]
    unfold valP; rw [hg]; simp [valW, hf]
  · rw [if_neg e, h.val, hl]
    have : j ∈ A ++ k :: B ↔ j ∈ A ++ B := by simp [e]
    simp only [this]
theorem ScanI.skip {l : PS} {n : UInt32} {left A B : List ByteArray} {rows : List RowM} {k : ByteArray} {ws : List WasM} (h : ScanI l n left rows) (hl : left = A ++ k :: B) (hg : getS l k = some ws) (hf : (findP ws n).2 = false) : ScanI l n (A ++ B) rows := by
  obtain ⟨h1, h2⟩ := mid_nodup (hl ▸ h.nodup)
  refine ⟨h.rising, h1, fun j => ?_⟩
  rw [h.val, hl]
  by_cases e : j = k
  · subst e
    rw [if_pos (by simp), if_neg h2]
    unfold valP; rw [hg]; simp [valW, hf]
  · have : j ∈ A ++ k :: B ↔ j ∈ A ++ B := by simp [e]
    simp only [this]
theorem ScanI.done {l : PS} {now trim n : UInt32} {H : List (List ChgM)} {rows : List RowM} (h : ScanI l n [] rows) (hP : PastOk l now trim H) (h1 : trim ≤ n) (h2 : n ≤ now) : rows = rowsN H n.toNat := by
  refine getR_ext h.rising (rowsN_rising H _) fun k => ?_
  rw [h.val, ← hP.val k n h1 h2]; simp
theorem putS_ents (es : List (EntV ByteArray WasM)) (n : UInt32) (c : ChgM) (sv : SV) : (setE es c.key sv (addW1 (wsE es c.key) n c)).map stE = putS (es.map stE) n c := by
  rw [setE_st, putS, wsE_st]
theorem addW1_len (ws : List WasM) (n : UInt32) (c : ChgM) : (addW1 ws n c).length ≤ ws.length + 1 := by
  unfold addW1
  rw [List.length_append, List.length_singleton]
  split
  · rw [List.length_dropLast]; omega
  · omega
theorem MidOk.len_le {es : List (EntV ByteArray WasM)} {now trim : UInt32} {H : List (List ChgM)} {pre : List ChgM} (h : MidOk (es.map stE) now trim H pre) (k : ByteArray) : (wsE es k).length ≤ H.length + 1 := by
  rw [wsE_st]
  cases hg : getS (es.map stE) k with
  | none => simp
  | some ws =>
    have := h.lens _ (getS_some hg)
    simp only [Option.getD_some]
    rcases this with h | ⟨_, h⟩ <;> simp only at h <;> omega
theorem eqlast {ws : List WasM} {w : WasM} {n : UInt32} (h : ws[ws.length - 1]? = some w) : (w.at_ == n) = decide (ws ≠ [] ∧ lastW ws = n) := by
  have hne : ws ≠ [] := fun e => by rw [e] at h; simp at h
  rw [lastW_at h, Bool.eq_iff_iff]
  simp [hne]
end Go.SL
/- A map whose values are pointers, and what lies there. -/
set_option linter.unusedSimpArgs false
set_option linter.unusedVariables false
set_option linter.unusedSectionVars false
namespace Go.SL
open Go
/-- An entry: its key, where it lies, what it holds. -/
structure TxU (κ σ : Type) where
  id : κ
  q : Nat
  x : σ
section
variable {κ σ : Type} [DecidableEq κ]
def findU (ts : List (TxU κ σ)) (n : κ) : Option (TxU κ σ) := ts.find? fun t => decide (t.id = n)
def delU (ts : List (TxU κ σ)) (n : κ) : List (TxU κ σ) := ts.eraseP fun t => decide (t.id = n)
def kvU (t : TxU κ σ) : κ × Value := (t.id, .pointer (some ⟨t.q, 0, none⟩))
def setU (ts : List (TxU κ σ)) (n : κ) (x : σ) : List (TxU κ σ) := ts.map fun o => if o.id = n then { o with x := x } else o
theorem mget_kvU (ts : List (TxU κ σ)) (n : κ) : mget (ts.map kvU) n = (findU ts n).map fun t => .pointer (some ⟨t.q, 0, none⟩) := by
  unfold mget findU
  induction ts with
  | nil => rfl
  | cons t ts ih =>
    simp only [List.map_cons, List.find?_cons, kvU]
    by_cases h : t.id = n
    · simp [h]
    · simp only [h, decide_false]; exact ih
theorem mdel_kvU (ts : List (TxU κ σ)) (n : κ) : mdel (ts.map kvU) n = (delU ts n).map kvU := by
  unfold mdel midx delU
  induction ts with
  | nil => rfl
  | cons t ts ih =>
    simp only [List.map_cons, List.findIdx?_cons, List.eraseP_cons, kvU]
    by_cases h : t.id = n
    · simp [h]
    · simp only [h, decide_false, Bool.false_eq_true, if_false, cond_false]
      cases hm : List.findIdx? (fun p : κ × Value => decide (p.1 = n)) (ts.map kvU) with
      | none => rw [hm] at ih; simp [ih, kvU]
      | some j => rw [hm] at ih; simp only [Option.map_some, List.eraseIdx_cons_succ, List.map_cons]; rw [← ih]; rfl
theorem mset_kvU (ts : List (TxU κ σ)) (t : TxU κ σ) (h : findU ts t.id = none) : mset (ts.map kvU) t.id (.pointer (some ⟨t.q, 0, none⟩)) = (ts ++ [t]).map kvU := by
  have h1 : midx (ts.map kvU) t.id = none := by rw [midx_none, mget_kvU, h]; rfl
  simp [mset, h1, kvU]
theorem findU_mid {ts : List (TxU κ σ)} {n : κ} {t : TxU κ σ} (h : findU ts n = some t) : t.id = n ∧ ∃ A B, ts = A ++ t :: B ∧ delU ts n = A ++ B ∧ ∀ x ∈ A, x.id ≠ n := by
  unfold findU at h
  induction ts with
  | nil => simp at h
  | cons x ts ih =>
    rw [List.find?_cons] at h
    by_cases e : x.id = n
    · simp [e] at h; subst h
      exact ⟨e, [], ts, rfl, by simp [delU, e], by simp⟩
    · simp [e] at h
      obtain ⟨h1, A, B, h2, h3, h4⟩ := ih (by simpa using h)
      refine ⟨h1, x :: A, B, by simp [h2], by simp only [delU, List.eraseP_cons, e, decide_false, cond_false, List.cons_append] at h3 ⊢; rw [h3], ?_⟩
      intro y hy
      rcases List.mem_cons.1 hy with rfl | hy
      · exact e
      · exact h4 y hy
theorem findU_mem {ts : List (TxU κ σ)} {n : κ} {t : TxU κ σ} (h : findU ts n = some t) : t ∈ ts := List.mem_of_find?_eq_some h
theorem findU_none {ts : List (TxU κ σ)} {n : κ} (h : findU ts n = none) : n ∉ ts.map (·.id) := by
  intro hm
  obtain ⟨t, ht, rfl⟩ := List.mem_map.1 hm
  have := List.find?_eq_none.1 h t ht
  simp at this
theorem nodupU_mid {A B : List (TxU κ σ)} {t : TxU κ σ} (h : ((A ++ t :: B).map (·.id)).Nodup) : ∀ x ∈ A ++ B, x.id ≠ t.id := by
  rw [List.map_append, List.map_cons] at h
  obtain ⟨h1, h2, h3⟩ := List.nodup_append.1 h
  have h4 := (List.nodup_cons.1 h2).1
  intro x hx e
  rcases List.mem_append.1 hx with hx | hx
  · exact h3 x.id (List.mem_map.2 ⟨x, hx, rfl⟩) t.id (by simp) e
  · exact h4 (e ▸ List.mem_map.2 ⟨x, hx, rfl⟩)
theorem findU_of {ts : List (TxU κ σ)} (hn : (ts.map (·.id)).Nodup) {t : TxU κ σ} (ht : t ∈ ts) : findU ts t.id = some t := by
  obtain ⟨A, B, rfl⟩ := List.append_of_mem ht
  unfold findU
  rw [List.find?_append, List.find?_eq_none.2 (fun x hx => by have := nodupU_mid hn x (by simp [hx]); simpa using this)]
  simp
theorem delU_sub {ts : List (TxU κ σ)} {n : κ} : (delU ts n).Sublist ts := List.eraseP_sublist
theorem setU_mid {A B : List (TxU κ σ)} {t : TxU κ σ} (h : ((A ++ t :: B).map (·.id)).Nodup) (x : σ) : setU (A ++ t :: B) t.id x = A ++ { t with x := x } :: B := by
  have hn := nodupU_mid h
  unfold setU
  rw [List.map_append, List.map_cons, if_pos rfl]
  have e1 : ∀ l : List (TxU κ σ), (∀ y ∈ l, y.id ≠ t.id) → l.map (fun o => if o.id = t.id then { o with x := x } else o) = l := fun l hl => by
    conv => rhs; rw [← List.map_id l]
    apply List.map_congr_left
    intro o ho
    rw [if_neg (hl o ho)]; rfl
  rw [e1 A (fun x hx => hn x (by simp [hx])), e1 B (fun x hx => hn x (by simp [hx]))]
theorem setU_kv (ts : List (TxU κ σ)) (n : κ) (x : σ) : (setU ts n x).map kvU = ts.map kvU := by
  unfold setU
  rw [List.map_map]
  apply List.map_congr_left
  intro o _
  simp only [Function.comp]
  split <;> rfl
theorem setU_ids (ts : List (TxU κ σ)) (n : κ) (x : σ) : (setU ts n x).map (·.id) = ts.map (·.id) := by
  unfold setU
  rw [List.map_map]
  apply List.map_congr_left
  intro o _
  simp only [Function.comp]
  split <;> rfl
theorem setU_mem {ts : List (TxU κ σ)} {n : κ} {x : σ} {o : TxU κ σ} (h : o ∈ setU ts n x) : (∃ t ∈ ts, t.id = n ∧ o = { t with x := x }) ∨ (o ∈ ts ∧ o.id ≠ n) := by
  unfold setU at h
  obtain ⟨t, ht, rfl⟩ := List.mem_map.1 h
  by_cases e : t.id = n
  · left; exact ⟨t, ht, e, by rw [if_pos e]⟩
  · right; rw [if_neg e]; exact ⟨ht, e⟩
theorem setU_find {ts : List (TxU κ σ)} {n : κ} {x : σ} (m : κ) : findU (setU ts n x) m = (findU ts m).map fun t => if t.id = n then { t with x := x } else t := by
  unfold findU setU
  rw [List.find?_map]
  congr 1
  congr 1
  funext t
  simp only [Function.comp]
  split <;> rfl
/-- What lies at the entries; 'TP': at one. -/
def TxsU (TP : TxU κ σ → List HP) (ts : List (TxU κ σ)) : HP := bun (ts.map fun t => bun (TP t))
variable {TP : TxU κ σ → List HP}
theorem TxsU_nil {L : List HP} {S : Piece} (h : stars L S) : stars (TxsU TP [] :: L) S := bun_stars (L := []) h
theorem TxsU_out {ts A B : List (TxU κ σ)} {t : TxU κ σ} (h : ts = A ++ t :: B) : ∀ S, TxsU TP ts S → ∃ _ : Unit, stars (TP t ++ [TxsU TP (A ++ B)]) S := fun S hS => by
  subst h
  refine ⟨(), ?_⟩
  have hS : stars ((A ++ t :: B).map fun t => bun (TP t)) S := hS
  rw [List.map_append, List.map_cons] at hS
  have h1 := stars_bun (stars_unmove hS)
  have h2 := stars_append h1
  refine stars_append' ?_
  obtain ⟨S1, S2, a, b, c, d, e⟩ := h2
  refine ⟨S1, S2, a, b, c, d, ?_⟩
  rw [TxsU, List.map_append]
  exact bun_stars (M := []) (S := S2) (by simpa using e)
theorem TxsU_in {A B : List (TxU κ σ)} {t : TxU κ σ} : ∀ S, stars (TP t ++ [TxsU TP (A ++ B)]) S → TxsU TP (A ++ t :: B) S := fun S hS => by
  show stars ((A ++ t :: B).map fun t => bun (TP t)) S
  rw [List.map_append, List.map_cons]
  refine stars_move (bun_stars (L := TP t) ?_)
  obtain ⟨S1, S2, a, b, c, d, e⟩ := stars_append hS
  refine stars_append' ⟨S1, S2, a, b, c, d, ?_⟩
  rw [TxsU, List.map_append] at e
  have := stars_bun (M := []) e
  simpa using this
end
end Go.SL
/- A disk that holds records. -/
set_option linter.unusedSimpArgs false
set_option linter.unusedVariables false
set_option linter.unusedSectionVars false
namespace Go.SL
open Go
theorem recs_framesB : ∀ (ys : List (List UInt8)) (rest : List UInt8), (∀ y ∈ ys, (y).length ≤ 16384) → recs rest = [] → recs ((ys.flatMap frame) ++ rest) = ys.map fun y => (y, secs (y).length)
  | [], rest, _, h => by simpa using h
  | y :: ys, rest, hy, h => by
    have ih := recs_framesB ys rest (fun z hz => hy z (by simp [hz])) h
    rw [List.flatMap_cons, List.append_assoc, recs_some (getF_frame (hy y (by simp)) _), List.drop_left' (frame_len _), ih]
    rfl
structure DiskLogB (d : DiskM) (at0 : Nat) (ys : List (List UInt8)) : Prop where
  ok : d.ok
  waits : d.waits = []
  same : d.sure = d.seen
  len : d.sure.length = 4096
  flat : d.seen.flatten = (ys.flatMap frame) ++ List.replicate ((4096 - at0) * 64) 0
  hat : (ys.map fun y => secs (y).length).sum = at0
  le : at0 ≤ 4096
  yok : ∀ y ∈ ys, (y).length ≤ 16384
theorem frames_lenB : ∀ (ys : List (List UInt8)), (ys.flatMap frame).length = (ys.map fun y => secs (y).length).sum * 64
  | [] => rfl
  | y :: ys => by rw [List.flatMap_cons, List.length_append, frames_lenB ys, frame_len]; simp; omega
theorem DiskLogB.recs {d : DiskM} {at0 : Nat} {ys : List (List UInt8)} (h : DiskLogB d at0 ys) : (SL.recs d.seen.flatten).map (·.1) = ys ∧ ((SL.recs d.seen.flatten).map (·.2)).sum = at0 ∧ cleanTo d.seen.flatten d at0 (d.sure.length - at0) = d := by
  have hr : SL.recs d.seen.flatten = ys.map fun y => (y, secs (y).length) := by
    rw [h.flat]
    exact recs_framesB ys _ (fun y hy => h.yok y hy) (recs_zeros _)
  refine ⟨by rw [hr, List.map_map]; exact List.map_id' ys, by rw [hr, ← h.hat]; simp [Function.comp_def], clean_id _ _ _ _ fun j hj => ?_⟩
  have hl := h.len
  rw [h.flat, List.drop_append, frames_lenB, h.hat, List.drop_of_length_le (by rw [frames_lenB, h.hat]; omega), List.nil_append, List.drop_replicate, List.take_replicate]
  congr 1
  omega
theorem DiskLogB.fail {d : DiskM} {at0 : Nat} {ys : List (List UInt8)} (h : DiskLogB d at0 ys) : (⟨d.sure, d.sure, []⟩ : DiskM) = d := by
  have h1 := h.same; have h2 := h.waits
  cases d; simp only at h1 h2 ⊢; subst h1 h2; rfl
theorem DiskLogB.sync {d : DiskM} {at0 : Nat} {ys : List (List UInt8)} (h : DiskLogB d at0 ys) : d.sync = d := by
  have h1 := h.same; have h2 := h.waits
  cases d; simp only [DiskM.sync] at h1 h2 ⊢; subst h1 h2; rfl
theorem DiskLogB.first : DiskLogB (newDisk 4096).sync 0 [] :=
  ⟨newDisk_quiet.ok.sync, rfl, rfl, List.length_replicate, by show (newDisk 4096).seen.flatten = _; rw [new_flat]; rfl, rfl, Nat.zero_le _, by simp⟩
theorem DiskLogB.add {d : DiskM} {at0 : Nat} {ys : List (List UInt8)} (h : DiskLogB d at0 ys) {y : List UInt8} (hl : (y).length ≤ 16384) (hfit : at0 + secs (y).length ≤ d.sure.length) : DiskLogB (addW d at0 (frame (y)) (secs (y).length)).sync (at0 + secs (y).length) (ys ++ [y]) := by
  have hlen := h.len
  have hsl := h.ok.len
  obtain ⟨e1, e2⟩ := addW_flat (secs (y).length) d at0 (frame (y)) (frame_len _) (by omega)
  have hfr : (ys.flatMap frame).length = at0 * 64 := by rw [frames_lenB, h.hat]
  refine ⟨(addW_ok _ _ _ _ h.ok).sync, rfl, rfl, by show (addW _ _ _ _).seen.length = _; rw [e2]; omega, ?_, by rw [List.map_append, List.sum_append, h.hat]; simp, by omega, fun z hz => ?_⟩
  · show (addW _ _ _ _).seen.flatten = _
    rw [e1, flat_take64 _ _ h.ok.l2, flat_drop64 _ _ h.ok.l2, h.flat, List.take_left' hfr, List.drop_append, List.drop_of_length_le (by rw [hfr]; omega), List.nil_append, hfr, List.drop_replicate, List.flatMap_append]
    simp only [List.flatMap_cons, List.flatMap_nil, List.append_nil]
    congr 2
    omega
  · rcases List.mem_append.1 hz with hz | hz
    · exact h.yok z hz
    · simp at hz; subst hz; exact hl
end Go.SL
/- A store of transactions, in plain Lean: what both kinds share (one that locks, one that looks back). -/
set_option linter.unusedSimpArgs false
set_option linter.unusedVariables false
set_option linter.unusedSectionVars false
namespace Go.SL
open Go
structure TX where
  at_ : UInt32
  looked : List SpanM
  own : List ChgM
  waits : List UInt32
structure LockM where
  s : SpanM
  alone : Bool
abbrev TxT := TxU UInt32 TX
structure StV where
  d : DiskM
  at_ : Nat
  H : List (List ChgM)
  trim : UInt32
  locks : List (UInt32 × List LockM)
  txs : List TxT
inductive DoS
  | err (s : StV) (e : Nat)
  | put (s : StV)
  | look (s : StV) (rows : List RowM)
def StV.rows (s : StV) : List RowM := rowsN s.H s.H.length
theorem StV.rising (s : StV) : Rising s.rows := rowsN_rising _ _
theorem rowsN_all (H : List (List ChgM)) : rowsN H H.length = changeR [] H.flatten := by unfold rowsN; rw [List.take_length]
/-- What is known of a store, whatever kind it is. -/
structure StOk (s : StV) (b : Nat) : Prop where
  log : DiskLogB s.d s.at_ (s.H.map chgsB)
  recs : ∀ cs ∈ s.H, cs.length ≤ 4096 ∧ ∀ c ∈ cs, chgOk c = true
  sum : s.H.flatten.length + (s.txs.map fun t => t.x.own.length).sum ≤ b
  hl : s.H.length ≤ b
  ids : (s.txs.map (·.id)).Nodup
  own : ∀ t ∈ s.txs, ∀ c ∈ t.x.own, chgOk c = true
  lks : ∀ t ∈ s.txs, t.x.looked.length ≤ b
  tl : s.txs.length ≤ 32
  bb : b ≤ 1000000000
theorem StOk.mono {s : StV} {b c : Nat} (h : StOk s b) (hb : b ≤ c) (hc : c ≤ 1000000000) : StOk s c :=
  ⟨h.log, h.recs, Nat.le_trans h.sum hb, Nat.le_trans h.hl hb, h.ids, h.own, fun t ht => Nat.le_trans (h.lks t ht) hb, h.tl, hc⟩
theorem own_sum {ts : List TxT} {t : TxT} (ht : t ∈ ts) : t.x.own.length ≤ (ts.map fun t => t.x.own.length).sum := by
  obtain ⟨A, B, rfl⟩ := List.append_of_mem ht
  simp; omega
theorem StOk.own_le {s : StV} {b : Nat} (h : StOk s b) {t : TxT} (ht : t ∈ s.txs) : s.H.flatten.length + t.x.own.length ≤ b := by
  have := own_sum ht; have := h.sum; omega
theorem StOk.rows_le {s : StV} {b : Nat} (h : StOk s b) : s.rows.length ≤ b := by
  have := rowsN_len s.H s.H.length; have := h.sum; unfold StV.rows; omega
theorem sum_subU {a b : List TxT} (h : a.Sublist b) : (a.map fun t => t.x.own.length).sum ≤ (b.map fun t => t.x.own.length).sum := by
  induction h with
  | slnil => simp
  | cons x _ ih => simp; omega
  | cons_cons x _ ih => simp; omega
theorem chgOk_key {c : ChgM} (h : chgOk c = true) : keyOk c.key = true := by unfold chgOk at h; simp at h; exact h.1
/-! a transaction begins -/
def begE (s : StV) (n : UInt32) : Nat := if n = 0 then 1 else if (findU s.txs n).isSome then 7 else if 32 ≤ s.txs.length then 5 else 0
def begT (s : StV) (n : UInt32) (q : Nat) : TxT := ⟨n, q, ⟨UInt32.ofNat s.H.length, [], [], []⟩⟩
def begS (s : StV) (n : UInt32) (q : Nat) : StV := if begE s n = 0 then { s with txs := s.txs ++ [begT s n q] } else s
theorem begE_zero {s : StV} {n : UInt32} (h : begE s n = 0) : n ≠ 0 ∧ findU s.txs n = none := by
  unfold begE at h
  split at h
  · cases h
  · rename_i h0
    cases e : findU s.txs n with
    | none => exact ⟨h0, rfl⟩
    | some t => rw [e] at h; simp at h
theorem StOk.beg {s : StV} {b : Nat} (h : StOk s b) (n : UInt32) (q : Nat) : StOk (begS s n q) b := by
  unfold begS
  split
  · rename_i hE
    have hf := (begE_zero hE).2
    refine ⟨h.log, h.recs, ?_, h.hl, ?_, ?_, ?_, ?_, h.bb⟩
    · have := h.sum; simpa [begT] using this
    · simp only [List.map_append, List.map_cons, List.map_nil]
      refine List.nodup_append.2 ⟨h.ids, by simp, ?_⟩
      intro a ha c hc e
      simp at hc; subst hc; subst e
      exact findU_none hf ha
    · intro t ht
      rcases List.mem_append.1 ht with ht | ht
      · exact h.own t ht
      · simp at ht; subst ht; simp [begT]
    · intro t ht
      rcases List.mem_append.1 ht with ht | ht
      · exact h.lks t ht
      · simp at ht; subst ht; simp [begT]
    · unfold begE at hE
      split at hE
      · cases hE
      · split at hE
        · cases hE
        · split at hE
          · cases hE
          · simp; omega
  · exact h
/-- Some transactions are not open any more; the locks and what is looked back to may be others. -/
theorem StOk.sub {s s' : StV} {b : Nat} (h : StOk s b) (hd : s'.d = s.d) (ha : s'.at_ = s.at_) (hH : s'.H = s.H) (ht : s'.txs.Sublist s.txs) : StOk s' b :=
  ⟨by rw [hd, ha, hH]; exact h.log, by rw [hH]; exact h.recs, by rw [hH]; have := sum_subU ht; have := h.sum; omega, by rw [hH]; exact h.hl, h.ids.sublist (ht.map _), fun t htt => h.own t (ht.mem htt), fun t htt => h.lks t (ht.mem htt), Nat.le_trans ht.length_le h.tl, h.bb⟩
/-- What is written of a transaction. -/
def fitsS (s : StV) (t : TX) : Prop := (chgsB t.own).length ≤ 16384 ∧ s.at_ + secs (chgsB t.own).length ≤ s.d.sure.length
instance (s : StV) (t : TX) : Decidable (fitsS s t) := by unfold fitsS; infer_instance
theorem chgsB_len (l : List ChgM) : (chgsB l).length = 2 + (l.flatMap chgB).length := by simp only [chgsB, List.length_append, numB_len]
theorem not_fitsS {s : StV} {t : TX} (h : ¬ t.own.length ≤ 4096) : ¬ fitsS s t := fun hf => by
  have h1 := hf.1
  rw [chgsB_len] at h1
  have := (chgs_len t.own).1
  omega
def addS (e : StV) (own : List ChgM) : StV := { e with d := (addW e.d e.at_ (frame (chgsB own)) (secs (chgsB own).length)).sync, at_ := e.at_ + secs (chgsB own).length, H := e.H ++ [own] }
theorem addS_rows (e : StV) (own : List ChgM) : (addS e own).rows = changeR e.rows own := by
  show rowsN (e.H ++ [own]) (e.H ++ [own]).length = _
  rw [List.length_append, List.length_singleton, rowsN_new]; rfl
theorem StOk.add {s e : StV} {b : Nat} (h : StOk s b) {n : UInt32} {t : TxT} (hf : findU s.txs n = some t) (he : StOk e b) (hd : e.d = s.d) (ha : e.at_ = s.at_) (hH : e.H = s.H) (ht : e.txs = delU s.txs n) (hb : s.H.length + 1 ≤ b) (hfit : fitsS s t.x) : StOk (addS e t.x.own) b := by
  obtain ⟨_, A, B, hts, hdel, _⟩ := findU_mid hf
  have hmem := findU_mem hf
  have hle : t.x.own.length ≤ 4096 := by
    rcases Nat.lt_or_ge 4096 t.x.own.length with h5 | h5
    · exact absurd hfit (not_fitsS (by omega))
    · exact h5
  have hl := he.log.add (y := chgsB t.x.own) hfit.1 (by rw [ha, hd]; exact hfit.2)
  refine ⟨?_, ?_, ?_, ?_, he.ids, he.own, he.lks, he.tl, h.bb⟩
  · show DiskLogB _ _ ((e.H ++ [t.x.own]).map chgsB)
    rw [List.map_append]; exact hl
  · intro cs hcs
    rcases List.mem_append.1 hcs with hcs | hcs
    · exact he.recs cs hcs
    · simp at hcs; subst hcs; exact ⟨hle, h.own t hmem⟩
  · have h1 := h.sum
    show (e.H ++ [t.x.own]).flatten.length + (e.txs.map _).sum ≤ b
    rw [ht, hdel, hH]
    rw [hts] at h1
    simp only [List.map_append, List.map_cons, List.sum_append, List.sum_cons, List.flatten_append, List.length_append, List.flatten_singleton] at h1 ⊢
    omega
  · show (e.H ++ [t.x.own]).length ≤ b
    rw [hH, List.length_append]; exact hb
/-- One more change of a transaction. -/
theorem StOk.upd {s s' : StV} {b : Nat} (h : StOk s b) (hb : b + 1 ≤ 1000000000) {t : TxT} (hm : t ∈ s.txs) {x : TX} (hd : s'.d = s.d) (ha : s'.at_ = s.at_) (hH : s'.H = s.H) (ht : s'.txs = setU s.txs t.id x)
    (ho : x.own = t.x.own ∨ ∃ c, chgOk c = true ∧ x.own = t.x.own ++ [c]) (hl : x.looked.length ≤ b + 1) : StOk s' (b + 1) := by
  obtain ⟨A, B, e⟩ := List.append_of_mem hm
  have hp : s'.txs = A ++ { t with x := x } :: B := by rw [ht, e]; exact setU_mid (e ▸ h.ids) x
  refine ⟨by rw [hd, ha, hH]; exact h.log, by rw [hH]; exact h.recs, ?_, by rw [hH]; have := h.hl; omega, by rw [ht, setU_ids]; exact h.ids, ?_, ?_, by rw [ht]; simp only [setU, List.length_map]; exact h.tl, hb⟩
  · rw [hH, hp]
    have h1 := h.sum
    rw [e] at h1
    have h2 : x.own.length ≤ t.x.own.length + 1 := by rcases ho with h | ⟨c, _, h⟩ <;> rw [h] <;> simp
    simp only [List.map_append, List.map_cons, List.sum_append, List.sum_cons] at h1 ⊢
    omega
  · rw [hp]
    intro y hy c' hc'
    rcases List.mem_append.1 hy with hy | hy
    · exact h.own y (by rw [e]; simp [hy]) c' hc'
    · rcases List.mem_cons.1 hy with rfl | hy
      · rcases ho with h3 | ⟨c, hc, h3⟩
        · exact h.own t hm c' (by simpa [h3] using hc')
        · simp only [h3] at hc'
          rcases List.mem_append.1 hc' with hc' | hc'
          · exact h.own t hm c' hc'
          · simp at hc'; subst hc'; exact hc
      · exact h.own y (by rw [e]; simp [hy]) c' hc'
  · rw [hp]
    intro y hy
    rcases List.mem_append.1 hy with hy | hy
    · exact Nat.le_succ_of_le (h.lks y (by rw [e]; simp [hy]))
    · rcases List.mem_cons.1 hy with rfl | hy
      · exact hl
      · exact Nat.le_succ_of_le (h.lks y (by rw [e]; simp [hy]))
/-! what a kind of store does -/
structure Kind where
  ends : StV → UInt32 → StV
  doS : StV → UInt32 → OpM → DoS
  chk : StV → TX → Bool
section
variable (I : Kind)
def aboE (s : StV) (n : UInt32) : Nat := if (findU s.txs n).isSome then 0 else 6
def aboS (s : StV) (n : UInt32) : StV := if (findU s.txs n).isSome then I.ends s n else s
def comE (s : StV) (n : UInt32) : Nat := match findU s.txs n with
  | none => 6
  | some t => if I.chk s t.x then 9 else if fitsS s t.x then 0 else 5
def comN (s : StV) (n : UInt32) : UInt32 := if comE I s n = 0 then UInt32.ofNat s.H.length + 1 else 0
def comS (s : StV) (n : UInt32) : StV := match findU s.txs n with
  | none => s
  | some t => if I.chk s t.x then I.ends s n else if fitsS s t.x then addS (I.ends s n) t.x.own else I.ends s n
end
def chgsOf (l : List OpM) : List ChgM := chs l
/-- A kind of store that keeps to its word: 'Ok': what its slots may hold; 'V': what its transactions were told so far holds. -/
structure Good (I : Kind) where
  Ok : StV → Nat → Prop
  V : StV → Og → Prop
  ok : ∀ {s b}, Ok s b → StOk s b
  mono : ∀ {s b c}, Ok s b → b ≤ c → c ≤ 1000000000 → Ok s c
  beg : ∀ {s b}, Ok s b → ∀ n q, Ok (begS s n q) b
  endsE : ∀ {s b}, Ok s b → ∀ n, (I.ends s n).d = s.d ∧ (I.ends s n).at_ = s.at_ ∧ (I.ends s n).H = s.H ∧ (I.ends s n).txs = delU s.txs n
  ends : ∀ {s b}, Ok s b → ∀ n, Ok (I.ends s n) b
  com : ∀ {s b}, Ok s b → b + 1 ≤ 1000000000 → ∀ n, Ok (comS I s n) (b + 1)
  err : ∀ {s b n x s' e}, Ok s b → I.doS s n x = .err s' e → e ≠ 0 ∧ s'.d = s.d ∧ s'.at_ = s.at_ ∧ s'.H = s.H ∧ (∀ t ∈ s'.txs, ∃ u ∈ s.txs, t.id = u.id) ∧ Ok s' b ∧ ∀ o, V s o → V s' o
  put : ∀ {s b n x s'}, Ok s b → b + 1 ≤ 1000000000 → I.doS s n x = .put s' → ∃ t ∈ s.txs, t.id = n ∧ opOk x = true ∧ writes x = true ∧ s'.d = s.d ∧ s'.at_ = s.at_ ∧ s'.H = s.H ∧ (∀ t ∈ s'.txs, ∃ u ∈ s.txs, t.id = u.id) ∧ Ok s' (b + 1) ∧
    ∀ o, V s o → V s' (setO o n ((o n).1 ++ [x], (o n).2 ++ [[]]))
  look : ∀ {s b n x s' rows}, Ok s b → b + 1 ≤ 1000000000 → I.doS s n x = .look s' rows → ∃ t ∈ s.txs, t.id = n ∧ opOk x = true ∧ writes x = false ∧ s'.d = s.d ∧ s'.at_ = s.at_ ∧ s'.H = s.H ∧ (∀ t ∈ s'.txs, ∃ u ∈ s.txs, t.id = u.id) ∧ Ok s' (b + 1) ∧ rows.length ≤ 256 ∧
    ∀ o, V s o → V s' (setO o n ((o n).1 ++ [x], (o n).2 ++ [rows]))
  vbeg : ∀ {s b o}, Ok s b → V s o → ∀ n q, begE s n = 0 → V (begS s n q) (setO o n ([], []))
  vends : ∀ {s b o}, Ok s b → V s o → ∀ n, V (I.ends s n) o
  vcongr : ∀ {s o o'}, V s o → (∀ t ∈ s.txs, o t.id = o' t.id) → V s o'
  vown : ∀ {s o}, V s o → ∀ t ∈ s.txs, t.x.own = chs (o t.id).1 ∧ (∀ x ∈ (o t.id).1, opOk x = true)
  vcom : ∀ {s b o n t}, Ok s b → V s o → findU s.txs n = some t → I.chk s t.x = false → fitsS s t.x → (runM s.rows (o n).1).1 = (o n).2 ∧ V (addS (I.ends s n) t.x.own) o
/-! the law's loop -/
/-- What was committed stands in the order of the numbers, from 1 on. -/
structure SerC {I : Kind} (G : Good I) (i : Nat) (s : StV) (F all : List DidV) (kvs : List (UInt32 × Value)) : Prop where
  ok : G.Ok s i
  v : G.V s (ogD F)
  hist : s.H = all.map fun a => chs a.ops
  nums : ∀ k a, all[k]? = some a → a.num.toNat = k + 1
  opsok : ∀ a ∈ all, ∀ x ∈ a.ops, opOk x = true
  expl : ∀ k a, all[k]? = some a → (runM (rowsN s.H k) a.ops).1 = a.l.map (·.2)
  has : ∀ t ∈ s.txs, (findD F t.id).isSome = true
  opn : OpenOk kvs F
  lenF : ∀ d ∈ F, d.ops.length ≤ i ∧ d.l.length ≤ i
  lenA : ∀ d ∈ all, d.ops.length ≤ i ∧ d.l.length ≤ i
section
variable {I : Kind} {G : Good I} {i : Nat} {s : StV} {F all : List DidV} {kvs : List (UInt32 × Value)}
theorem SerC.len (h : SerC G i s F all kvs) : all.length ≤ i := by
  have := (G.ok h.ok).hl; rw [h.hist, List.length_map] at this; exact this
theorem SerC.mono (h : SerC G i s F all kvs) (hi : i < 1000) : SerC G (i + 1) s F all kvs :=
  ⟨G.mono h.ok (Nat.le_succ _) (by omega), h.v, h.hist, h.nums, h.opsok, h.expl, h.has, h.opn, fun d hd => by have := h.lenF d hd; omega, fun d hd => by have := h.lenA d hd; omega⟩
theorem SerC.beg0 {n : UInt32} (h : begE s n ≠ 0) (q : Nat) : begS s n q = s := by rw [begS, if_neg h]
theorem SerC.beg (h : SerC G i s F all kvs) (hi : i < 1000) {n : UInt32} (hE : begE s n = 0) (q b : Nat) :
    SerC G (i + 1) (begS s n q) (⟨n, b, 0, ⟨none, 0, 0⟩, [], ⟨none, 0, 0⟩, []⟩ :: delD F n) all (mset kvs n (.pointer (some ⟨b, 0, none⟩))) := by
  have h2 := h.mono hi
  have hB : begS s n q = { s with txs := s.txs ++ [begT s n q] } := by rw [begS, if_pos hE]
  have hH : (begS s n q).H = s.H := by rw [hB]
  refine ⟨G.beg h2.ok n q, ?_, by rw [hH]; exact h.hist, h.nums, h.opsok, by rw [hH]; exact h.expl, fun t ht => ?_, h.opn.new ⟨n, b, 0, ⟨none, 0, 0⟩, [], ⟨none, 0, 0⟩, []⟩, fun d hd => ?_, h2.lenA⟩
  · rw [ogD_set F (d := ⟨n, b, 0, ⟨none, 0, 0⟩, [], ⟨none, 0, 0⟩, []⟩) rfl]
    exact G.vbeg h.ok h.v n q hE
  · rw [findD_cons, findD_del]
    by_cases e : n = t.id
    · simp [e]
    · rw [if_neg e, if_neg (fun e2 => e e2.symm)]
      rw [hB] at ht
      rcases List.mem_append.1 ht with ht | ht
      · exact h.has t ht
      · simp at ht; subst ht; exact absurd rfl e
  · rcases List.mem_cons.1 hd with rfl | hd
    · exact ⟨Nat.zero_le _, Nat.zero_le _⟩
    · exact h2.lenF d (delD_mem hd)
theorem SerC.ends (h : SerC G i s F all kvs) (n : UInt32) : SerC G i (I.ends s n) F all kvs := by
  obtain ⟨_, _, hH, ht⟩ := G.endsE h.ok n
  exact ⟨G.ends h.ok n, G.vends h.ok h.v n, by rw [hH]; exact h.hist, h.nums, h.opsok, by rw [hH]; exact h.expl, fun t htt => h.has t (delU_sub.mem (ht ▸ htt)), h.opn, h.lenF, h.lenA⟩
theorem delU_no {ts : List TxT} (h : (ts.map (·.id)).Nodup) (n : UInt32) : ∀ t ∈ delU ts n, t.id ≠ n := by
  cases hf : findU ts n with
  | none => exact fun t ht e => findU_none hf (List.mem_map.2 ⟨t, delU_sub.mem ht, e⟩)
  | some t =>
    obtain ⟨hid, A, B, hts, hdel, _⟩ := findU_mid hf
    intro u hu
    rw [← hid]
    exact nodupU_mid (hts ▸ h) u (hdel ▸ hu)
theorem SerC.gone (h : SerC G i s F all kvs) (hi : i < 1000) {n : UInt32} (hn : ∀ t ∈ s.txs, t.id ≠ n) : SerC G (i + 1) s (delD F n) all (mset kvs n (.pointer none)) := by
  have h2 := h.mono hi
  refine ⟨h2.ok, G.vcongr h.v fun t ht => ?_, h.hist, h.nums, h.opsok, h.expl, fun t ht => ?_, h.opn.nil n, fun d hd => h2.lenF d (delD_mem hd), h2.lenA⟩
  · unfold ogD; rw [findD_del, if_neg (hn t ht)]
  · rw [findD_del, if_neg (hn t ht)]; exact h.has t ht
theorem findU_no {ts : List TxT} {n : UInt32} (h : findU ts n = none) : ∀ t ∈ ts, t.id ≠ n := fun t ht e => findU_none h (List.mem_map.2 ⟨t, ht, e⟩)
theorem SerC.gone' (h : SerC G i s F all kvs) (hi : i < 1000) (n : UInt32) : SerC G (i + 1) (I.ends s n) (delD F n) all (mset kvs n (.pointer none)) := by
  refine (h.ends n).gone hi fun t ht => ?_
  rw [(G.endsE h.ok n).2.2.2] at ht
  exact delU_no (G.ok h.ok).ids n t ht
theorem SerC.abo (h : SerC G i s F all kvs) (hi : i < 1000) (n : UInt32) : SerC G (i + 1) (aboS I s n) (delD F n) all (mset kvs n (.pointer none)) := by
  unfold aboS
  split
  · exact h.gone' hi n
  · rename_i hf
    exact h.gone hi (findU_no (by simpa using hf))
theorem SerC.comF (h : SerC G i s F all kvs) (hi : i < 1000) {n : UInt32} (hE : comE I s n ≠ 0) : SerC G (i + 1) (comS I s n) (delD F n) all (mset kvs n (.pointer none)) := by
  unfold comE at hE
  unfold comS
  cases hf : findU s.txs n with
  | none => exact h.gone hi (findU_no hf)
  | some t =>
    rw [hf] at hE
    simp only at hE ⊢
    split
    · exact h.gone' hi n
    · rename_i hc
      rw [if_neg hc] at hE
      split
      · rename_i hfit; rw [if_pos hfit] at hE; exact absurd rfl hE
      · exact h.gone' hi n
theorem comE_zero {n : UInt32} (hE : comE I s n = 0) : ∃ t, findU s.txs n = some t ∧ I.chk s t.x = false ∧ fitsS s t.x ∧ comS I s n = addS (I.ends s n) t.x.own ∧ comN I s n = UInt32.ofNat s.H.length + 1 := by
  have hN : comN I s n = UInt32.ofNat s.H.length + 1 := by rw [comN, if_pos hE]
  unfold comE at hE
  cases hf : findU s.txs n with
  | none => rw [hf] at hE; simp at hE
  | some t =>
    rw [hf] at hE
    simp only at hE
    cases hc : I.chk s t.x with
    | true => rw [hc] at hE; simp at hE
    | false =>
      rw [hc] at hE
      by_cases hfit : fitsS s t.x
      · exact ⟨t, rfl, hc, hfit, by simp [comS, hf, hc, hfit], hN⟩
      · simp [hfit] at hE
theorem SerC.com (h : SerC G i s F all kvs) (hi : i < 1000) {n : UInt32} (hE : comE I s n = 0) : ∃ d, findD F n = some d ∧ (∀ a ∈ all, a.num < comN I s n) ∧
    SerC G (i + 1) (comS I s n) (delD F n) (all ++ [{ d with num := comN I s n }]) (mset kvs n (.pointer none)) := by
  obtain ⟨t, hf, hc, hfit, hS, hN⟩ := comE_zero hE
  obtain ⟨hid, _⟩ := findU_mid hf
  have hst := G.ok h.ok
  have hHl : s.H.length = all.length := by rw [h.hist, List.length_map]
  have hal := h.len
  have hnum : (comN I s n).toNat = all.length + 1 := by
    rw [hN, UInt32.toNat_add, UInt32.toNat_ofNat', hHl]; simp; omega
  obtain ⟨d, hd⟩ := Option.isSome_iff_exists.1 (h.has t (findU_mem hf))
  rw [hid] at hd
  have hog : ogD F n = (d.ops, d.l.map (·.2)) := ogD_some hd
  obtain ⟨hown, hopk⟩ := G.vown h.v t (findU_mem hf)
  rw [hid, hog] at hown hopk
  obtain ⟨hv1, hv2⟩ := G.vcom h.ok h.v hf hc hfit
  rw [hog] at hv1
  obtain ⟨eD, eA, eH, eT⟩ := G.endsE h.ok n
  have hH : (comS I s n).H = s.H ++ [t.x.own] := by rw [hS]; show (I.ends s n).H ++ _ = _; rw [eH]
  have hT : (comS I s n).txs = delU s.txs n := by rw [hS]; exact eT
  have hno : ∀ u ∈ (comS I s n).txs, u.id ≠ n := fun u hu => delU_no hst.ids n u (hT ▸ hu)
  refine ⟨d, hd, fun a ha => ?_, G.com h.ok (by omega) n, ?_, ?_, ?_, ?_, ?_, fun u hu => ?_, h.opn.nil n, fun a ha => ?_, fun a ha => ?_⟩
  · obtain ⟨k, hk⟩ := List.mem_iff_getElem?.1 ha
    have := h.nums k a hk
    have := idx_lt hk
    rw [UInt32.lt_iff_toNat_lt]; omega
  · rw [hS]
    refine G.vcongr hv2 fun u hu => ?_
    have := hno u (by rw [hS]; exact hu)
    unfold ogD; rw [findD_del, if_neg this]
  · rw [hH, List.map_append, h.hist, hown]; rfl
  · intro k a hk
    rcases Nat.lt_or_ge k all.length with hlt | hge
    · rw [List.getElem?_append_left hlt] at hk; exact h.nums k a hk
    · rw [List.getElem?_append_right hge] at hk
      have : k = all.length := by
        have := idx_lt hk; simp at this; omega
      subst this
      simp at hk; subst hk; exact hnum
  · intro a ha
    rcases List.mem_append.1 ha with ha | ha
    · exact h.opsok a ha
    · simp at ha; subst ha; exact hopk
  · intro k a hk
    rcases Nat.lt_or_ge k all.length with hlt | hge
    · rw [List.getElem?_append_left hlt] at hk
      rw [hH, rowsN_old (by omega)]; exact h.expl k a hk
    · rw [List.getElem?_append_right hge] at hk
      have : k = all.length := by
        have := idx_lt hk; simp at this; omega
      subst this
      simp at hk; subst hk
      rw [hH, rowsN_old (by omega), ← hHl]; exact hv1
  · rw [findD_del, if_neg (hno u hu)]; exact h.has u (delU_sub.mem (hT ▸ hu))
  · have := h.lenF a (delD_mem ha); omega
  · rcases List.mem_append.1 ha with ha | ha
    · have := h.lenA a ha; omega
    · simp at ha; subst ha; have := h.lenF d (findD_id hd).1; simp; omega
theorem SerC.err (h : SerC G i s F all kvs) (hi : i < 1000) {n : UInt32} {x : OpM} {s' : StV} {e : Nat} (he : I.doS s n x = .err s' e) : e ≠ 0 ∧ SerC G (i + 1) s' F all kvs := by
  obtain ⟨h0, _, _, hH, ht, hok, hv⟩ := G.err h.ok he
  have hm := h.mono hi
  refine ⟨h0, G.mono hok (Nat.le_succ _) (by omega), hv _ h.v, by rw [hH]; exact h.hist, h.nums, h.opsok, by rw [hH]; exact h.expl, fun t htt => ?_, h.opn, hm.lenF, hm.lenA⟩
  obtain ⟨u, hu, e⟩ := ht t htt
  rw [e]; exact h.has u hu
theorem SerC.upd (h : SerC G i s F all kvs) (hi : i < 1000) {n : UInt32} {x : OpM} {s' : StV} {d : DidV} {r : SV × List RowM} (hd : findD F n = some d) (hok : G.Ok s' (i + 1)) (hH : s'.H = s.H) (ht : ∀ t ∈ s'.txs, ∃ u ∈ s.txs, t.id = u.id)
    (hs : G.V s' (setO (ogD F) n ((ogD F n).1 ++ [x], (ogD F n).2 ++ [r.2]))) (os ls : SV) : SerC G (i + 1) s' ({ d with os := os, ops := d.ops ++ [x], ls := ls, l := d.l ++ [r] } :: delD F n) all kvs := by
  have hm := h.mono hi
  obtain ⟨hdm, hid⟩ := findD_id hd
  refine ⟨hok, ?_, by rw [hH]; exact h.hist, h.nums, h.opsok, by rw [hH]; exact h.expl, fun t htt => ?_, h.opn.upd hd hid rfl, fun a ha => ?_, hm.lenA⟩
  · rw [ogD_set F (n := n) (by exact hid)]
    rw [ogD_some hd] at hs
    simpa using hs
  · rw [findD_cons, findD_del]
    by_cases e : d.id = t.id
    · rw [if_pos e]; rfl
    · rw [if_neg e, if_neg (fun e2 => e (hid.trans e2.symm))]
      obtain ⟨u, hu, e3⟩ := ht t htt
      rw [e3]; exact h.has u hu
  · rcases List.mem_cons.1 ha with rfl | ha
    · have := h.lenF d hdm; simp; omega
    · exact hm.lenF a (delD_mem ha)
theorem SerC.put (h : SerC G i s F all kvs) (hi : i < 1000) {n : UInt32} {x : OpM} {s' : StV} (hd : I.doS s n x = .put s') : ∃ d, findD F n = some d ∧ ∀ os ls, SerC G (i + 1) s' ({ d with os := os, ops := d.ops ++ [x], ls := ls, l := d.l ++ [((⟨none, 0, 0⟩ : SV), ([] : List RowM))] } :: delD F n) all kvs := by
  obtain ⟨t, htm, hid, hx, hw, _, _, hH, ht, hok, hv⟩ := G.put h.ok (by omega) hd
  obtain ⟨d, he⟩ := Option.isSome_iff_exists.1 (h.has t htm)
  rw [hid] at he
  exact ⟨d, he, h.upd hi (x := x) (r := (⟨none, 0, 0⟩, [])) he hok hH ht (hv _ h.v)⟩
theorem SerC.look (h : SerC G i s F all kvs) (hi : i < 1000) {n : UInt32} {x : OpM} {s' : StV} {rows : List RowM} (hd : I.doS s n x = .look s' rows) (sv : SV) : ∃ d, findD F n = some d ∧ ∀ os ls, SerC G (i + 1) s' ({ d with os := os, ops := d.ops ++ [x], ls := ls, l := d.l ++ [(sv, rows)] } :: delD F n) all kvs := by
  obtain ⟨t, htm, hid, hx, hw, _, _, hH, ht, hok, _, hv⟩ := G.look h.ok (by omega) hd
  obtain ⟨d, he⟩ := Option.isSome_iff_exists.1 (h.has t htm)
  rw [hid] at he
  exact ⟨d, he, h.upd hi (x := x) (r := (sv, rows)) he hok hH ht (hv _ h.v)⟩
/-! at the end -/
def rowsC (all : List DidV) (k : Nat) : List RowM := rowsN (all.map fun a => chs a.ops) k
theorem keys_rowsN {H : List (List ChgM)} (h : ∀ cs ∈ H, ∀ c ∈ cs, chgOk c = true) (k : Nat) : KeysOk (rowsN H k) :=
  changeR_keys List.Pairwise.nil (by simp [KeysOk]) fun c hc => by
    obtain ⟨cs, h1, h2⟩ := List.mem_flatten.1 hc
    exact h cs (List.mem_of_mem_take h1) c h2
theorem SerC.run (h : SerC G i s F all kvs) {k : Nat} {a : DidV} (ha : all[k]? = some a) :
    (runM (rowsC all k) a.ops).1 = a.l.map (·.2) ∧ (runM (rowsC all k) a.ops).2 = rowsC all (k + 1) ∧ (∀ x ∈ a.ops, opOk x = true) ∧ Rising (rowsC all k) ∧ KeysOk (rowsC all k) ∧ (rowsC all (k + 1)).length ≤ (rowsC all k).length + i ∧ a.ops.length ≤ i ∧ a.l.length ≤ i := by
  have hop := h.opsok a (List.mem_of_getElem? ha)
  have h5 := h.lenA a (List.mem_of_getElem? ha)
  have hr : Rising (rowsC all k) := rowsN_rising _ _
  have h1 := h.expl k a ha
  have h2 : (runM (rowsC all k) a.ops).2 = rowsC all (k + 1) := by
    rw [run_left hr a.ops hop]
    unfold rowsC rowsN
    rw [take_snoc (show (all.map fun a => chs a.ops)[k]? = some (chs a.ops) by rw [List.getElem?_map, ha]; rfl), List.flatten_append, changeR_app]
    simp
  have h6 := (runM_rows hr a.ops).2.1
  refine ⟨by unfold rowsC; rw [← h.hist]; exact h1, h2, hop, hr, ?_, ?_, h5⟩
  · unfold rowsC
    rw [← h.hist]
    exact keys_rowsN (fun cs hcs => ((G.ok h.ok).recs cs hcs).2) k
  · rw [← h2]; omega
theorem SerC.done (h : SerC G i s F all kvs) : s.rows = rowsC all all.length := by
  unfold StV.rows rowsC; rw [h.hist, List.length_map]
end
end Go.SL
/- A store of transactions, in plain Lean: a transaction alone; what is left on a disk. -/
set_option linter.unusedSimpArgs false
set_option linter.unusedVariables false
set_option linter.unusedSectionVars false
namespace Go.SL
open Go
/-- A kind of store, of which one transaction alone is open. -/
structure Solo {I : Kind} (G : Good I) where
  S : StV → UInt32 → List RowM → List ChgM → Prop
  txs : ∀ {s n rows own}, S s n rows own → ∃ t, s.txs = [t] ∧ t.id = n ∧ t.x.own = own ∧ s.rows = rows
  chk : ∀ {s n rows own b}, S s n rows own → G.Ok s b → ∀ t ∈ s.txs, I.chk s t.x = false
  bad : ∀ {s n x}, opOk x = false → I.doS s n x = .err s 1
  put : ∀ {s n rows own b x}, S s n rows own → G.Ok s b → opOk x = true → writes x = true → ∃ s', I.doS s n x = .put s' ∧ S s' n rows (own ++ [chgOf x])
  look : ∀ {s n rows own b x}, S s n rows own → G.Ok s b → opOk x = true → writes x = false → ∃ s', I.doS s n x = .look s' (scanR (changeR rows own) (spanOf x) 256) ∧ S s' n rows own
  beg : ∀ {s b n}, G.Ok s b → s.txs = [] → n ≠ 0 → ∀ q, S (begS s n q) n s.rows []
structure AloneC {I : Kind} {G : Good I} (Z : Solo G) (n : UInt32) (rows : List RowM) (at0 : Nat) (s : StV) (b : Nat) (done : List OpM) (told : List (List RowM)) : Prop where
  ok : G.Ok s b
  does : ∃ own, Z.S s n rows own ∧ Does rows own done told
  at_ : s.at_ ≤ at0
section
variable {I : Kind} {G : Good I} {Z : Solo G} {n : UInt32} {rows : List RowM} {at0 : Nat} {s : StV} {b : Nat} {done : List OpM} {told : List (List RowM)}
theorem AloneC.mono (h : AloneC Z n rows at0 s b done told) {c : Nat} (hb : b ≤ c) (hc : c ≤ 1000000000) : AloneC Z n rows at0 s c done told := ⟨G.mono h.ok hb hc, h.does, h.at_⟩
theorem AloneC.step (h : AloneC Z n rows at0 s b done told) (hb : b + 1 ≤ 1000000000) (x : OpM) :
    (opOk x = false ∧ I.doS s n x = .err s 1) ∨ (opOk x = true ∧ ∃ s', I.doS s n x = .put s' ∧ AloneC Z n rows at0 s' (b + 1) (done ++ [x]) (told ++ [[]])) ∨
    (opOk x = true ∧ ∃ s' r, I.doS s n x = .look s' r ∧ r.length ≤ 256 ∧ AloneC Z n rows at0 s' (b + 1) (done ++ [x]) (told ++ [r])) := by
  obtain ⟨own, hS, hD⟩ := h.does
  cases hx : opOk x with
  | false => exact .inl ⟨rfl, Z.bad hx⟩
  | true =>
    right
    cases hw : writes x with
    | true =>
      left
      obtain ⟨s', h1, h2⟩ := Z.put hS h.ok hx hw
      obtain ⟨_, _, _, _, _, _, hat, _, _, hok, _⟩ := G.put h.ok hb h1
      exact ⟨rfl, s', h1, hok, ⟨_, h2, hD.write hx hw⟩, by rw [hat]; exact h.at_⟩
    | false =>
      right
      obtain ⟨s', h1, h2⟩ := Z.look hS h.ok hx hw
      obtain ⟨_, _, _, _, _, _, hat, _, _, hok, hl, _⟩ := G.look h.ok hb h1
      refine ⟨rfl, s', _, h1, hl, hok, ⟨_, h2, hD.read ?_ hx hw⟩, by rw [hat]; exact h.at_⟩
      obtain ⟨_, _, _, _, hr⟩ := Z.txs hS
      rw [← hr]; exact s.rising
theorem AloneC.com (h : AloneC Z n rows at0 s b done told) (hb : b ≤ 90) (ha : at0 ≤ 1000) :
    comE I s n = 0 ∧ (comS I s n).rows = (runM rows done).2 ∧ (comS I s n).txs = [] ∧ (comS I s n).at_ ≤ at0 + 82 ∧ G.Ok (comS I s n) (b + 1) ∧ comN I s n = UInt32.ofNat s.H.length + 1 ∧ ∃ own, (comS I s n).H = s.H ++ [own] := by
  obtain ⟨own, hS, hD⟩ := h.does
  obtain ⟨t, ht, hid, ho, hr⟩ := Z.txs hS
  have hck := Z.chk hS h.ok t (by rw [ht]; simp)
  have hok := G.ok h.ok
  have hf : findU s.txs n = some t := by rw [ht]; simp [findU, hid]
  have hl : t.x.own.length ≤ 90 := by have := hok.own_le (t := t) (by rw [ht]; simp); omega
  have hc := (chgs_len t.x.own).2 (hok.own t (by rw [ht]; simp))
  have hlen := chgsB_len t.x.own
  have hat := h.at_
  have hfit : fitsS s t.x := ⟨by omega, by rw [hok.log.len]; unfold secs; omega⟩
  have hE : comE I s n = 0 := by simp [comE, hf, hck, hfit]
  have hS2 : comS I s n = addS (I.ends s n) t.x.own := by simp [comS, hf, hck, hfit]
  obtain ⟨e1, e2, e3, e4⟩ := G.endsE h.ok n
  refine ⟨hE, ?_, ?_, ?_, G.com h.ok (by omega) n, by rw [comN, if_pos hE], t.x.own, ?_⟩
  · rw [hS2, addS_rows]
    unfold StV.rows at hr ⊢
    rw [e3, hr, ho, hD.left]
  · rw [hS2]; show (I.ends s n).txs = []; rw [e4, ht]; simp [delU, hid]
  · rw [hS2]; show (I.ends s n).at_ + _ ≤ _; rw [e2]; unfold secs; omega
  · rw [hS2]; show (I.ends s n).H ++ _ = _; rw [e3]
theorem AloneC.abo (h : AloneC Z n rows at0 s b done told) : aboE s n = 0 ∧ (aboS I s n).rows = rows := by
  obtain ⟨own, hS, hD⟩ := h.does
  obtain ⟨t, ht, hid, ho, hr⟩ := Z.txs hS
  have hf : findU s.txs n = some t := by rw [ht]; simp [findU, hid]
  refine ⟨by simp [aboE, hf], ?_⟩
  rw [← hr]
  unfold aboS StV.rows
  rw [hf]
  simp only [Option.isSome_some, if_true]
  rw [(G.endsE h.ok n).2.2.1]
theorem AloneC.start (hs : G.Ok s b) (ht : s.txs = []) (hn : n ≠ 0) (hat : s.at_ ≤ at0) (q : Nat) : begE s n = 0 ∧ AloneC Z n s.rows at0 (begS s n q) b [] [] := by
  have hE : begE s n = 0 := by simp [begE, hn, ht, findU]
  refine ⟨hE, G.beg hs n q, ⟨[], Z.beg hs ht hn q, Does.nil _⟩, ?_⟩
  rw [begS, if_pos hE]; exact hat
end
/-! what is left on a disk -/
theorem SureC_do {I : Kind} (G : Good I) {s : StV} {b : Nat} (h : G.Ok s b) (hb : b + 1 ≤ 1000000000) (n : UInt32) (x : OpM) : match I.doS s n x with
    | .err s' _ => G.Ok s' (b + 1)
    | .put s' => G.Ok s' (b + 1)
    | .look s' r => G.Ok s' (b + 1) ∧ r.length ≤ 256 := by
  cases e : I.doS s n x with
  | err s' _ => obtain ⟨_, _, _, _, _, hok, _⟩ := G.err h e; exact G.mono hok (Nat.le_succ _) hb
  | put s' => obtain ⟨_, _, _, _, _, _, _, _, _, hok, _⟩ := G.put h hb e; exact hok
  | look s' r => obtain ⟨_, _, _, _, _, _, _, _, _, hok, hl, _⟩ := G.look h hb e; exact ⟨hok, hl⟩
theorem abo_ok {I : Kind} (G : Good I) {s : StV} {b : Nat} (h : G.Ok s b) (n : UInt32) : G.Ok (aboS I s n) b := by
  unfold aboS; split
  · exact G.ends h n
  · exact h
/-- A store that has been opened: on a disk that holds the records of 'H'. -/
def st0 (d : DiskM) (at0 : Nat) (H : List (List ChgM)) : StV := ⟨d, at0, H, 0, [], []⟩
theorem st0_ok {s : StV} {b : Nat} (h : StOk s b) : StOk (st0 s.d s.at_ s.H) b :=
  ⟨h.log, h.recs, by have := h.sum; simp [st0] at this ⊢; omega, h.hl, by simp [st0], by simp [st0], by simp [st0], by simp [st0], h.bb⟩
theorem st0_first : StOk (st0 (newDisk 4096).sync 0 []) 0 := ⟨DiskLogB.first, by simp [st0], by simp [st0], by simp [st0], by simp [st0], by simp [st0], by simp [st0], by simp [st0], by decide⟩
/-- A store on a new disk. -/
def stF : StV := st0 (newDisk 4096).sync 0 []
theorem SerC.first {I : Kind} {G : Good I} (h : G.Ok stF 0) (hv : G.V stF (ogD [])) : SerC G 0 stF [] [] [] :=
  ⟨h, hv, rfl, by simp, by simp, by simp, by simp [stF, st0], fun n => rfl, by simp, by simp⟩
end Go.SL
