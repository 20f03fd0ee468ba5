/- N0 N1 SLy W9: rules and walks, several texts in one. -/
import Derived.Test.YtdpmpcoekkhceaaGreatQF9
import Derived.Test.YtdpmpcoekkhceaaGreatProg
import Derived.KernelRfl
/- What the functions compute, in plain Lean: rows as they were. -/
set_option linter.unusedSimpArgs false
set_option linter.unusedVariables false
set_option linter.unusedSectionVars false
namespace Go.SL
open Go
structure WasM where
  at_ : UInt32
  val : UInt32
  gone : Bool
def WasM.c (w : WasM) : List Value := [.int .u32 w.at_.toNat, .int .u32 w.val.toNat, .bool w.gone]
abbrev PS := List (ByteArray × List WasM)
/-- What a row was, behind a commit: the last one that is not behind it. -/
def findP (ws : List WasM) (n : UInt32) : UInt32 × Bool := match ws.reverse.find? fun w => decide (w.at_ ≤ n) with
  | some w => (w.val, !w.gone)
  | none => (0, false)
def valW (ws : List WasM) (n : UInt32) : Option UInt32 := if (findP ws n).2 then some (findP ws n).1 else none
def lastW (ws : List WasM) : UInt32 := (ws.getLast?.map (·.at_)).getD 0
/-- One change, at the commit 'n'. -/
def addW1 (ws : List WasM) (n : UInt32) (c : ChgM) : List WasM := (if ws ≠ [] ∧ lastW ws = n then ws.dropLast else ws) ++ [⟨n, c.val, c.gone⟩]
def putS (l : PS) (n : UInt32) (c : ChgM) : PS := setS l c.key (addW1 ((getS l c.key).getD []) n c)
/-- The rows behind a commit. -/
def stepP (n : UInt32) (r : List RowM) (p : ByteArray × List WasM) : List RowM := match valW p.2 n with
  | some v => setR r p.1 v
  | none => r
def rowsP (l : PS) (n : UInt32) : List RowM := l.foldl (stepP n) []
/-- Where what is kept begins. -/
def trimI (ws : List WasM) (n : UInt32) : Nat → Nat
  | 0 => 0
  | i + 1 => match ws[i + 1]? with
    | some w => if n < w.at_ then trimI ws n i else i + 1
    | none => 0
def trimW (ws : List WasM) (n : UInt32) : List WasM := ws.drop (trimI ws n (ws.length - 1))
instance memB (k : ByteArray) (l : List ByteArray) : Decidable (k ∈ l) := @List.instDecidableMemOfLawfulBEq _ instBEqOfDecidableEq _ k l
/-- Some entries are cut. -/
structure TrimI (es : List (EntV ByteArray WasM)) (n : UInt32) (left st : List (EntV ByteArray WasM)) : Prop where
  nl : (left.map (·.key)).Nodup
  sub : ∀ y ∈ left, y ∈ st
  old : ∀ y ∈ left, y ∈ es
  keys : st.map (·.key) = es.map (·.key)
  nodup : (st.map (·.key)).Nodup
  val : st.map stE = es.map fun e => (e.key, if e.key ∈ left.map (·.key) then e.ws else trimW e.ws n)
theorem TrimI.first {es : List (EntV ByteArray WasM)} (h : (es.map (·.key)).Nodup) (n : UInt32) : TrimI es n es es := by
  refine ⟨h, fun _ h => h, fun _ h => h, rfl, h, List.map_congr_left fun e he => ?_⟩
  rw [if_pos (List.mem_map.2 ⟨e, he, rfl⟩)]; rfl
theorem TrimI.done {es st : List (EntV ByteArray WasM)} {n : UInt32} (h : TrimI es n [] st) : st.map stE = (es.map stE).map fun p => (p.1, trimW p.2 n) := by
  rw [h.val, List.map_map]; rfl
theorem TrimI.step {es left st A B : List (EntV ByteArray WasM)} {n : UInt32} {y : EntV ByteArray WasM} (h : TrimI es n left st) (hl : left = A ++ y :: B) {j : Nat} (hj : trimW y.ws n = y.ws.drop j) : TrimI es n (A ++ B) (setE st y.key (subS y.sv j y.ws.length 3) (y.ws.drop j)) := by
  have hy : y ∈ st := h.sub y (by rw [hl]; simp)
  have hfe := findE_mem h.nodup hy
  obtain ⟨A2, B2, h1, _, h3⟩ := delE_keys hfe
  have hnl := h.nl
  rw [hl, List.map_append, List.map_cons] at hnl
  have hno : y.key ∉ (A ++ B).map (·.key) := by
    rw [List.map_append]
    intro hm
    obtain ⟨a1, a2, a3⟩ := List.nodup_append.1 hnl
    rcases List.mem_append.1 hm with hm | hm
    · exact a3 _ hm _ (by simp) rfl
    · exact (List.nodup_cons.1 a2).1 hm
  have hkk : (setE st y.key (subS y.sv j y.ws.length 3) (y.ws.drop j)).map (·.key) = st.map (·.key) := by rw [h3, h1]; simp
  have hsub : ∀ z ∈ A ++ B, z ∈ left ∧ z.key ≠ y.key := fun z hz => ⟨by rw [hl]; simp only [List.mem_append, List.mem_cons] at hz ⊢; rcases hz with h | h; exact .inl h; exact .inr (.inr h), fun e => hno (e ▸ List.mem_map.2 ⟨z, hz, rfl⟩)⟩
  refine ⟨?_, fun z hz => ?_, fun z hz => h.old z (hsub z hz).1, by rw [hkk]; exact h.keys, by rw [hkk]; exact h.nodup, ?_⟩
  · rw [List.map_append]
    obtain ⟨a1, a2, a3⟩ := List.nodup_append.1 hnl
    exact List.nodup_append.2 ⟨a1, (List.nodup_cons.1 a2).2, fun a ha b hb => a3 a ha b (by simp [hb])⟩
  · obtain ⟨k1, k2⟩ := hsub z hz
    have := h.sub z k1
    rw [h1] at this
    rw [h3]
    simp only [List.mem_append, List.mem_cons] at this ⊢
    rcases this with h | rfl | h
    · exact .inl h
    · exact absurd rfl k2
    · exact .inr (.inr h)
  · -- place by place
    have hv := h.val
    apply List.ext_getElem?
    intro i
    have hi := congrArg (·[i]?) hv
    simp only [List.getElem?_map] at hi ⊢
    have hyi : st[A2.length]? = some y := by rw [h1]; simp
    have hset : (setE st y.key (subS y.sv j y.ws.length 3) (y.ws.drop j))[i]? = if i = A2.length then some ⟨y.key, subS y.sv j y.ws.length 3, y.ws.drop j⟩ else st[i]? := by
      rw [h3, h1]
      by_cases e : i = A2.length
      · subst e; simp
      · rw [if_neg e]
        rcases Nat.lt_or_ge i A2.length with hlt | hge
        · rw [List.getElem?_append_left hlt, List.getElem?_append_left hlt]
        · rw [List.getElem?_append_right hge, List.getElem?_append_right hge]
          obtain ⟨q, hq⟩ : ∃ q, i - A2.length = q + 1 := ⟨i - A2.length - 1, by omega⟩
          rw [hq]; simp
    rw [hset]
    by_cases e : i = A2.length
    · subst e
      rw [if_pos rfl]
      rw [hyi] at hi
      cases hE : es[A2.length]? with
      | none => rw [hE] at hi; simp at hi
      | some e0 =>
        rw [hE] at hi
        simp only [Option.map_some, Option.some.injEq, stE, Prod.mk.injEq] at hi ⊢
        obtain ⟨hi1, hi2⟩ := hi
        rw [← hi1] at hi2 ⊢
        rw [if_pos (by rw [hl]; simp)] at hi2
        rw [if_neg hno, ← hi2, hj]
        exact ⟨rfl, rfl⟩
    · rw [if_neg e]
      rw [hi]
      cases hE : es[i]? with
      | none => rfl
      | some e0 =>
        simp only [Option.map_some, Option.some.injEq, Prod.mk.injEq, true_and]
        have hne : e0.key ≠ y.key := fun ek => by
          have hlt := idx_lt hE
          have k1 : (es.map (·.key))[i]? = some y.key := by rw [List.getElem?_map, hE]; simp [ek]
          have k2 : (es.map (·.key))[A2.length]? = some y.key := by rw [← h.keys, List.getElem?_map, hyi]; rfl
          have hnd : (es.map (·.key)).Nodup := h.keys ▸ h.nodup
          exact e ((List.getElem?_inj (i := i) (by simpa using hlt) hnd).1 (k1.trans k2.symm))
        have hiff : e0.key ∈ left.map (·.key) ↔ e0.key ∈ (A ++ B).map (·.key) := by
          rw [hl]
          simp only [List.map_append, List.map_cons, List.mem_append, List.mem_cons]
          constructor
          · rintro (h | h | h)
            · exact .inl h
            · exact absurd h hne
            · exact .inr h
          · rintro (h | h)
            · exact .inl h
            · exact .inr (.inr h)
        simp only [hiff]
end Go.SL
/- Rows as they were, in plain Lean: what is kept of a past is what its commits left. -/
set_option linter.unusedSimpArgs false
set_option linter.unusedVariables false
set_option linter.unusedSectionVars false
namespace Go.SL
open Go
def getR (l : List RowM) (k : ByteArray) : Option UInt32 := (l.find? fun r => decide (r.key = k)).map (·.val)
theorem mem_getR {l : List RowM} (h : Rising l) {r : RowM} : r ∈ l ↔ getR l r.key = some r.val := by
  unfold getR
  constructor
  · intro hr
    cases hf : l.find? fun x => decide (x.key = r.key) with
    | none => have := List.find?_eq_none.1 hf r hr; simp at this
    | some x =>
      have h1 := List.find?_some hf
      have h2 := List.mem_of_find?_eq_some hf
      rw [rising_one h h2 hr (by simpa using h1)]; rfl
  · intro hg
    rw [Option.map_eq_some_iff] at hg
    obtain ⟨x, hx, hv⟩ := hg
    have h1 := List.find?_some hx
    have h2 := List.mem_of_find?_eq_some hx
    have : x = r := by cases x; cases r; simp at h1 hv; simp [h1, hv]
    exact this ▸ h2
theorem getR_ext {a b : List RowM} (ha : Rising a) (hb : Rising b) (h : ∀ k, getR a k = getR b k) : a = b := rising_ext ha hb fun r => by rw [mem_getR ha, mem_getR hb, h]
theorem getR_mem {l : List RowM} {k : ByteArray} {v : UInt32} (h : getR l k = some v) : (⟨k, v⟩ : RowM) ∈ l := by
  unfold getR at h
  rw [Option.map_eq_some_iff] at h
  obtain ⟨x, hx, hv⟩ := h
  have h1 := List.find?_some hx
  have h2 := List.mem_of_find?_eq_some hx
  have : x = ⟨k, v⟩ := by cases x; simp at h1 hv; simp [h1, hv]
  exact this ▸ h2
theorem getR_iff {l : List RowM} (h : Rising l) (k : ByteArray) (o : Option UInt32) (hk : ∀ v, (⟨k, v⟩ : RowM) ∈ l ↔ o = some v) : getR l k = o := by
  cases e : getR l k with
  | some v => exact ((hk v).1 (getR_mem e)).symm
  | none =>
    cases o with
    | none => rfl
    | some v => have := (mem_getR h).1 ((hk v).2 rfl); rw [e] at this; cases this
theorem getR_apply {l : List RowM} (h : Rising l) (c : ChgM) (k : ByteArray) : getR (applyC l c) k = if k = c.key then (if c.gone then none else some c.val) else getR l k := by
  refine getR_iff (applyC_rising h c).1 k _ fun v => ?_
  rw [mem_applyC h]
  by_cases e : k = c.key
  · rw [if_pos e]
    cases hg : c.gone with
    | true => simp [e]
    | false =>
      simp only [Bool.false_eq_true, if_false, Option.some.injEq]
      constructor
      · rintro (⟨_, h2⟩ | ⟨_, h2⟩)
        · cases h2; rfl
        · exact absurd e h2
      · rintro rfl; exact .inl ⟨trivial, by rw [e]⟩
  · rw [if_neg e]
    constructor
    · rintro (⟨_, h2⟩ | ⟨h1, _⟩)
      · cases h2; exact absurd rfl e
      · exact (mem_getR h).1 h1
    · intro hv; exact .inr ⟨getR_mem hv, e⟩
def rowsN (H : List (List ChgM)) (n : Nat) : List RowM := changeR [] (H.take n).flatten
theorem rowsN_rising (H : List (List ChgM)) (n : Nat) : Rising (rowsN H n) := (changeR_rising _ List.Pairwise.nil).1
theorem changeR_app (V : List RowM) (a b : List ChgM) : changeR V (a ++ b) = changeR (changeR V a) b := by simp [changeR]
theorem rowsN_old {H : List (List ChgM)} {n : Nat} (h : n ≤ H.length) (cs : List ChgM) : rowsN (H ++ [cs]) n = rowsN H n := by
  unfold rowsN; rw [List.take_append_of_le_length h]
theorem rowsN_new (H : List (List ChgM)) (cs : List ChgM) : rowsN (H ++ [cs]) (H.length + 1) = changeR (rowsN H H.length) cs := by
  unfold rowsN
  rw [List.take_of_length_le (by simp), List.take_of_length_le (Nat.le_refl _), List.flatten_append, changeR_app]; simp
theorem rowsN_len (H : List (List ChgM)) (n : Nat) : (rowsN H n).length ≤ H.flatten.length := by
  have h1 := (changeR_rising (H.take n).flatten (l := []) List.Pairwise.nil).2
  have h2 : (H.take n).flatten.length ≤ H.flatten.length := by
    conv => rhs; rw [← List.take_append_drop n H, List.flatten_append, List.length_append]
    omega
  unfold rowsN
  rw [List.length_nil] at h1; omega
def valP (l : PS) (k : ByteArray) (n : UInt32) : Option UInt32 := match getS l k with
  | some ws => valW ws n
  | none => none
def lastOk (H : List (List ChgM)) (k : ByteArray) (a : UInt32) : Prop :=
  (∃ cs, 1 ≤ a.toNat ∧ H[a.toNat - 1]? = some cs ∧ ∃ c ∈ cs, c.key = k) ∧ ∀ j cs, a.toNat ≤ j → H[j]? = some cs → ∀ c ∈ cs, c.key ≠ k
structure PastOk (l : PS) (now trim : UInt32) (H : List (List ChgM)) : Prop where
  nowH : now.toNat = H.length
  trimH : trim ≤ now
  nodup : (l.map (·.1)).Nodup
  ne : ∀ p ∈ l, p.2 ≠ []
  keys : ∀ p ∈ l, keyOk p.1 = true
  le : ∀ p ∈ l, ∀ w ∈ p.2, w.at_ ≤ now
  val : ∀ k n, trim ≤ n → n ≤ now → valP l k n = getR (rowsN H n.toNat) k
  last : ∀ p ∈ l, lastOk H p.1 (lastW p.2)
  sure : ∀ cs ∈ H, ∀ c ∈ cs, (getS l c.key).isSome = true
  size : l.length ≤ H.flatten.length
  lens : ∀ p ∈ l, p.2.length ≤ H.length
/-! one more commit -/
theorem last_app (ws : List WasM) (w : WasM) : lastW (ws ++ [w]) = w.at_ := by simp [lastW]
theorem addW1_last (ws : List WasM) (n : UInt32) (c : ChgM) : lastW (addW1 ws n c) = n := by unfold addW1; rw [last_app]
theorem addW1_ne (ws : List WasM) (n : UInt32) (c : ChgM) : addW1 ws n c ≠ [] := by unfold addW1; simp
theorem findP_app (ws : List WasM) (w : WasM) (n : UInt32) : findP (ws ++ [w]) n = if w.at_ ≤ n then (w.val, !w.gone) else findP ws n := by
  unfold findP
  rw [List.reverse_append, List.reverse_singleton, List.singleton_append, List.find?_cons]
  by_cases h : w.at_ ≤ n <;> simp [h]
theorem last_split {ws : List WasM} (h : ws ≠ []) : ∃ w, ws = ws.dropLast ++ [w] ∧ lastW ws = w.at_ := by
  refine ⟨ws.getLast h, (List.dropLast_concat_getLast h).symm, ?_⟩
  unfold lastW
  rw [List.getLast?_eq_some_getLast h]; rfl
theorem addW1_old (ws : List WasM) {n m : UInt32} (h : m < n) (c : ChgM) : valW (addW1 ws n c) m = valW ws m := by
  have hn : ¬ n ≤ m := fun e => UInt32.lt_irrefl _ (UInt32.lt_of_lt_of_le h e)
  have e : findP (addW1 ws n c) m = findP ws m := by
    unfold addW1
    rw [findP_app]
    simp only [hn, if_false]
    split
    · rename_i hc
      obtain ⟨w, h1, h2⟩ := last_split hc.1
      conv => rhs; rw [h1]
      rw [findP_app, ← h2, hc.2, if_neg hn]
    · rfl
  unfold valW; rw [e]
theorem addW1_new (ws : List WasM) (n : UInt32) (c : ChgM) : valW (addW1 ws n c) n = if c.gone then none else some c.val := by
  have e : findP (addW1 ws n c) n = (c.val, !c.gone) := by
    unfold addW1
    rw [findP_app]; simp
  unfold valW; rw [e]
  cases c.gone <;> simp
theorem addW1_mem {ws : List WasM} {n : UInt32} {c : ChgM} {w : WasM} (h : w ∈ addW1 ws n c) : w ∈ ws ∨ w.at_ = n := by
  unfold addW1 at h
  rcases List.mem_append.1 h with h | h
  · split at h
    · exact .inl (List.dropLast_subset _ h)
    · exact .inl h
  · simp at h; subst h; exact .inr rfl
theorem findP_last {ws : List WasM} {n m : UInt32} (hn : ∀ w ∈ ws, w.at_ ≤ n) (hm : ∀ w ∈ ws, w.at_ ≤ m) : findP ws n = findP ws m := by
  unfold findP
  cases h : ws.reverse with
  | nil => rfl
  | cons w l =>
    have hw : w ∈ ws := by rw [← List.mem_reverse, h]; simp
    simp [List.find?_cons, hn w hw, hm w hw]
/-- Some changes of a commit are in. -/
structure MidOk (l : PS) (now trim : UInt32) (H : List (List ChgM)) (pre : List ChgM) : Prop where
  nodup : (l.map (·.1)).Nodup
  ne : ∀ p ∈ l, p.2 ≠ []
  keys : ∀ p ∈ l, keyOk p.1 = true
  le : ∀ p ∈ l, ∀ w ∈ p.2, w.at_ ≤ now + 1
  val : ∀ k n, trim ≤ n → n ≤ now → valP l k n = getR (rowsN H n.toNat) k
  new : ∀ k, valP l k (now + 1) = getR (changeR (rowsN H H.length) pre) k
  last : ∀ p ∈ l, (lastW p.2 = now + 1 ∧ ∃ c ∈ pre, c.key = p.1) ∨ (lastOk H p.1 (lastW p.2) ∧ ∀ c ∈ pre, c.key ≠ p.1)
  sure : ∀ cs ∈ H, ∀ c ∈ cs, (getS l c.key).isSome = true
  pres : ∀ c ∈ pre, (getS l c.key).isSome = true
  size : l.length ≤ H.flatten.length + pre.length
  lens : ∀ p ∈ l, p.2.length ≤ H.length ∨ (lastW p.2 = now + 1 ∧ p.2.length ≤ H.length + 1)
theorem setS_len (l : PS) (k : ByteArray) (ws : List WasM) : (setS l k ws).length ≤ l.length + 1 := by
  unfold setS; split <;> simp
theorem PastOk.start {l : PS} {now trim : UInt32} {H : List (List ChgM)} (h : PastOk l now trim H) (hb : H.length < 4294967295) : MidOk l now trim H [] := by
  have hlt : now ≤ now + 1 := by rw [UInt32.le_iff_toNat_le, UInt32.toNat_add, h.nowH]; simp; omega
  refine ⟨h.nodup, h.ne, h.keys, fun p hp w hw => UInt32.le_trans (h.le p hp w hw) hlt, h.val, fun k => ?_, fun p hp => .inr ⟨h.last p hp, by simp⟩, h.sure, by simp, h.size, fun p hp => .inl (h.lens p hp)⟩
  have h1 := h.val k now h.trimH (UInt32.le_refl _)
  rw [h.nowH] at h1
  show valP l k (now + 1) = getR (rowsN H H.length) k
  rw [← h1]
  unfold valP
  cases hg : getS l k with
  | none => rfl
  | some ws =>
    have hm := getS_some hg
    have : findP ws (now + 1) = findP ws now := findP_last (fun w hw => UInt32.le_trans (h.le _ hm w hw) hlt) (fun w hw => h.le _ hm w hw)
    simp only [valW, this]
theorem MidOk.step {l : PS} {now trim : UInt32} {H : List (List ChgM)} {pre : List ChgM} (h : MidOk l now trim H pre) (hnow : now.toNat = H.length) (hb : H.length < 4294967295) (c : ChgM) (hc : keyOk c.key = true) : MidOk (putS l (now + 1) c) now trim H (pre ++ [c]) := by
  have hlt : now < now + 1 := by rw [UInt32.lt_iff_toNat_lt, UInt32.toNat_add, hnow]; simp; omega
  have hmem : ∀ p ∈ putS l (now + 1) c, (p.1 = c.key ∧ p.2 = addW1 ((getS l c.key).getD []) (now + 1) c) ∨ (p.1 ≠ c.key ∧ p ∈ l) := fun p hp => by
    have h1 := getS_mem (setS_nodup h.nodup c.key (addW1 ((getS l c.key).getD []) (now + 1) c)) hp
    rw [setS_get] at h1
    by_cases e : p.1 = c.key
    · rw [if_pos e] at h1; exact .inl ⟨e, (Option.some.inj h1).symm⟩
    · rw [if_neg e] at h1; exact .inr ⟨e, getS_some h1⟩
  have hv : ∀ k n, valP (putS l (now + 1) c) k n = if k = c.key then valW (addW1 ((getS l c.key).getD []) (now + 1) c) n else valP l k n := fun k n => by
    unfold valP putS
    rw [setS_get]
    by_cases e : k = c.key <;> simp [e]
  refine ⟨setS_nodup h.nodup _ _, fun p hp => ?_, fun p hp => ?_, fun p hp w hw => ?_, fun k n h1 h2 => ?_, fun k => ?_, fun p hp => ?_, fun cs hcs c' hc' => ?_, fun c' hc' => ?_, ?_, fun p hp => ?_⟩
  · rcases hmem p hp with ⟨_, h2⟩ | ⟨_, h2⟩
    · rw [h2]; exact addW1_ne _ _ _
    · exact h.ne p h2
  · rcases hmem p hp with ⟨h1, _⟩ | ⟨_, h2⟩
    · rw [h1]; exact hc
    · exact h.keys p h2
  · rcases hmem p hp with ⟨_, h2⟩ | ⟨_, h2⟩
    · rw [h2] at hw
      rcases addW1_mem hw with hw | hw
      · cases hg : getS l c.key with
        | none => rw [hg] at hw; simp at hw
        | some ws => rw [hg] at hw; exact h.le _ (getS_some hg) w hw
      · rw [hw]; exact UInt32.le_refl _
    · exact h.le p h2 w hw
  · rw [hv]
    by_cases e : k = c.key
    · rw [if_pos e, addW1_old _ (UInt32.lt_of_le_of_lt h2 hlt), ← h.val k n h1 h2, e]
      unfold valP
      cases getS l c.key <;> rfl
    · rw [if_neg e]; exact h.val k n h1 h2
  · rw [hv, changeR_snoc, getR_apply (changeR_rising pre (rowsN_rising H _)).1, addW1_new, h.new]
  · rcases hmem p hp with ⟨h1, h2⟩ | ⟨h1, h2⟩
    · left
      rw [h2]
      exact ⟨addW1_last _ _ _, c, by simp, h1.symm⟩
    · rcases h.last p h2 with ⟨a, c', b1, b2⟩ | ⟨a, b⟩
      · exact .inl ⟨a, c', by simp [b1], b2⟩
      · refine .inr ⟨a, fun c' hc' => ?_⟩
        rcases List.mem_append.1 hc' with hc' | hc'
        · exact b c' hc'
        · simp at hc'; subst hc'; exact fun e => h1 e.symm
  · unfold putS; rw [setS_get]; split
    · rfl
    · exact h.sure cs hcs c' hc'
  · unfold putS; rw [setS_get]; split
    · rfl
    · rcases List.mem_append.1 hc' with hc' | hc'
      · exact h.pres c' hc'
      · simp at hc'; subst hc'; rename_i hne; exact absurd rfl hne
  · have := setS_len l c.key (addW1 ((getS l c.key).getD []) (now + 1) c)
    have := h.size
    unfold putS; rw [List.length_append, List.length_singleton]; omega
  · rcases hmem p hp with ⟨_, h2⟩ | ⟨_, h2⟩
    · right
      rw [h2]
      refine ⟨addW1_last _ _ _, ?_⟩
      have hw : ((getS l c.key).getD []).length ≤ H.length ∨ (lastW ((getS l c.key).getD []) = now + 1 ∧ ((getS l c.key).getD []).length ≤ H.length + 1) := by
        cases hg : getS l c.key with
        | none => left; simp
        | some ws => exact h.lens _ (getS_some hg)
      unfold addW1
      rw [List.length_append, List.length_singleton]
      split
      · rename_i hc'
        rw [List.length_dropLast]
        have := List.length_pos_iff.2 hc'.1
        rcases hw with hw | ⟨_, hw⟩ <;> omega
      · rename_i hc'
        rcases hw with hw | ⟨hl, hw⟩
        · omega
        · have : (getS l c.key).getD [] = [] := by
            cases e : (getS l c.key).getD [] with
            | nil => rfl
            | cons a b => exact absurd ⟨by rw [e]; simp, hl⟩ hc'
          rw [this]; simp
    · exact h.lens p h2
theorem MidOk.done {l l0 : PS} {now trim : UInt32} {H : List (List ChgM)} (h : PastOk l0 now trim H) (hb : H.length < 4294967295) {cs : List ChgM} (hm : MidOk l now trim H cs) : PastOk l (now + 1) trim (H ++ [cs]) := by
  have hn1 : (now + 1).toNat = H.length + 1 := by rw [UInt32.toNat_add, h.nowH]; simp; omega
  have hlt : now < now + 1 := by rw [UInt32.lt_iff_toNat_lt, hn1, h.nowH]; omega
  refine ⟨by rw [hn1]; simp, UInt32.le_trans h.trimH (UInt32.le_of_lt hlt), hm.nodup, hm.ne, hm.keys, hm.le, fun k n h1 h2 => ?_, fun p hp => ?_, fun cs' hcs c' hc' => ?_, by have := hm.size; rw [List.flatten_append, List.length_append, List.flatten_singleton]; exact this, fun p hp => by have := hm.lens p hp; rw [List.length_append, List.length_singleton]; omega⟩
  · by_cases e : n = now + 1
    · subst e; rw [hm.new, hn1, rowsN_new]
    · have hle : n ≤ now := by
        rw [UInt32.le_iff_toNat_le] at h2 ⊢
        have : n.toNat ≠ (now + 1).toNat := fun h3 => e (UInt32.toNat_inj.1 h3)
        rw [hn1] at this h2; rw [h.nowH]; omega
      rw [hm.val k n h1 hle, rowsN_old]
      rw [UInt32.le_iff_toNat_le, h.nowH] at hle; exact hle
  · rcases hm.last p hp with ⟨h1, c, h2, h3⟩ | ⟨⟨⟨cs', h1, h2, h3⟩, h4⟩, h5⟩
    · rw [h1]
      refine ⟨⟨cs, by omega, by rw [hn1]; simp, c, h2, h3⟩, fun j cs' hj hcs => ?_⟩
      rw [hn1] at hj
      rw [List.getElem?_eq_none (by simp; omega)] at hcs; cases hcs
    · refine ⟨⟨cs', h1, ?_, h3⟩, fun j cs'' hj hcs => ?_⟩
      · rw [List.getElem?_append_left (idx_lt h2)]; exact h2
      · rcases Nat.lt_or_ge j H.length with hjl | hjl
        · rw [List.getElem?_append_left hjl] at hcs; exact h4 j cs'' hj hcs
        · rw [List.getElem?_append_right hjl] at hcs
          have : cs'' = cs := by
            cases hd : j - H.length with
            | zero => rw [hd] at hcs; simpa using hcs.symm
            | succ q => rw [hd] at hcs; simp at hcs
          subst this; exact h5
  · rcases List.mem_append.1 hcs with hcs | hcs
    · exact hm.sure cs' hcs c' hc'
    · simp at hcs; subst hcs; exact hm.pres c' hc'
/-! what nobody looks at any more -/
/-! what is told -/
theorem foldP_rising (n : UInt32) : ∀ (l : PS) {r : List RowM}, Rising r → Rising (l.foldl (stepP n) r)
  | [], _, h => h
  | p :: l, r, h => by
    rw [List.foldl_cons]
    apply foldP_rising n l
    unfold stepP
    split
    · exact (setR_spec h _ _).1
    · exact h
theorem foldP_get (n : UInt32) (k : ByteArray) : ∀ (l : PS) {r : List RowM}, (l.map (·.1)).Nodup → Rising r → getR (l.foldl (stepP n) r) k = (valP l k n).or (getR r k)
  | [], _, _, _ => rfl
  | p :: l, r, hn, h => by
    rw [List.foldl_cons]
    rw [List.map_cons] at hn
    obtain ⟨hn1, hn2⟩ := List.nodup_cons.1 hn
    have hset : ∀ v, getR (setR r p.1 v) k = if k = p.1 then some v else getR r k := fun v => by
      have := getR_apply h ⟨p.1, v, false⟩ k
      simpa [applyC] using this
    have hP : valP (p :: l) k n = if p.1 = k then valW p.2 n else valP l k n := by
      unfold valP getS
      rw [List.find?_cons]
      by_cases e : p.1 = k <;> simp [e]
    rw [hP]
    by_cases e : p.1 = k
    · rw [if_pos e]
      have hno : valP l k n = none := by
        unfold valP
        cases hg : getS l k with
        | none => rfl
        | some ws => exact absurd (List.mem_map.2 ⟨_, getS_some hg, rfl⟩) (e ▸ hn1)
      cases hv : valW p.2 n with
      | none => rw [show stepP n r p = r by unfold stepP; rw [hv], foldP_get n k l hn2 h, hno]
      | some v => rw [show stepP n r p = setR r p.1 v by unfold stepP; rw [hv], foldP_get n k l hn2 (setR_spec h _ _).1, hno, hset, if_pos e.symm]; rfl
    · rw [if_neg e]
      cases hv : valW p.2 n with
      | none => rw [show stepP n r p = r by unfold stepP; rw [hv], foldP_get n k l hn2 h]
      | some v =>
        rw [show stepP n r p = setR r p.1 v by unfold stepP; rw [hv], foldP_get n k l hn2 (setR_spec h _ _).1, hset, if_neg (fun h => e h.symm)]
theorem rowsP_rising (l : PS) (n : UInt32) : Rising (rowsP l n) := foldP_rising n l List.Pairwise.nil
theorem PastOk.rows {l : PS} {now trim : UInt32} {H : List (List ChgM)} (h : PastOk l now trim H) {n : UInt32} (h1 : trim ≤ n) (h2 : n ≤ now) : rowsP l n = rowsN H n.toNat := by
  refine getR_ext (rowsP_rising l n) (rowsN_rising H _) fun k => ?_
  rw [← h.val k n h1 h2]
  unfold rowsP
  rw [foldP_get n k l h.nodup List.Pairwise.nil]
  cases valP l k n <;> rfl
def sinceH (H : List (List ChgM)) (n : Nat) (s : SpanM) : Bool := (H.drop n).any fun cs => cs.any fun c => inSpan s c.key
theorem PastOk.init : PastOk [] 0 0 [] := ⟨rfl, UInt32.le_refl _, List.nodup_nil, by simp, by simp, by simp, fun k n _ _ => by simp [valP, getS, rowsN, changeR, getR], by simp, by simp, by simp, by simp⟩
/-- Some entries have come. -/
structure ScanI (l : PS) (n : UInt32) (left : List ByteArray) (rows : List RowM) : Prop where
  rising : Rising rows
  nodup : left.Nodup
  val : ∀ k, getR rows k = if k ∈ left then none else valP l k n
theorem ScanI.first {l : PS} {left : List ByteArray} (h : left = l.map (·.1)) (hn : (l.map (·.1)).Nodup) (n : UInt32) : ScanI l n left [] := by
  refine ⟨List.Pairwise.nil, h ▸ hn, fun k => ?_⟩
  split
  · rfl
  · rename_i hk
    unfold valP
    cases hg : getS l k with
    | none => rfl
    | some ws => exact absurd (h ▸ List.mem_map.2 ⟨_, getS_some hg, rfl⟩) hk
theorem getR_set {l : List RowM} (h : Rising l) (k : ByteArray) (v : UInt32) (j : ByteArray) : getR (setR l k v) j = if j = k then some v else getR l j := by
  have := getR_apply h ⟨k, v, false⟩ j
  simpa [applyC] using this
theorem mid_nodup {A B : List ByteArray} {k : ByteArray} (h : (A ++ k :: B).Nodup) : (A ++ B).Nodup ∧ k ∉ A ++ B := by
  obtain ⟨a1, a2, a3⟩ := List.nodup_append.1 h
  obtain ⟨b1, b2⟩ := List.nodup_cons.1 a2
  refine ⟨List.nodup_append.2 ⟨a1, b2, fun a ha b hb => a3 a ha b (by simp [hb])⟩, fun hm => ?_⟩
  rcases List.mem_append.1 hm with hm | hm
  · exact a3 _ hm _ (by simp) rfl
  · exact b1 hm
theorem ScanI.put {l : PS} {n : UInt32} {left A B : List ByteArray} {rows : List RowM} {k : ByteArray} {ws : List WasM} (h : ScanI l n left rows) (hl : left = A ++ k :: B) (hg : getS l k = some ws) (hf : (findP ws n).2 = true) : ScanI l n (A ++ B) (setR rows k (findP ws n).1) := by
  obtain ⟨h1, h2⟩ := mid_nodup (hl ▸ h.nodup)
  refine ⟨(setR_spec h.rising _ _).1, h1, fun j => ?_⟩
  rw [getR_set h.rising]
  by_cases e : j = k
  · subst e
    rw [if_pos rfl, if_neg h2]
    unfold valP; rw [hg]; simp [valW, hf]
  · rw [if_neg e, h.val, hl]
    have : j ∈ A ++ k :: B ↔ j ∈ A ++ B := by simp [e]
    simp only [this]
theorem ScanI.skip {l : PS} {n : UInt32} {left A B : List ByteArray} {rows : List RowM} {k : ByteArray} {ws : List WasM} (h : ScanI l n left rows) (hl : left = A ++ k :: B) (hg : getS l k = some ws) (hf : (findP ws n).2 = false) : ScanI l n (A ++ B) rows := by
  obtain ⟨h1, h2⟩ := mid_nodup (hl ▸ h.nodup)
  refine ⟨h.rising, h1, fun j => ?_⟩
  rw [h.val, hl]
  by_cases e : j = k
  · subst e
    rw [if_pos (by simp), if_neg h2]
    unfold valP; rw [hg]; simp [valW, hf]
  · have : j ∈ A ++ k :: B ↔ j ∈ A ++ B := by simp [e]
    simp only [this]
theorem ScanI.done {l : PS} {now trim n : UInt32} {H : List (List ChgM)} {rows : List RowM} (h : ScanI l n [] rows) (hP : PastOk l now trim H) (h1 : trim ≤ n) (h2 : n ≤ now) : rows = rowsN H n.toNat := by
  refine getR_ext h.rising (rowsN_rising H _) fun k => ?_
  rw [h.val, ← hP.val k n h1 h2]; simp
end Go.SL
/- A map whose values are pointers, and what lies there. -/
set_option linter.unusedSimpArgs false
set_option linter.unusedVariables false
set_option linter.unusedSectionVars false
namespace Go.SL
open Go
/-- An entry: its key, where it lies, what it holds. -/
structure TxU (κ σ : Type) where
  id : κ
  q : Nat
  x : σ
section
variable {κ σ : Type} [DecidableEq κ]
def findU (ts : List (TxU κ σ)) (n : κ) : Option (TxU κ σ) := ts.find? fun t => decide (t.id = n)
def delU (ts : List (TxU κ σ)) (n : κ) : List (TxU κ σ) := ts.eraseP fun t => decide (t.id = n)
def kvU (t : TxU κ σ) : κ × Value := (t.id, .pointer (some ⟨t.q, 0, none⟩))
def setU (ts : List (TxU κ σ)) (n : κ) (x : σ) : List (TxU κ σ) := ts.map fun o => if o.id = n then { o with x := x } else o
theorem mget_kvU (ts : List (TxU κ σ)) (n : κ) : mget (ts.map kvU) n = (findU ts n).map fun t => .pointer (some ⟨t.q, 0, none⟩) := by
  unfold mget findU
  induction ts with
  | nil => rfl
  | cons t ts ih =>
    simp only [List.map_cons, List.find?_cons, kvU]
    by_cases h : t.id = n
    · simp [h]
    · simp only [h, decide_false]; exact ih
theorem mdel_kvU (ts : List (TxU κ σ)) (n : κ) : mdel (ts.map kvU) n = (delU ts n).map kvU := by
  unfold mdel midx delU
  induction ts with
  | nil => rfl
  | cons t ts ih =>
    simp only [List.map_cons, List.findIdx?_cons, List.eraseP_cons, kvU]
    by_cases h : t.id = n
    · simp [h]
    · simp only [h, decide_false, Bool.false_eq_true, if_false, cond_false]
      cases hm : List.findIdx? (fun p : κ × Value => decide (p.1 = n)) (ts.map kvU) with
      | none => rw [hm] at ih; simp [ih, kvU]
      | some j => rw [hm] at ih; simp only [Option.map_some, List.eraseIdx_cons_succ, List.map_cons]; rw [← ih]; rfl
theorem mset_kvU (ts : List (TxU κ σ)) (t : TxU κ σ) (h : findU ts t.id = none) : mset (ts.map kvU) t.id (.pointer (some ⟨t.q, 0, none⟩)) = (ts ++ [t]).map kvU := by
  have h1 : midx (ts.map kvU) t.id = none := by rw [midx_none, mget_kvU, h]; rfl
  simp [mset, h1, kvU]
theorem findU_mid {ts : List (TxU κ σ)} {n : κ} {t : TxU κ σ} (h : findU ts n = some t) : t.id = n ∧ ∃ A B, ts = A ++ t :: B ∧ delU ts n = A ++ B ∧ ∀ x ∈ A, x.id ≠ n := by
  unfold findU at h
  induction ts with
  | nil => simp at h
  | cons x ts ih =>
    rw [List.find?_cons] at h
    by_cases e : x.id = n
    · simp [e] at h; subst h
      exact ⟨e, [], ts, rfl, by simp [delU, e], by simp⟩
    · simp [e] at h
      obtain ⟨h1, A, B, h2, h3, h4⟩ := ih (by simpa using h)
      refine ⟨h1, x :: A, B, by simp [h2], by simp only [delU, List.eraseP_cons, e, decide_false, cond_false, List.cons_append] at h3 ⊢; rw [h3], ?_⟩
      intro y hy
      rcases List.mem_cons.1 hy with rfl | hy
      · exact e
      · exact h4 y hy
theorem findU_mem {ts : List (TxU κ σ)} {n : κ} {t : TxU κ σ} (h : findU ts n = some t) : t ∈ ts := List.mem_of_find?_eq_some h
theorem findU_none {ts : List (TxU κ σ)} {n : κ} (h : findU ts n = none) : n ∉ ts.map (·.id) := by
  intro hm
  obtain ⟨t, ht, rfl⟩ := List.mem_map.1 hm
  have := List.find?_eq_none.1 h t ht
  simp at this
theorem nodupU_mid {A B : List (TxU κ σ)} {t : TxU κ σ} (h : ((A ++ t :: B).map (·.id)).Nodup) : ∀ x ∈ A ++ B, x.id ≠ t.id := by
  rw [List.map_append, List.map_cons] at h
  obtain ⟨h1, h2, h3⟩ := List.nodup_append.1 h
  have h4 := (List.nodup_cons.1 h2).1
  intro x hx e
  rcases List.mem_append.1 hx with hx | hx
  · exact h3 x.id (List.mem_map.2 ⟨x, hx, rfl⟩) t.id (by simp) e
  · exact h4 (e ▸ List.mem_map.2 ⟨x, hx, rfl⟩)
theorem findU_of {ts : List (TxU κ σ)} (hn : (ts.map (·.id)).Nodup) {t : TxU κ σ} (ht : t ∈ ts) : findU ts t.id = some t := by
  obtain ⟨A, B, rfl⟩ := List.append_of_mem ht
  unfold findU
  rw [List.find?_append, List.find?_eq_none.2 (fun x hx => by have := nodupU_mid hn x (by simp [hx]); simpa using this)]
  simp
theorem delU_sub {ts : List (TxU κ σ)} {n : κ} : (delU ts n).Sublist ts := List.eraseP_sublist
theorem setU_mid {A B : List (TxU κ σ)} {t : TxU κ σ} (h : ((A ++ t :: B).map (·.id)).Nodup) (x : σ) : setU (A ++ t :: B) t.id x = A ++ { t with x := x } :: B := by
  have hn := nodupU_mid h
  unfold setU
  rw [List.map_append, List.map_cons, if_pos rfl]
  have e1 : ∀ l : List (TxU κ σ), (∀ y ∈ l, y.id ≠ t.id) → l.map (fun o => if o.id = t.id then { o with x := x } else o) = l := fun l hl => by
    conv => rhs; rw [← List.map_id l]
    apply List.map_congr_left
    intro o ho
    rw [if_neg (hl o ho)]; rfl
  rw [e1 A (fun x hx => hn x (by simp [hx])), e1 B (fun x hx => hn x (by simp [hx]))]
theorem setU_ids (ts : List (TxU κ σ)) (n : κ) (x : σ) : (setU ts n x).map (·.id) = ts.map (·.id) := by
  unfold setU
  rw [List.map_map]
  apply List.map_congr_left
  intro o _
  simp only [Function.comp]
  split <;> rfl
theorem setU_mem {ts : List (TxU κ σ)} {n : κ} {x : σ} {o : TxU κ σ} (h : o ∈ setU ts n x) : (∃ t ∈ ts, t.id = n ∧ o = { t with x := x }) ∨ (o ∈ ts ∧ o.id ≠ n) := by
  unfold setU at h
  obtain ⟨t, ht, rfl⟩ := List.mem_map.1 h
  by_cases e : t.id = n
  · left; exact ⟨t, ht, e, by rw [if_pos e]⟩
  · right; rw [if_neg e]; exact ⟨ht, e⟩
/-- What lies at the entries; 'TP': at one. -/
def TxsU (TP : TxU κ σ → List HP) (ts : List (TxU κ σ)) : HP := bun (ts.map fun t => bun (TP t))
variable {TP : TxU κ σ → List HP}
theorem TxsU_nil {L : List HP} {S : Piece} (h : stars L S) : stars (TxsU TP [] :: L) S := bun_stars (L := []) h
theorem TxsU_out {ts A B : List (TxU κ σ)} {t : TxU κ σ} (h : ts = A ++ t :: B) : ∀ S, TxsU TP ts S → ∃ _ : Unit, stars (TP t ++ [TxsU TP (A ++ B)]) S := fun S hS => by
  subst h
  refine ⟨(), ?_⟩
  have hS : stars ((A ++ t :: B).map fun t => bun (TP t)) S := hS
  rw [List.map_append, List.map_cons] at hS
  have h1 := stars_bun (stars_unmove hS)
  have h2 := stars_append h1
  refine stars_append' ?_
  obtain ⟨S1, S2, a, b, c, d, e⟩ := h2
  refine ⟨S1, S2, a, b, c, d, ?_⟩
  rw [TxsU, List.map_append]
  exact bun_stars (M := []) (S := S2) (by simpa using e)
theorem TxsU_in {A B : List (TxU κ σ)} {t : TxU κ σ} : ∀ S, stars (TP t ++ [TxsU TP (A ++ B)]) S → TxsU TP (A ++ t :: B) S := fun S hS => by
  show stars ((A ++ t :: B).map fun t => bun (TP t)) S
  rw [List.map_append, List.map_cons]
  refine stars_move (bun_stars (L := TP t) ?_)
  obtain ⟨S1, S2, a, b, c, d, e⟩ := stars_append hS
  refine stars_append' ⟨S1, S2, a, b, c, d, ?_⟩
  rw [TxsU, List.map_append] at e
  have := stars_bun (M := []) e
  simpa using this
end
end Go.SL
set_option linter.unusedSimpArgs false
set_option linter.unusedVariables false
namespace Go.SL.W9
open Go Go.Proofs Go.SL
theorem mixedOk : Tryz.prog.follows .mixedOrders = true := by kernel_rfl
theorem ov1_187 : (Tryz.f187.name == "runtime.NumGoroutine") = false := by kernel_rfl
theorem ov2_187 : Tryz.f187.body.isNone = true := by kernel_rfl
theorem ov3_187 : Extern.findNext Tryz.f187 = none := by kernel_rfl
theorem ov4_187 : Extern.find Tryz.f187 = some (Extern.SlicesOverlaps.overlaps #[29, 29] #[4]) := by kernel_rfl
theorem sl29 : slOf Tryz.prog 29 = some (40, 2, 24) := by kernel_rfl
theorem z40 : zeroOf Tryz.prog 40 = some [.string .empty, .int .u32 0] := by kernel_rfl
end Go.SL.W9
namespace Go.SL
open Go Go.Proofs W9
theorem Insert_spec {g : World} {u : Value} {A D : List RowM} {x : RowM} {bv : Nat} (hn : (A ++ D).length ≤ 68719476000) :
    Spec Tryz.prog g 160 [u, .int .i64 A.length, (.slice (some ⟨bv, 0, none⟩) 1 1)] [Sl 40 2 RowM.c u (A ++ D), cl bv 40 (RowM.c x)] fun K R => ∀ a m c, K (.slice a m c) (Sl 40 2 RowM.c (.slice a m c) (A ++ x :: D) :: R) := by
  have hlen : (A ++ D).length = A.length + D.length := by simp
  refine Spec.intro Tryz.func160 rfl Tryz.ntmps160 rfl fun R K hK => ?_
  refine WP.seq ?_
  refine WP.reg ?_
  refine WL.e e_assign ?_
  refine WL.next ?_
  refine WP.seq ?_
  refine WP.reg ?_
  refine WL.e e_move <| WL.e e_move ?_
  refine WL.e (el_from (lo := A.length) sl29 (sl_rl (xs := A ++ D)) (by simp)) ?_
  refine WL.next ?_
  refine WP.seq ?_
  refine WP.reg ?_
  refine WL.e e_move ?_
  refine WL.e (e_len_sl sl29) <| WL.e e_assign ?_
  refine WL.next ?_
  refine WP.seq ?_
  refine WP.seq ?_
  refine WP.reg ?_
  refine WL.e e_move <| WL.e e_eql ?_
  refine WL.next ?_
  refine WP.cond rfl (fun h0 => ?_) (fun h0 => ?_)
  · simp at h0
  · skip
    refine WP.skip ?_
    refine PO.next ?_
    refine WP.seq ?_
    refine WP.reg ?_
    refine WL.e e_move ?_
    refine WL.e (el_len sl29 (sl_rl (xs := A ++ D))) <| WL.e e_assign ?_
    refine WL.next ?_
    refine WP.seq ?_
    refine WP.seq ?_
    refine WP.reg ?_
    refine WL.e e_move <| WL.e e_move <| WL.e e_eql ?_
    refine WL.next ?_
    refine WP.cond rfl (fun h1 => ?_) (fun h1 => ?_)
    · obtain rfl : D = [] := List.eq_nil_of_length_eq_zero (by simp at h1; omega)
      refine WP.seq ?_
      refine WP.reg ?_
      refine WL.e e_move <| WL.e e_move ?_
      refine WL.h (hl_append (xs := A ++ []) (ys := [x]) sl29 rowE z40 (lit_rl (b := bv) (E := 40) (l := RowM.c x) rowE [x] (by simp)) (by simp at hn ⊢; omega) (fun a m c => ?_))
      rw [List.append_nil]
      refine WL.e e_assign ?_
      refine WL.next ?_
      refine WP.ret ?_
      refine PO.past nofun ?_
      exact PO.fin Tryz.results160 (rv_tmp rv_nil) (hK a m c)
    · have hD0 : 0 < D.length := by simp at h1; omega
      refine WP.own_open (n := (A ++ D).length) (by omega) (by exact .z) ?_
      rintro b o c l rfl hnc hc hl hcs
      have hcA : (l.drop o).take (A.length * 2) = A.flatMap RowM.c := by
        have := congrArg (List.take (A.length * 2)) hcs
        rwa [List.take_take, Nat.min_eq_left (Nat.mul_le_mul_right _ (by omega)), List.flatMap_append, List.take_left' (flat_len rowE A)] at this
      have hA0 : At (subAt (.slice (some ⟨b, o, none⟩) (A ++ D).length c) 0 A.length c 2) b o A.length c := by have := (At.lit (b := b) (o := o) hnc).sub (lo := 0) (hi := A.length) (m := c) (z := 2) (by omega) (by omega) (Nat.le_refl _); simpa using this
      have hAD : At (subAt (.slice (some ⟨b, o, none⟩) (A ++ D).length c) A.length (A ++ D).length c 2) b (o + A.length * 2) D.length (c - A.length) := by have := (At.lit (b := b) (o := o) hnc).sub (lo := A.length) (hi := (A ++ D).length) (m := c) (z := 2) (by omega) (by omega) (Nat.le_refl _); rwa [show (A ++ D).length - A.length = D.length by omega] at this
      refine WP.skip ?_
      refine PO.next ?_
      refine WP.seq ?_
      refine WP.seq ?_
      refine WP.reg ?_
      refine WL.e e_move <| WL.e e_move <| WL.e (e_add (c := (((A ++ D).length + 1 : Nat) : Int)) rfl rfl (by rw [w_i64 (by omega) (by omega)]; omega)) <| WL.e e_move ?_
      refine WL.e (e_cap sl29 rfl (At.lit hnc)) <| WL.e e_gtr ?_
      refine WL.next ?_
      refine WP.cond rfl (fun h2 => ?_) (fun h2 => ?_)
      · replace h2 : c < (A ++ D).length + 1 := by simp at h2; omega
        have hgro : ∀ u, Own 40 2 u (A.length + (D.length + 1)) ((l.drop o).take (A.length * 2) ++ (List.replicate (D.length + 1) [.string .empty, .int .u32 0]).flatten) = Sl 40 2 RowM.c u (A ++ List.replicate (D.length + 1) ⟨.empty, 0⟩) := fun u => by
          unfold Sl
          rw [hcA, List.flatMap_append, show (List.replicate (D.length + 1) (⟨.empty, 0⟩ : RowM)).flatMap RowM.c = (List.replicate (D.length + 1) [.string .empty, .int .u32 0]).flatten by simp [List.flatMap_replicate]; rfl, List.length_append, List.length_replicate]
        refine WP.seq ?_
        refine WP.reg ?_
        refine WL.e e_move <| WL.e e_move ?_
        refine WL.e (e_slice_at (lo := 0) (hi := A.length) (m := c) (c := c) (n := (A ++ D).length) sl29 rfl (At.lit hnc) (.inl ⟨rfl, rfl⟩) (.inr ⟨_, _, rfl, rfl⟩) (.inl ⟨rfl, rfl⟩) (by omega) (by omega) (Nat.le_refl _)) <| WL.e e_move <| WL.e e_move <| WL.e (e_add (c := (((A ++ D).length + 1 : Nat) : Int)) rfl rfl (by rw [w_i64 (by omega) (by omega)]; omega)) <| WL.e e_move <| WL.e (e_sub (c := ((D.length + 1 : Nat) : Int)) rfl rfl (by rw [w_i64 (by omega) (by omega)]; omega)) ?_
        refine WL.h (h_grow (n := A.length) (c := c) (k := D.length + 1) (b := b) (o := o) sl29 Tryz.underlying3 z40 rfl hA0 hl (by omega) (by omega) (by decide) (by decide) (fun a3 n3 c3 => ?_))
        rw [hgro]
        refine WL.e e_assign ?_
        refine WL.next ?_
        refine WP.seq ?_
        refine WP.reg ?_
        refine WL.e e_move <| WL.e e_move ?_
        refine WL.e (el_from (lo := A.length) sl29 (sl_rl (xs := (A ++ List.replicate (D.length + 1) ⟨.empty, 0⟩))) (by simp)) <| WL.e e_move ?_
        refine WL.h (hl_copy (lo := A.length) (xs := (A ++ List.replicate (D.length + 1) ⟨.empty, 0⟩)) (ys := [x]) sl29 rowE (by simp) (lit_rl (b := bv) (E := 40) (l := RowM.c x) rowE [x] (by simp)) ?_)
        refine WL.next ?_
        refine WP.seq ?_
        refine WP.draws mixedOk 9 ?_
        refine RW.e 0 rfl e_move <| RW.e 1 rfl e_move <| RW.e 2 rfl e_move <| RW.e 3 rfl (e_add (c := ((A.length + 1 : Nat) : Int)) rfl rfl (by rw [w_i64 (by omega) (by omega)]; omega)) ?_
        refine RW.e 4 rfl (el_from (lo := A.length + 1) sl29 (sl_rl (xs := over (A ++ List.replicate (D.length + 1) ⟨.empty, 0⟩) A.length [x])) (by rw [over_len _ _ _ (by simp)]; simp)) <| RW.e 5 rfl e_move <| RW.e 6 rfl e_move ?_
        refine RW.e 7 rfl (e_slice_at (lo := A.length) (hi := (A ++ D).length) (m := c) (c := c) (n := (A ++ D).length) sl29 rfl (At.lit hnc) (.inr ⟨_, _, rfl, rfl⟩) (.inl ⟨rfl, rfl, rfl⟩) (.inl ⟨rfl, rfl⟩) (by omega) (by omega) (Nat.le_refl _)) ?_
        refine RW.any (is := [8]) rfl ⟨?_, trivial⟩
        refine RWat.h rfl rfl rfl ?_
        refine (hl_copy (lo := A.length + 1) (xs := over (A ++ List.replicate (D.length + 1) ⟨.empty, 0⟩) A.length [x]) (ys := D) (B := cl b 40 l) sl29 rowE (by rw [over_len _ _ _ (by simp)]; simp) (rd_part rowE hAD (by have : (c - A.length) * 2 = c * 2 - A.length * 2 := Nat.sub_mul _ _ _; have := Nat.mul_le_mul_right 2 (show A.length ≤ c by omega); omega) rfl (by have := congrArg (List.drop (A.length * 2)) hcs; rw [List.drop_take, flat_drop rowE, List.drop_drop, ← Nat.sub_mul, List.drop_left] at this; rwa [show (A ++ D).length - A.length = D.length by omega] at this)) ?_)
        refine ⟨trivial, ?_⟩
        refine RW.done ?_
        refine PO.next ?_
        refine WP.seq ?_
        refine WP.reg ?_
        refine WL.e e_move <| WL.e e_assign ?_
        refine WL.next ?_
        refine WP.ret ?_
        refine PO.past nofun ?_
        rw [over_ins]
        exact PO.fin Tryz.results160 (rv_tmp rv_nil) (hK a3 n3 c3)
      · replace h2 : (A ++ D).length + 1 ≤ c := by simp at h2; omega
        obtain ⟨ic1, ic2, ic3, ic4⟩ := ins_cells (x := x) rowE hl h2 hcs
        have hones : ones (((l.drop (o + A.length * 2)).take ((D.length + 1) * 2)).take (Nat.min (D.length + 1) D.length * 2)) = true := by rw [show Nat.min (D.length + 1) D.length = D.length from Nat.min_eq_right (by omega), List.take_take, Nat.min_eq_left (Nat.mul_le_mul_right 2 (show D.length ≤ D.length + 1 by omega)), ic4]; exact ones_flat rowE D
        have hmz : ((A ++ D).length + 1) * 2 ≤ c * 2 := Nat.mul_le_mul_right _ h2
        have hA2 : At (subAt (.slice (some ⟨b, o, none⟩) (A ++ D).length c) 0 ((A ++ D).length + 1) c 2) b o ((A ++ D).length + 1) c := by have := (At.lit (b := b) (o := o) hnc).sub (lo := 0) (hi := (A ++ D).length + 1) (m := c) (z := 2) (by omega) h2 (Nat.le_refl _); simpa using this
        have hA3 : At (subAt (subAt (.slice (some ⟨b, o, none⟩) (A ++ D).length c) 0 ((A ++ D).length + 1) c 2) (A.length + 1) ((A ++ D).length + 1) c 2) b (o + (A.length + 1) * 2) D.length (c - (A.length + 1)) := by have := hA2.sub (lo := A.length + 1) (hi := (A ++ D).length + 1) (m := c) (z := 2) (by omega) h2 (Nat.le_refl _); rwa [show (A ++ D).length + 1 - (A.length + 1) = D.length by omega] at this
        have hOv : ∃ o2, subAt (subAt (.slice (some ⟨b, o, none⟩) (A ++ D).length c) 0 ((A ++ D).length + 1) c 2) (A.length + 1) ((A ++ D).length + 1) c 2 = .slice (some ⟨b, o2, none⟩) D.length (c - (A.length + 1)) := ⟨_, by obtain ⟨y, hy, _, rfl | h⟩ := hA3; exact hy; omega⟩
        have hA4 : At (subAt (subAt (.slice (some ⟨b, o, none⟩) (A ++ D).length c) 0 ((A ++ D).length + 1) c 2) A.length ((A ++ D).length + 1) c 2) b (o + A.length * 2) (D.length + 1) (c - A.length) := by have := hA2.sub (lo := A.length) (hi := (A ++ D).length + 1) (m := c) (z := 2) (by omega) h2 (Nat.le_refl _); rwa [show (A ++ D).length + 1 - A.length = D.length + 1 by omega] at this
        refine WP.skip ?_
        refine PO.next ?_
        refine WP.seq ?_
        refine WP.reg ?_
        refine WL.e e_move <| WL.e e_move <| WL.e e_move <| WL.e (e_add (c := (((A ++ D).length + 1 : Nat) : Int)) rfl rfl (by rw [w_i64 (by omega) (by omega)]; omega)) ?_
        refine WL.e (e_slice_at (lo := 0) (hi := (A ++ D).length + 1) (m := c) (c := c) (n := (A ++ D).length) sl29 rfl (At.lit hnc) (.inl ⟨rfl, rfl⟩) (.inr ⟨_, _, rfl, rfl⟩) (.inl ⟨rfl, rfl⟩) (by omega) h2 (Nat.le_refl _)) <| WL.e e_assign ?_
        refine WL.next ?_
        refine WP.seq ?_
        refine WP.seq ?_
        refine WP.reg ?_
        refine WL.e e_move <| WL.e e_move <| WL.e e_move <| WL.e e_move <| WL.e (e_add (c := ((A.length + 1 : Nat) : Int)) rfl rfl (by rw [w_i64 (by omega) (by omega)]; omega)) ?_
        refine WL.e (e_slice_at (lo := A.length + 1) (hi := (A ++ D).length + 1) (m := c) (c := c) (n := (A ++ D).length + 1) sl29 rfl hA2 (.inr ⟨_, _, rfl, rfl⟩) (.inl ⟨rfl, rfl, rfl⟩) (.inl ⟨rfl, rfl⟩) (by omega) h2 (Nat.le_refl _)) ?_
        refine WL.h (h_overlaps (U := 40) (l1 := RowM.c x) (l2 := l) (b1 := bv) (b2 := b) (n2 := D.length) (c2 := c - (A.length + 1)) (n1 := 1) (c1 := 1) (o1 := 0) Tryz.func187 ov1_187 ov2_187 ov3_187 ov4_187 sl29 rfl hOv (by repeat first | exact .z | apply Pick.s) (by repeat first | exact .z | apply Pick.s) (by omega) ?_)
        refine WL.e e_not ?_
        refine WL.next ?_
        refine WP.cond_t rfl ?_
        refine WP.seq ?_
        refine WP.draws mixedOk 9 ?_
        refine RW.e 0 rfl e_move <| RW.e 1 rfl e_move <| RW.e 2 rfl e_move <| RW.e 3 rfl (e_add (c := ((A.length + 1 : Nat) : Int)) rfl rfl (by rw [w_i64 (by omega) (by omega)]; omega)) ?_
        refine RW.e 4 rfl (e_slice_at (lo := A.length + 1) (hi := (A ++ D).length + 1) (m := c) (c := c) (n := (A ++ D).length + 1) sl29 rfl hA2 (.inr ⟨_, _, rfl, rfl⟩) (.inl ⟨rfl, rfl, rfl⟩) (.inl ⟨rfl, rfl⟩) (by omega) h2 (Nat.le_refl _)) <| RW.e 5 rfl e_move <| RW.e 6 rfl e_move ?_
        refine RW.e 7 rfl (e_slice_at (lo := A.length) (hi := (A ++ D).length + 1) (m := c) (c := c) (n := (A ++ D).length + 1) sl29 rfl hA2 (.inr ⟨_, _, rfl, rfl⟩) (.inl ⟨rfl, rfl, rfl⟩) (.inl ⟨rfl, rfl⟩) (by omega) h2 (Nat.le_refl _)) ?_
        refine RW.any (is := [8]) rfl ⟨?_, trivial⟩
        refine RWat.h rfl rfl rfl ?_
        refine (h_copy (n := D.length) (c := c - (A.length + 1)) (k := D.length + 1) (o := o + (A.length + 1) * 2) (U := 40) (l := l) (ds := (l.drop (o + A.length * 2)).take ((D.length + 1) * 2)) (B := cl b 40 l) sl29 hA3 (by have : (c - (A.length + 1)) * 2 = c * 2 - (A.length + 1) * 2 := Nat.sub_mul _ _ _; have := Nat.mul_le_mul_right 2 (show A.length + 1 ≤ c by omega); omega) (hA4.rd (by have : (c - A.length) * 2 = c * 2 - A.length * 2 := Nat.sub_mul _ _ _; have := Nat.mul_le_mul_right 2 (show A.length ≤ c by omega); omega)) hones ?_)
        rw [show Nat.min (D.length + 1) D.length = D.length from Nat.min_eq_right (by omega), List.take_take, Nat.min_eq_left (Nat.mul_le_mul_right 2 (show D.length ≤ D.length + 1 by omega)), ic4]
        refine ⟨trivial, ?_⟩
        refine RW.done ?_
        refine PO.next ?_
        refine WP.seq ?_
        refine WP.reg ?_
        refine WL.e e_move <| WL.e e_move ?_
        refine WL.e (e_slice_at (lo := A.length) (hi := (A ++ D).length + 1) (m := c) (c := c) (n := (A ++ D).length + 1) sl29 rfl hA2 (.inr ⟨_, _, rfl, rfl⟩) (.inl ⟨rfl, rfl, rfl⟩) (.inl ⟨rfl, rfl⟩) (by omega) h2 (Nat.le_refl _)) <| WL.e e_move ?_
        refine WL.h (h_copy (n := D.length + 1) (c := c - A.length) (k := 1) (o := o + A.length * 2) (U := 40) (l := splice l (o + (A.length + 1) * 2) (D.flatMap RowM.c)) (ds := RowM.c x) (B := cl bv 40 (RowM.c x)) sl29 hA4 (by rw [ic3]; have : (c - A.length) * 2 = c * 2 - A.length * 2 := Nat.sub_mul _ _ _; have := Nat.mul_le_mul_right 2 (show A.length ≤ c by omega); omega) (cl_rd (b := bv) (n := 1) (c := 1) (o := 0) (z := 2) (Nat.le_refl 1) (by rw [rowE.len]; omega) (by rw [List.drop_zero, List.take_of_length_le (by rw [rowE.len]; omega)])) (ones_take _ (rowE.one x)) ?_)
        rw [show Nat.min 1 (D.length + 1) = 1 from Nat.min_eq_left (by omega), List.take_of_length_le (show (RowM.c x).length ≤ 1 * 2 by rw [rowE.len]; omega)]
        refine WL.next ?_
        refine WP.seq ?_
        refine WP.reg ?_
        refine WL.e e_move <| WL.e e_assign ?_
        refine WL.next ?_
        refine WP.ret ?_
        refine PO.past nofun ?_
        refine PO.cls (A := Sl 40 2 RowM.c (subAt (.slice (some ⟨b, o, none⟩) (A ++ D).length c) 0 ((A ++ D).length + 1) c 2) (A ++ x :: D)) (B := [cl b 40 _]) (fun S h => ?_) ?_
        · have h := stars_one h
          unfold Sl
          rw [show (A ++ x :: D).length = (A ++ D).length + 1 by simp; omega]
          refine at_own hA2 hc ?_ ?_ S h
          · rw [ic2]; exact hl
          · exact ic1
        exact PO.fin Tryz.results160 (rv_tmp rv_nil) (hK _ _ _)
end Go.SL
