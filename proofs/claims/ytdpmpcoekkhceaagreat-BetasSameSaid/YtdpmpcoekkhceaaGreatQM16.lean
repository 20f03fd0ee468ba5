/- N5: rules and walks, several texts in one. -/
import Derived.Test.YtdpmpcoekkhceaaGreatQM15
/- A store that looks back, in plain Lean: what a transaction sees, out of the order of a map. -/
set_option linter.unusedSimpArgs false
set_option linter.unusedVariables false
set_option linter.unusedSectionVars false
namespace Go.SL
open Go Go.Proofs Go.Sort
/-! what a key has last -/
section
variable {κ β : Type} [DecidableEq κ]
def aget (l : List (κ × β)) (k : κ) : Option β := (l.find? fun p => decide (p.1 = k)).map (·.2)
def aset (l : List (κ × β)) (k : κ) (b : β) : List (κ × β) := match l.findIdx? (fun p => decide (p.1 = k)) with
  | some i => l.set i (k, b)
  | none => l ++ [(k, b)]
theorem mget_a (f : β → Value) (l : List (κ × β)) (k : κ) : mget (l.map fun p => (p.1, f p.2)) k = (aget l k).map f := by
  unfold mget aget
  rw [List.find?_map]
  simp only [Option.map_map]
  rfl
theorem mset_a (f : β → Value) (l : List (κ × β)) (k : κ) (b : β) : mset (l.map fun p => (p.1, f p.2)) k (f b) = (aset l k b).map fun p => (p.1, f p.2) := by
  have h : midx (l.map fun p => (p.1, f p.2)) k = l.findIdx? (fun p => decide (p.1 = k)) := by
    unfold midx; rw [List.findIdx?_map]; rfl
  unfold mset aset
  rw [h]
  cases List.findIdx? (fun p : κ × β => decide (p.1 = k)) l with
  | none => simp
  | some i => simp [List.map_set]
theorem aset_get (l : List (κ × β)) (k : κ) (b : β) (j : κ) : aget (aset l k b) j = if j = k then some b else aget l j := by
  unfold aset aget
  induction l with
  | nil =>
    by_cases h : j = k
    · subst h; simp
    · simp [h, Ne.symm h]
  | cons x l ih =>
    rw [List.findIdx?_cons]
    by_cases hx : x.1 = k
    · simp only [hx, decide_true, if_true, List.set_cons_zero, List.find?_cons]
      by_cases h : j = k
      · subst h; simp
      · have h' : ¬ k = j := fun e => h e.symm
        simp [h, h']
    · simp only [hx, decide_false, Bool.false_eq_true, if_false]
      cases hf : List.findIdx? (fun p : κ × β => decide (p.1 = k)) l with
      | none =>
        rw [hf] at ih
        simp only [Option.map_none, List.cons_append, List.find?_cons]
        by_cases h : x.1 = j
        · have : j ≠ k := fun e => hx (h.trans e)
          simp [h, this]
        · simp only [h, decide_false]; exact ih
      | some i =>
        rw [hf] at ih
        simp only [Option.map_some, List.set_cons_succ, List.find?_cons]
        by_cases h : x.1 = j
        · have : j ≠ k := fun e => hx (h.trans e)
          simp [h, this]
        · simp only [h, decide_false]; exact ih
theorem aset_nodup {l : List (κ × β)} (hn : (l.map (·.1)).Nodup) (k : κ) (b : β) : ((aset l k b).map (·.1)).Nodup := by
  unfold aset
  split
  · rename_i i hi
    have : (l.set i (k, b)).map (·.1) = l.map (·.1) := by
      rw [List.map_set]
      apply List.ext_getElem?
      intro j
      rw [List.getElem?_set]
      obtain ⟨h1, h2, _⟩ := List.findIdx?_eq_some_iff_getElem.1 hi
      split
      · rename_i e; subst e
        rw [if_pos (by simpa using h1)]
        simp only [List.getElem?_map, List.getElem?_eq_getElem h1, Option.map_some]
        simp at h2; rw [h2]
      · rfl
    rw [this]; exact hn
  · rename_i hi
    rw [List.map_append, List.nodup_append]
    refine ⟨hn, by simp, ?_⟩
    intro a ha b hb e
    simp at hb; subst hb; subst e
    obtain ⟨p, hp, rfl⟩ := List.mem_map.1 ha
    have := List.findIdx?_eq_none_iff.1 hi p hp
    simp at this
theorem aset_len (l : List (κ × β)) (k : κ) (b : β) : (aset l k b).length ≤ l.length + 1 := by
  unfold aset; split <;> simp
theorem aget_mem {l : List (κ × β)} (hn : (l.map (·.1)).Nodup) {p : κ × β} (h : p ∈ l) : aget l p.1 = some p.2 := by
  unfold aget
  induction l with
  | nil => cases h
  | cons x l ih =>
    rw [List.map_cons] at hn
    obtain ⟨h1, h2⟩ := List.nodup_cons.1 hn
    rw [List.find?_cons]
    rcases List.mem_cons.1 h with rfl | h
    · simp
    · have : x.1 ≠ p.1 := fun e => h1 (e ▸ List.mem_map.2 ⟨p, h, rfl⟩)
      simp only [this, decide_false]
      exact ih h2 h
theorem aget_some {l : List (κ × β)} {k : κ} {b : β} (h : aget l k = some b) : (k, b) ∈ l := by
  unfold aget at h
  rw [Option.map_eq_some_iff] at h
  obtain ⟨p, h1, rfl⟩ := h
  have h2 := List.find?_some h1
  have h3 := List.mem_of_find?_eq_some h1
  simp at h2; subst h2
  exact h3
end
abbrev Mine := List (ByteArray × ChgM)
def mineL (cs : List ChgM) : Mine := cs.foldl (fun l c => aset l c.key c) []
def kvC (p : ByteArray × ChgM) : ByteArray × Value := (p.1, p.2.v)
theorem mineL_snoc (cs : List ChgM) (c : ChgM) : mineL (cs ++ [c]) = aset (mineL cs) c.key c := by simp [mineL]
theorem mineL_ok : ∀ cs : List ChgM, ((mineL cs).map (·.1)).Nodup ∧ (mineL cs).length ≤ cs.length := by
  refine snoc_ind ⟨List.nodup_nil, Nat.le_refl _⟩ fun cs c ⟨h1, h2⟩ => ?_
  rw [mineL_snoc]
  refine ⟨aset_nodup h1 _ _, ?_⟩
  have := aset_len (mineL cs) c.key c
  rw [List.length_append, List.length_singleton]; omega
theorem mset_C (l : Mine) (c : ChgM) : mset (l.map kvC) c.key c.v = (aset l c.key c).map kvC := mset_a ChgM.v l c.key c
theorem mget_C (l : Mine) (k : ByteArray) : mget (l.map kvC) k = (aget l k).map ChgM.v := mget_a ChgM.v l k
/-- The rows with a transaction's own changes, key by key. -/
theorem getR_mine {V : List RowM} (hV : Rising V) (k : ByteArray) : ∀ cs : List ChgM, getR (changeR V cs) k = match aget (mineL cs) k with
    | some c => if c.gone then none else some c.val
    | none => getR V k := by
  refine snoc_ind rfl fun cs c ih => ?_
  rw [changeR_snoc, mineL_snoc, getR_apply (changeR_rising cs hV).1, aset_get]
  by_cases e : k = c.key
  · rw [if_pos e, if_pos e]
  · rw [if_neg e, if_neg e]; exact ih
def entL (sp : SpanM) (l : Mine) : List RowM := l.filterMap fun p => if !p.2.gone && inSpan sp p.1 then some ⟨p.1, p.2.val⟩ else none
theorem entL_mid (sp : SpanM) (A B : Mine) (p : ByteArray × ChgM) : entL sp (A ++ p :: B) = entL sp A ++ ((if !p.2.gone && inSpan sp p.1 then [⟨p.1, p.2.val⟩] else []) ++ entL sp B) := by
  unfold entL
  rw [List.filterMap_append, List.filterMap_cons]
  split
  · rename_i h
    split at h
    · cases h
    · rename_i h2; rw [if_neg h2]; rfl
  · rename_i b h
    split at h
    · rename_i h2; rw [if_pos h2]; cases h; rfl
    · cases h
theorem entL_app (sp : SpanM) (A B : Mine) : entL sp (A ++ B) = entL sp A ++ entL sp B := by unfold entL; rw [List.filterMap_append]
theorem entL_len (sp : SpanM) (l : Mine) : (entL sp l).length ≤ l.length := List.length_filterMap_le _ _
def baseL (V : List RowM) (sp : SpanM) (m : Mine) : List RowM := V.filter fun r => inSpan sp r.key && (aget m r.key).isNone
theorem entL_mem {sp : SpanM} {l : Mine} {r : RowM} : r ∈ entL sp l ↔ ∃ c, (r.key, c) ∈ l ∧ c.gone = false ∧ inSpan sp r.key = true ∧ r.val = c.val := by
  unfold entL
  rw [List.mem_filterMap]
  constructor
  · rintro ⟨p, h1, h2⟩
    split at h2
    · rename_i h3
      simp only [Bool.and_eq_true, Bool.not_eq_true'] at h3
      cases h2
      exact ⟨p.2, h1, h3.1, h3.2, rfl⟩
    · cases h2
  · rintro ⟨c, h1, h2, h3, h4⟩
    refine ⟨_, h1, ?_⟩
    rw [if_pos (by simp [h2, h3])]
    cases r; simp at h4; rw [h4]
/-- What comes out of the sort is what the transaction sees. -/
theorem look_sorted {V : List RowM} (hV : Rising V) (cs : List ChgM) (sp : SpanM) {ys : List RowM} (hp : ys.Perm (baseL V sp (mineL cs) ++ entL sp (mineL cs))) (hs : ys.Pairwise fun a b => sLt b.key a.key = false) : ys = (changeR V cs).filter fun r => inSpan sp r.key := by
  obtain ⟨hm, _⟩ := mineL_ok cs
  have hC := (changeR_rising cs hV).1
  have hmem : ∀ r, r ∈ ys ↔ r ∈ (changeR V cs).filter fun r => inSpan sp r.key := fun r => by
    rw [hp.mem_iff, List.mem_append, List.mem_filter, mem_getR hC, getR_mine hV]
    unfold baseL
    rw [List.mem_filter, entL_mem, Bool.and_eq_true, mem_getR hV]
    cases ha : aget (mineL cs) r.key with
    | none =>
      simp only [Option.isNone_none, and_true]
      constructor
      · rintro (h | ⟨c, h, _⟩)
        · exact h
        · rw [aget_mem hm h] at ha; cases ha
      · exact .inl
    | some c =>
      simp only [Option.isNone_some, Bool.false_eq_true, and_false, false_or]
      constructor
      · rintro ⟨d, h1, h2, h3, h4⟩
        have := aget_mem hm h1
        simp only at this
        rw [ha] at this; cases this
        exact ⟨by rw [h2]; simp [h4], h3⟩
      · rintro ⟨h1, h2⟩
        cases hg : c.gone with
        | true => rw [hg] at h1; simp at h1
        | false =>
          rw [hg] at h1
          simp at h1
          exact ⟨c, aget_some ha, hg, h2, h1.symm⟩
  refine rising_ext ?_ (hC.sublist List.filter_sublist) hmem
  -- no key comes twice
  have hnd : (ys.map (·.key)).Nodup := by
    rw [(hp.map _).nodup_iff, List.map_append, List.nodup_append]
    refine ⟨?_, ?_, ?_⟩
    · have h1 := hV.sublist (List.filter_sublist (p := fun r => inSpan sp r.key && (aget (mineL cs) r.key).isNone))
      rw [List.nodup_iff_pairwise_ne, List.pairwise_map]
      exact h1.imp fun h e => by rw [e, sLt_irrefl] at h; cases h
    · have : ∀ l : Mine, (l.map (·.1)).Nodup → ((entL sp l).map (·.key)).Nodup := fun l hl => by
        have hsub : ((entL sp l).map (·.key)).Sublist (l.map (·.1)) := by
          unfold entL
          clear hl
          induction l with
          | nil => exact List.Sublist.refl _
          | cons p l ih =>
            rw [List.filterMap_cons]
            split
            · exact List.Sublist.cons _ ih
            · rename_i b h
              split at h
              · cases h; exact ih.cons_cons _
              · cases h
        exact hl.sublist hsub
      exact this _ hm
    · intro a ha b hb e
      obtain ⟨r, hr, rfl⟩ := List.mem_map.1 ha
      obtain ⟨q, hq, rfl⟩ := List.mem_map.1 hb
      unfold baseL at hr
      rw [List.mem_filter, Bool.and_eq_true] at hr
      obtain ⟨c, h1, _⟩ := entL_mem.1 hq
      have h2 := aget_mem hm h1
      simp only at h2
      rw [← e] at h2
      rw [h2] at hr; simp at hr
  rw [List.nodup_iff_pairwise_ne, List.pairwise_map] at hnd
  refine (hs.and hnd).imp fun ⟨h1, h2⟩ => ?_
  rcases sLt_tri _ _ with h | h | h
  · exact h
  · exact absurd h h2
  · rw [h] at h1; cases h1
/-! the comparisons -/
def cfRow (x y : RowM) : Int := if sLt x.key y.key then -1 else 1
theorem lt_cfRow (x y : RowM) : ltOf cfRow x y = sLt x.key y.key := by
  unfold ltOf cfRow
  cases sLt x.key y.key <;> simp
theorem swoRow : SWO (ltOf cfRow) where
  irrefl x := by rw [lt_cfRow, sLt_irrefl]
  trans x y z h1 h2 := by rw [lt_cfRow] at *; exact sLt_trans h1 h2
  ntrans x y z h1 h2 := by rw [lt_cfRow] at *; exact sLe_trans h2 h1
instance : Inhabited RowM := ⟨⟨.empty, 0⟩⟩
/-- Those of a list, as such. -/
abbrev Of {α : Type} (ts : List α) := { t : α // t ∈ ts }
def cfTx {ts : List TxT} (x y : Of ts) : Int := (x.1.x.at_.toNat : Int) - y.1.x.at_.toNat
theorem lt_cfTx {ts : List TxT} (x y : Of ts) : ltOf cfTx x y = decide (x.1.x.at_ < y.1.x.at_) := by
  unfold ltOf cfTx
  rw [Bool.eq_iff_iff]
  simp only [decide_eq_true_eq, UInt32.lt_iff_toNat_lt]
  omega
theorem swoTx {ts : List TxT} : SWO (ltOf (cfTx (ts := ts))) where
  irrefl x := by rw [lt_cfTx]; simp [UInt32.lt_iff_toNat_lt]
  trans x y z h1 h2 := by rw [lt_cfTx] at *; simp only [decide_eq_true_eq, UInt32.lt_iff_toNat_lt] at *; omega
  ntrans x y z h1 h2 := by rw [lt_cfTx] at *; simp only [decide_eq_false_iff_not, UInt32.lt_iff_toNat_lt] at *; omega
/-- The first of those that are sorted has the least. -/
theorem least_first {ts : List TxT} {now : UInt32} {ys : List TxT} (hp : ys.Perm ts) (hs : ys.Pairwise fun a b => decide (b.x.at_ < a.x.at_) = false) (hle : ∀ t ∈ ts, t.x.at_ ≤ now) : leastB ts now = match ys.head? with
    | some t => t.x.at_
    | none => now := by
  cases ys with
  | nil => rw [List.nil_perm.1 hp]; rfl
  | cons y ys =>
    have hy : y ∈ ts := hp.mem_iff.1 (by simp)
    refine leastB_eq (hle y hy) (fun t ht => ?_) (.inr ⟨y, hy, rfl⟩)
    rcases List.mem_cons.1 (hp.mem_iff.2 ht) with rfl | h
    · exact UInt32.le_refl _
    · have := (List.pairwise_cons.1 hs).1 t h
      exact UInt32.not_lt.1 (by simpa using this)
section
variable {P : Program} {g : World} {Γ : Env} {L M : List HP} {dst : Option Tmp} {t : TypeId} {pos : String} {aft : Array Edge} {gd : Option (Nat × Bool)}
theorem e_minN {x y : Operand} {T U : TypeId} {k j : IntKind} {a b : Nat} (hx : ev Γ x = some (.int k a) := by rfl) (hy : ev Γ y = some (.int j b) := by rfl) : EO P g ⟨dst, .call ⟨.builtin .min, #[x, y], #[T, U]⟩, t, pos, aft, gd⟩ Γ L (.int k (min a b : Nat)) := by
  have h := e_minI (P := P) (g := g) (L := L) (dst := dst) (t := t) (pos := pos) (aft := aft) (gd := gd) (T := T) (U := U) hx hy
  rw [show (if (b : Int) < a then (b : Int) else a) = ((min a b : Nat) : Int) by split <;> omega] at h
  exact h
theorem e_lookC {m : Value} {d : TypeDesc} {kt : TypeId} {l : Mine} {x i : Operand} {T e : TypeId} {k : ByteArray} (ht : P.underlying T = some (.map kt e)) (hk : KeyOk P kt d eStr) (hz : (P.info? e).bind (·.zero) = some (.agg #[.string .empty, .int .u32 0, .bool false])) (hx : ev Γ x = some m := by rfl) (hi : ev Γ i = some (.string k) := by rfl) (hp : Pick L (Mp eStr m (l.map kvC)) M := by repeat first | exact .z | apply Pick.s) :
    EO P g ⟨dst, .lookup T x i true, t, pos, aft, gd⟩ Γ L (.tuple #[((aget l k).getD ⟨.empty, 0, false⟩).v, .bool (aget l k).isSome]) := by
  have h := e_lookup2 (g := g) (L := L) (dst := dst) (t := t) (pos := pos) (aft := aft) (gd := gd) (x := x) (i := i) (k := k) ht hk hz hx hi hp
  rw [mget_C] at h
  cases hf : aget l k with
  | none => rw [hf] at h; exact h
  | some c => rw [hf] at h; exact h
end
end Go.SL
