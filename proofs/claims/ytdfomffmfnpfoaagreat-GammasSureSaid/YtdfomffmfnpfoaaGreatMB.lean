/- What the functions compute, in plain Lean: what stays with a store by numbers; its first steps on a new disk. -/
import Derived.Test.YtdfomffmfnpfoaaGreatMA
set_option linter.unusedSimpArgs false
set_option linter.unusedVariables false
namespace Go.SL
open Go
/-- A disk on which nothing is under way. -/
structure Quiet (d : DiskM) : Prop where
  ok : d.ok
  len : d.sure.length = 4096
  waits : d.waits = []
theorem Quiet.add {d : DiskM} (h : Quiet d) (i : Nat) (b : List UInt8) (k : Nat) : Quiet (addW d i b k).sync := by
  have h1 := addW_ok k d i b h.ok
  have h2 := addW_len k d i b
  exact ⟨h1.sync, by show (addW d i b k).seen.length = 4096; rw [h1.len, h2.1, h.len], rfl⟩
theorem newDisk_quiet : Quiet (newDisk 4096) := ⟨newDisk_ok (by decide) (by decide), List.length_replicate, rfl⟩
theorem delT_sub {ts : List TxV} {n : UInt32} : (delT ts n).Sublist ts := List.eraseP_sublist
theorem sum_sub {a b : List TxV} (h : a.Sublist b) : (a.map fun t => t.own.length).sum ≤ (b.map fun t => t.own.length).sum := by
  induction h with
  | slnil => simp
  | cons x _ ih => simp; omega
  | cons_cons x _ ih => simp; omega
theorem GamOk.ends {s : GamV} {b : Nat} (h : GamOk s b) (n : UInt32) : GamOk (endsG s n) b where
  dok := h.dok
  hat := h.hat
  waits := h.waits
  rising := h.rising
  sum := by have := sum_sub (delT_sub (ts := s.txs) (n := n)); have := h.sum; show s.rows.length + ((delT s.txs n).map _).sum ≤ b; omega
  looks := Nat.le_trans (List.length_filter_le _ _) h.looks
  ids := h.ids.sublist (delT_sub.map _)
  own := fun t ht => h.own t (delT_sub.mem ht)
  bb := h.bb
theorem find_none {ts : List TxV} {n : UInt32} (h : findT ts n = none) : n ∉ ts.map (·.id) := by
  intro hm
  obtain ⟨t, ht, rfl⟩ := List.mem_map.1 hm
  have := List.find?_eq_none.1 h t ht
  simp at this
theorem GamOk.beg {s : GamV} {b : Nat} (h : GamOk s b) (n : UInt32) (q : Nat) : GamOk (begG s n q) b := by
  unfold begG
  split
  · rename_i hE
    have hf : findT s.txs n = none := by
      unfold begE at hE
      cases e : findT s.txs n with
      | none => rfl
      | some t => rw [e] at hE; split at hE <;> simp at hE
    refine ⟨h.dok, h.hat, h.waits, h.rising, ?_, h.looks, ?_, ?_, h.bb⟩
    · have := h.sum; simpa using this
    · simp only [List.map_append, List.map_cons, List.map_nil]
      refine List.nodup_append.2 ⟨h.ids, by simp, ?_⟩
      intro a ha c hc e
      simp at hc; subst hc; subst e
      exact find_none hf ha
    · intro t ht
      rcases List.mem_append.1 ht with ht | ht
      · exact h.own t ht
      · simp at ht; subst ht; simp
  · exact h
theorem GamOk.abo {s : GamV} {b : Nat} (h : GamOk s b) (n : UInt32) : GamOk (aboG s n) b := by
  unfold aboG; split
  · exact h.ends n
  · exact h
theorem GamOk.com {s : GamV} {b : Nat} (h : GamOk s b) (n : UInt32) : GamOk (comG s n) b := by
  unfold comG
  cases hf : findT s.txs n with
  | none => exact h
  | some t =>
    simp only [commG]
    split
    · rename_i hfit
      have he := h.ends n
      obtain ⟨_, A, B, hts, hdel, _⟩ := find_mid hf
      have hr := changeR_rising t.own h.rising
      have h1 := addW_ok (secs (recG t).length) s.d s.at_ (frame (recG t)) h.dok
      have h2 := addW_len (secs (recG t).length) s.d s.at_ (frame (recG t))
      refine ⟨h1.sync, ?_, rfl, hr.1, ?_, he.looks, he.ids, he.own, h.bb⟩
      · show s.at_ + secs (recG t).length ≤ (addW _ _ _ _).seen.length
        rw [h1.len, h2.1]; exact hfit.2
      · have := h.sum
        rw [hts] at this
        show (changeR s.rows t.own).length + ((delT s.txs n).map _).sum ≤ b
        rw [hdel]
        simp only [List.map_append, List.map_cons, List.sum_append, List.sum_cons] at this ⊢
        omega
    · exact h.ends n
theorem GamOk.look {s : GamV} {b : Nat} (h : GamOk s b) (hb : b + 1 ≤ 1000000000) (t : TxV) (p : SpanM) : GamOk (lookG s t p) (b + 1) :=
  ⟨h.dok, h.hat, h.waits, h.rising, Nat.le_succ_of_le h.sum, by have := h.looks; simp [lookG]; omega, h.ids, h.own, hb⟩
theorem GamOk.put {s : GamV} {b : Nat} (h : GamOk s b) (hb : b + 1 ≤ 1000000000) {t : TxV} (ht : t ∈ s.txs) (c : ChgM) (hc : chgOk c = true) (sv : SV) : GamOk (putG s t.id c sv) (b + 1) := by
  obtain ⟨A, B, e⟩ := mem_mid ht
  have hp : (putG s t.id c sv).txs = A ++ { t with own := t.own ++ [c], sv := sv } :: B := by
    show putT s.txs t.id c sv = _
    rw [e]; exact putT_mid (e ▸ h.ids) c sv
  refine ⟨h.dok, h.hat, h.waits, h.rising, ?_, Nat.le_succ_of_le h.looks, ?_, ?_, hb⟩
  · rw [hp]
    have := h.sum
    rw [e] at this
    simp at this ⊢
    show s.rows.length + _ ≤ _
    omega
  · rw [hp]
    have := h.ids
    rw [e] at this
    simpa using this
  · rw [hp]
    intro y hy c' hc'
    rcases List.mem_append.1 hy with hy | hy
    · exact h.own y (by rw [e]; simp [hy]) c' hc'
    · rcases List.mem_cons.1 hy with rfl | hy
      · simp at hc'
        rcases hc' with hc' | rfl
        · exact h.own t ht c' hc'
        · exact hc
      · exact h.own y (by rw [e]; simp [hy]) c' hc'
theorem chgOf_ok {x : OpM} (h : opOk x = true) (hw : writes x = true) : chgOk (chgOf x) = true := by
  unfold opOk at h
  simp only [Bool.and_eq_true] at h
  unfold chgOf
  split <;> simp [chgOk, h.1.1.2]
def gam0 (d : DiskM) : GamV := ⟨d, 0, [], [], 0, [], []⟩
theorem gam0_ok {d : DiskM} (h : Quiet d) : GamOk (gam0 d) 0 := ⟨h.ok, Nat.zero_le _, h.waits, List.Pairwise.nil, by simp [gam0], by simp [gam0], by simp [gam0], by simp [gam0], by decide⟩
/-! a new disk has no records -/
theorem getF_zero (n : Nat) (h : 64 ≤ n) : getF (List.replicate n 0) = none := by
  unfold getF
  rw [if_neg (by simp; omega)]
  have e1 : (beN ((List.replicate n (0 : UInt8)).take 4)).toNat = 0 := by
    rw [List.take_replicate, Nat.min_eq_left (by omega)]; rfl
  simp only [e1]
  rw [if_neg (by decide), if_neg (by simp [secs]; omega), if_neg]
  rw [List.take_zero, List.take_replicate, show secs 0 * 64 = 64 from rfl, Nat.min_eq_left h]
  decide
theorem recs_zero (n : Nat) (h : 64 ≤ n) : recs (List.replicate n 0) = [] := recs_none (getF_zero n h)
theorem cleanTo_same (all : List UInt8) (d : DiskM) (lo : Nat) : ∀ k, (∀ j, j < k → (all.drop ((lo + j) * 64)).take 64 = List.replicate 64 0) → cleanTo all d lo k = d
  | 0, _ => rfl
  | k + 1, h => by
    rw [cleanTo, if_pos (h k (by omega))]
    exact cleanTo_same all d lo k fun j hj => h j (by omega)
theorem new_flat (n : Nat) : (newDisk n).seen.flatten = List.replicate (n * 64) 0 := by
  show (List.replicate n (List.replicate 64 (0 : UInt8))).flatten = _
  rw [List.flatten_replicate_replicate]
theorem new_clean : cleanTo (newDisk 4096).seen.flatten (newDisk 4096) 0 4096 = newDisk 4096 := cleanTo_same _ _ _ _ fun j hj => by
  rw [new_flat, List.drop_replicate, List.take_replicate, Nat.min_eq_left (by omega)]
theorem meet_comm (a b : SpanM) : meet a b = meet b a := by
  rw [Bool.eq_iff_iff, meet_iff, meet_iff]
  exact ⟨fun ⟨k, h1, h2⟩ => ⟨k, h2, h1⟩, fun ⟨k, h1, h2⟩ => ⟨k, h2, h1⟩⟩
theorem in_one (k : ByteArray) : meet (one k) (one k) = true := meet_iff.2 ⟨k, by simp [inSpan, one, sIn_iff, sLt_irrefl], by simp [inSpan, one, sIn_iff, sLt_irrefl]⟩
theorem doG_look {s : GamV} {n : UInt32} {x : OpM} {t : TxV} (h1 : opOk x = true) (hf : findT s.txs n = some t) (hl : lateG s t (spanOf x) (writes x) = false) (hu : (underL s.txs t.id (spanOf x)).any (fun m => decide (m < t.num)) = false) (hw : writes x = false) : doG s n x = .look t := by
  unfold doG
  rw [if_pos h1, hf]
  simp only [hl, hu]
  simp [hw]
theorem doG_put {s : GamV} {n : UInt32} {x : OpM} {t : TxV} (h1 : opOk x = true) (hf : findT s.txs n = some t) (hl : lateG s t (spanOf x) (writes x) = false) (hu : (underL s.txs t.id (spanOf x)).any (fun m => decide (m < t.num)) = false) (hw : writes x = true) : doG s n x = .put t (chgOf x) := by
  unfold doG
  rw [if_pos h1, hf]
  simp only [hl, hu]
  simp [hw]
theorem doG_late {s : GamV} {n : UInt32} {x : OpM} {t : TxV} (h1 : opOk x = true) (hf : findT s.txs n = some t) (hl : lateG s t (spanOf x) (writes x) = true) : doG s n x = .err (endsG s n) 9 := by
  unfold doG
  rw [if_pos h1, hf]
  simp only [hl]
  simp
/-! GammasLate -/
abbrev sv0 : SV := ⟨none, 0, 0⟩
def tx1 (q : Nat) : TxV := ⟨1, 1, [], q, sv0⟩
def tx2 (q : Nat) : TxV := ⟨2, 2, [], q, sv0⟩
def tx3 (q : Nat) : TxV := ⟨3, 3, [], q, sv0⟩
def tx4 (q : Nat) : TxV := ⟨4, 4, [], q, sv0⟩
def opScan (p : SpanM) : OpM := ⟨4, p.a, p.b, 0⟩
def opPut (k : ByteArray) (v : UInt32) : OpM := ⟨2, k, .empty, v⟩
def opGet (k : ByteArray) : OpM := ⟨1, k, .empty, 0⟩
theorem sEq_empty : sEq .empty ⟨#[]⟩ = true := by rw [sEq_iff]; rfl
theorem put_ok (k : ByteArray) (v : UInt32) : opOk (opPut k v) = keyOk k := by simp [opOk, opPut, sEq_empty]
theorem get_ok (k : ByteArray) : opOk (opGet k) = keyOk k := by simp [opOk, opGet, sEq_empty]
theorem scan_ok (p : SpanM) : opOk (opScan p) = (keyOk p.a && keyOk p.b) := by simp [opOk, opScan]
theorem span_scan (p : SpanM) : spanOf (opScan p) = p := rfl
theorem span_put (k : ByteArray) (v : UInt32) : spanOf (opPut k v) = one k := rfl
theorem span_get (k : ByteArray) : spanOf (opGet k) = one k := rfl
theorem w_scan (p : SpanM) : writes (opScan p) = false := rfl
theorem w_put (k : ByteArray) (v : UInt32) : writes (opPut k v) = true := rfl
theorem w_get (k : ByteArray) : writes (opGet k) = false := rfl
theorem chg_put (k : ByteArray) (v : UInt32) : chgOf (opPut k v) = ⟨k, v, false⟩ := rfl
def lt2 (d : DiskM) (q1 q2 : Nat) : GamV := ⟨d, 0, [], [], 2, [], [tx1 q1, tx2 q2]⟩
theorem late_beg1 (d : DiskM) (q : Nat) : begE (gam0 d) 1 = 0 ∧ begG (gam0 d) 1 q = ⟨d, 0, [], [], 1, [], [tx1 q]⟩ := by
  have h : begE (gam0 d) 1 = 0 := by simp [begE, gam0, findT]
  exact ⟨h, by rw [begG, if_pos h]; rfl⟩
theorem late_beg2 (d : DiskM) (q1 q : Nat) : begE ⟨d, 0, [], [], 1, [], [tx1 q1]⟩ 2 = 0 ∧ begG ⟨d, 0, [], [], 1, [], [tx1 q1]⟩ 2 q = lt2 d q1 q := by
  have h : begE ⟨d, 0, [], [], 1, [], [tx1 q1]⟩ 2 = 0 := by simp [begE, findT, tx1]
  exact ⟨h, by rw [begG, if_pos h]; rfl⟩
theorem late_do1 (d : DiskM) (q1 q2 : Nat) (p : SpanM) : doG (lt2 d q1 q2) 2 (opScan p) = if keyOk p.a && keyOk p.b then .look (tx2 q2) else .err (lt2 d q1 q2) 1 := by
  simp only [doG, scan_ok, w_scan, span_scan]
  simp [lt2, findT, tx1, tx2, lateG, numsLate, underL, changes]
/-- One of the two is open still. -/
def ltF (p : SpanM) (q1 : Nat) (d : DiskM) (at_ : Nat) (ts : List TxV) : GamV := ⟨d, at_, [], [], 2, [(2, p)], tx1 q1 :: ts⟩
structure LtOk (q2 : Nat) (d : DiskM) (at_ : Nat) (ts : List TxV) : Prop where
  quiet : Quiet d
  hat : at_ ≤ 1
  ts : ts = [] ∨ ts = [tx2 q2]
theorem late_look (d : DiskM) (q1 q2 : Nat) (p : SpanM) : lookG (lt2 d q1 q2) (tx2 q2) p = ltF p q1 d 0 [tx2 q2] := rfl
theorem LtOk.gam {p : SpanM} {q1 q2 : Nat} {d : DiskM} {at_ : Nat} {ts : List TxV} (h : LtOk q2 d at_ ts) : GamOk (ltF p q1 d at_ ts) 10 := by
  have h1 := h.hat; have h2 := h.quiet.len
  rcases h.ts with rfl | rfl <;>
  exact ⟨h.quiet.ok, by show at_ ≤ d.sure.length; omega, h.quiet.waits, List.Pairwise.nil, by simp [ltF, tx1, tx2], by simp [ltF], by simp [ltF, tx1, tx2], by simp [ltF, tx1, tx2], by decide⟩
theorem late_abo {p : SpanM} {q1 q2 : Nat} {d : DiskM} {at_ : Nat} {ts : List TxV} (h : LtOk q2 d at_ ts) : aboG (ltF p q1 d at_ ts) 2 = ltF p q1 d at_ [] := by
  rcases h.ts with rfl | rfl <;> simp [aboG, ltF, findT, tx1, tx2, endsG, delT, minL] <;> decide
theorem late_com {p : SpanM} {q1 q2 : Nat} {d : DiskM} {at_ : Nat} {ts : List TxV} (h : LtOk q2 d at_ ts) (h0 : at_ = 0) : ∃ d' a', LtOk q2 d' a' [] ∧ comG (ltF p q1 d at_ ts) 2 = ltF p q1 d' a' [] := by
  rcases h.ts with rfl | rfl
  · exact ⟨d, at_, ⟨h.quiet, h.hat, .inl rfl⟩, by simp [comG, ltF, findT, tx1]⟩
  · have hl : (recG (tx2 q2)).length = 6 := by rw [recG_len]; rfl
    have hfit : fitsG (ltF p q1 d at_ [tx2 q2]) (tx2 q2) := ⟨by rw [hl]; decide, by rw [hl]; show at_ + 1 ≤ d.sure.length; rw [h.quiet.len]; omega⟩
    refine ⟨(addW d at_ (frame (recG (tx2 q2))) 1).sync, at_ + 1, ⟨h.quiet.add _ _ _, by omega, .inl rfl⟩, ?_⟩
    have hf : findT (ltF p q1 d at_ [tx2 q2]).txs 2 = some (tx2 q2) := by simp [ltF, findT, tx1, tx2]
    simp only [comG, hf, commG]
    rw [if_pos hfit, hl]
    simp [endsG, ltF, delT, tx1, tx2, minL, changeR, keptG, secs]
theorem late_do2 {p : SpanM} {q1 q2 : Nat} {d : DiskM} {at_ : Nat} {ts : List TxV} (h : LtOk q2 d at_ ts) (k : ByteArray) (v : UInt32) :
    doG (ltF p q1 d at_ ts) 1 (opPut k v) = if keyOk k then (if meet (one k) p then .err ⟨d, at_, [], [], 2, [(2, p)], ts⟩ 9 else .put (tx1 q1) ⟨k, v, false⟩) else .err (ltF p q1 d at_ ts) 1 := by
  simp only [doG, put_ok, w_put, span_put, chg_put]
  have hf : findT (ltF p q1 d at_ ts).txs 1 = some (tx1 q1) := by simp [ltF, findT, tx1]
  have hu : underL (ltF p q1 d at_ ts).txs (tx1 q1).id (one k) = [] := by rcases h.ts with rfl | rfl <;> simp [ltF, underL, tx1, tx2, changes]
  have hl : lateG (ltF p q1 d at_ ts) (tx1 q1) (one k) true = meet (one k) p := by
    simp only [lateG, hu]; simp [ltF, numsLate, tx1]
    rw [meet_comm]
  have he : endsG (ltF p q1 d at_ ts) 1 = ⟨d, at_, [], [], 2, [(2, p)], ts⟩ := by rcases h.ts with rfl | rfl <;> simp [ltF, endsG, delT, tx1, tx2, minL] <;> decide
  simp only [hf, hu, hl, he]
  cases keyOk k <;> cases meet (one k) p <;> simp
theorem late_do2' {p : SpanM} {q1 q2 : Nat} {d : DiskM} {at_ : Nat} {ts : List TxV} (h : LtOk q2 d at_ ts) (k : ByteArray) (v : UInt32) :
    (keyOk k = false ∧ doG (ltF p q1 d at_ ts) 1 (opPut k v) = .err (ltF p q1 d at_ ts) 1) ∨ (keyOk k = true ∧ meet (one k) p = true ∧ doG (ltF p q1 d at_ ts) 1 (opPut k v) = .err ⟨d, at_, [], [], 2, [(2, p)], ts⟩ 9) ∨
    (keyOk k = true ∧ meet (one k) p = false ∧ doG (ltF p q1 d at_ ts) 1 (opPut k v) = .put (tx1 q1) ⟨k, v, false⟩) := by
  rw [late_do2 h]
  cases keyOk k <;> cases meet (one k) p <;> simp
/-- Behind the lesser one's op: it is there, or it is not. -/
def ltH (p : SpanM) (d : DiskM) (at_ : Nat) (o ts : List TxV) : GamV := ⟨d, at_, [], [], 2, [(2, p)], o ++ ts⟩
def ltO (q1 : Nat) (o : List TxV) : Prop := o = [] ∨ ∃ c sv, chgOk c = true ∧ o = [{ tx1 q1 with own := [c], sv := sv }]
theorem ltH_ok {p : SpanM} {q1 q2 : Nat} {d : DiskM} {at_ : Nat} {o ts : List TxV} (h : LtOk q2 d at_ ts) (ho : ltO q1 o) : GamOk (ltH p d at_ o ts) 10 := by
  have h1 := h.hat; have h2 := h.quiet.len
  rcases h.ts with rfl | rfl <;> rcases ho with rfl | ⟨c, sv, hc, rfl⟩ <;>
  exact ⟨h.quiet.ok, by show at_ ≤ d.sure.length; omega, h.quiet.waits, List.Pairwise.nil, by simp [ltH, tx1, tx2], by simp [ltH], by simp [ltH, tx1, tx2], by simp [ltH, tx1, tx2, *], by decide⟩
theorem late_put {p : SpanM} {q1 q2 : Nat} {d : DiskM} {at_ : Nat} {ts : List TxV} (h : LtOk q2 d at_ ts) (c : ChgM) (sv : SV) : putG (ltF p q1 d at_ ts) (tx1 q1).id c sv = ltH p d at_ [{ tx1 q1 with own := [c], sv := sv }] ts := by
  rcases h.ts with rfl | rfl <;> simp [putG, putT, ltF, ltH, tx1, tx2]
theorem late_beg3 {p : SpanM} {q1 q2 : Nat} {d : DiskM} {at_ : Nat} {o ts : List TxV} (h : LtOk q2 d at_ ts) (ho : ltO q1 o) (q3 : Nat) : begE (ltH p d at_ o ts) 3 = 0 ∧ begG (ltH p d at_ o ts) 3 q3 = ⟨d, at_, [], [], 3, [(2, p)], o ++ ts ++ [tx3 q3]⟩ := by
  have hE : begE (ltH p d at_ o ts) 3 = 0 := by rcases h.ts with rfl | rfl <;> rcases ho with rfl | ⟨c, sv, hc, rfl⟩ <;> simp [begE, ltH, findT, tx1, tx2]
  exact ⟨hE, by rw [begG, if_pos hE]; rfl⟩
theorem late_beg4 {p : SpanM} {q1 q2 q3 : Nat} {d : DiskM} {at_ : Nat} {o ts : List TxV} (h : LtOk q2 d at_ ts) (ho : ltO q1 o) (q4 : Nat) : begE ⟨d, at_, [], [], 3, [(2, p)], o ++ ts ++ [tx3 q3]⟩ 4 = 0 ∧ begG ⟨d, at_, [], [], 3, [(2, p)], o ++ ts ++ [tx3 q3]⟩ 4 q4 = ⟨d, at_, [], [], 4, [(2, p)], o ++ ts ++ [tx3 q3] ++ [tx4 q4]⟩ := by
  have hE : begE ⟨d, at_, [], [], 3, [(2, p)], o ++ ts ++ [tx3 q3]⟩ 4 = 0 := by rcases h.ts with rfl | rfl <;> rcases ho with rfl | ⟨c, sv, hc, rfl⟩ <;> simp [begE, findT, tx1, tx2, tx3]
  exact ⟨hE, by rw [begG, if_pos hE]; rfl⟩
def ltK (lk : List (UInt32 × SpanM)) (d : DiskM) (at_ : Nat) (ts : List TxV) (q3 : Nat) (t4 : TxV) : GamV := ⟨d, at_, [], [], 4, lk, ts ++ [tx3 q3, t4]⟩
theorem late_abo1 {p : SpanM} {q1 q2 q3 q4 : Nat} {d : DiskM} {at_ : Nat} {o ts : List TxV} (h : LtOk q2 d at_ ts) (ho : ltO q1 o) : ∃ lk, (∀ x ∈ lk, x.1 = (2 : UInt32)) ∧ aboG ⟨d, at_, [], [], 4, [(2, p)], o ++ ts ++ [tx3 q3] ++ [tx4 q4]⟩ 1 = ltK lk d at_ ts q3 (tx4 q4) := by
  rcases ho with rfl | ⟨c, sv, hc, rfl⟩
  · refine ⟨[(2, p)], by simp, ?_⟩
    rcases h.ts with rfl | rfl <;> simp [aboG, findT, tx1, tx2, tx3, tx4, ltK]
  · refine ⟨[(2, p)].filter fun x => !decide (x.1 < minL (ts ++ [tx3 q3, tx4 q4]) 4), ?_, ?_⟩
    · intro x hx; have := (List.mem_filter.1 hx).1; simp at this; rw [this]
    · rcases h.ts with rfl | rfl <;> simp [aboG, findT, tx1, tx2, tx3, tx4, ltK, endsG, delT] <;> rfl
theorem ltK_under {q2 q3 : Nat} {ts : List TxV} (h : ts = [] ∨ ts = [tx2 q2]) (t4 : TxV) (h4 : t4.id = 4) (p : SpanM) : underL (ts ++ [tx3 q3, t4]) 4 p = [] ∧ ∀ m ∈ underL (ts ++ [tx3 q3, t4]) 3 p, m = t4.num := by
  rcases h with rfl | rfl <;> simp [underL, tx2, tx3, h4, changes] <;> (intro m _ _ _ e; exact e.symm)
theorem ltK_find {q2 q3 : Nat} {ts : List TxV} (h : ts = [] ∨ ts = [tx2 q2]) (t4 : TxV) (h4 : t4.id = 4) : findT (ts ++ [tx3 q3, t4]) 4 = some t4 ∧ findT (ts ++ [tx3 q3, t4]) 3 = some (tx3 q3) := by
  rcases h with rfl | rfl <;> simp [findT, tx2, tx3, h4]
theorem late_do4 {lk : List (UInt32 × SpanM)} {q2 q3 q4 : Nat} {d : DiskM} {at_ : Nat} {ts : List TxV} (h : LtOk q2 d at_ ts) (hlk : ∀ x ∈ lk, x.1 = (2 : UInt32)) (k : ByteArray) (v : UInt32) (hk : keyOk k = true) : doG (ltK lk d at_ ts q3 (tx4 q4)) 4 (opPut k v) = .put (tx4 q4) ⟨k, v, false⟩ := by
  have hu := (ltK_under (q3 := q3) h.ts (tx4 q4) rfl (one k)).1
  have hf := (ltK_find (q3 := q3) h.ts (tx4 q4) rfl).1
  have hlk' : (lk.any fun x => decide ((4 : UInt32) < x.1) && meet x.2 (one k)) = false := by
    rw [List.any_eq_false]; intro x hx; rw [hlk x hx]; simp
  have hl : lateG (ltK lk d at_ ts q3 (tx4 q4)) (tx4 q4) (one k) true = false := by
    simp only [lateG]
    rw [show (ltK lk d at_ ts q3 (tx4 q4)).txs = ts ++ [tx3 q3, tx4 q4] from rfl, show (tx4 q4).id = 4 from rfl, hu, show (ltK lk d at_ ts q3 (tx4 q4)).looks = lk from rfl, show (tx4 q4).num = 4 from rfl, hlk']
    rfl
  exact doG_put (by rw [put_ok]; exact hk) hf hl (by rw [show (ltK lk d at_ ts q3 (tx4 q4)).txs = ts ++ [tx3 q3, tx4 q4] from rfl, show (tx4 q4).id = 4 from rfl, span_put, hu]; rfl) rfl
theorem late_put4 {lk : List (UInt32 × SpanM)} {q2 q3 q4 : Nat} {d : DiskM} {at_ : Nat} {ts : List TxV} (h : LtOk q2 d at_ ts) (c : ChgM) (sv : SV) : putG (ltK lk d at_ ts q3 (tx4 q4)) (tx4 q4).id c sv = ltK lk d at_ ts q3 { tx4 q4 with own := [c], sv := sv } := by
  rcases h.ts with rfl | rfl <;> simp [putG, putT, ltK, tx2, tx3, tx4]
theorem late_do5 {lk : List (UInt32 × SpanM)} {q2 q3 q4 : Nat} {d : DiskM} {at_ : Nat} {ts : List TxV} (h : LtOk q2 d at_ ts) (c : ChgM) (sv : SV) (k : ByteArray) (hk : keyOk k = true) : doG (ltK lk d at_ ts q3 { tx4 q4 with own := [c], sv := sv }) 3 (opGet k) = .look (tx3 q3) := by
  have hu := (ltK_under (q3 := q3) h.ts { tx4 q4 with own := [c], sv := sv } rfl (one k)).2
  have hf := (ltK_find (q3 := q3) h.ts { tx4 q4 with own := [c], sv := sv } rfl).2
  have hw : (underL (ts ++ [tx3 q3, { tx4 q4 with own := [c], sv := sv }]) 3 (one k)).any (fun m => decide (m < (3 : UInt32))) = false := by
    rw [List.any_eq_false]; intro m hm; rw [hu m hm]; simp [tx4]
  have hl : lateG (ltK lk d at_ ts q3 { tx4 q4 with own := [c], sv := sv }) (tx3 q3) (one k) false = false := by simp [lateG, ltK, numsLate]
  exact doG_look (by rw [get_ok]; exact hk) hf hl hw rfl
theorem late_look5 {lk : List (UInt32 × SpanM)} {q3 : Nat} {t4 : TxV} {d : DiskM} {at_ : Nat} {ts : List TxV} (p : SpanM) : lookG (ltK lk d at_ ts q3 t4) (tx3 q3) p = ltK (lk ++ [(3, p)]) d at_ ts q3 t4 := rfl
theorem late_com4 {lk : List (UInt32 × SpanM)} {q2 q3 q4 : Nat} {d : DiskM} {at_ : Nat} {ts : List TxV} (h : LtOk q2 d at_ ts) (c : ChgM) (hc : chgOk c = true) (sv : SV) :
    comE (ltK lk d at_ ts q3 { tx4 q4 with own := [c], sv := sv }) 4 = 0 ∧ (comG (ltK lk d at_ ts q3 { tx4 q4 with own := [c], sv := sv }) 4).nums = [(c.key, 4)] ∧ (comG (ltK lk d at_ ts q3 { tx4 q4 with own := [c], sv := sv }) 4).txs = ts ++ [tx3 q3] := by
  have hf : findT (ltK lk d at_ ts q3 { tx4 q4 with own := [c], sv := sv }).txs 4 = some { tx4 q4 with own := [c], sv := sv } := (ltK_find (q3 := q3) h.ts { tx4 q4 with own := [c], sv := sv } rfl).1
  have hl : (recG { tx4 q4 with own := [c], sv := sv }).length = 6 + (chgB c).length := by rw [recG_len]; simp
  have hb := (chgB_len c).2 (by unfold chgOk at hc; simp at hc; exact hc.1)
  have hfit : fitsG (ltK lk d at_ ts q3 { tx4 q4 with own := [c], sv := sv }) { tx4 q4 with own := [c], sv := sv } := ⟨by rw [hl]; omega, by
    rw [hl]; show at_ + _ ≤ d.sure.length; rw [h.quiet.len]; have := h.hat; unfold secs; omega⟩
  refine ⟨by simp only [comE, hf, if_pos hfit], ?_, ?_⟩
  · simp only [comG, hf, commG, if_pos hfit]
    simp [ltK, keptG, setN, tx4]
  · rw [comG_txs hf]
    rcases h.ts with rfl | rfl <;> simp [ltK, delT, tx2, tx3, tx4]
theorem late_do6 {s : GamV} {q2 q3 : Nat} {ts : List TxV} (k : ByteArray) (hk : keyOk k = true) (h : ts = [] ∨ ts = [tx2 q2]) (hn : s.nums = [(k, 4)]) (ht : s.txs = ts ++ [tx3 q3]) : doG s 3 (opGet k) = .err (endsG s 3) 9 := by
  have hf : findT s.txs 3 = some (tx3 q3) := by rw [ht]; rcases h with rfl | rfl <;> simp [findT, tx2, tx3]
  have hl : lateG s (tx3 q3) (one k) false = true := by
    simp only [lateG, hn]; simp [numsLate, tx3, in_one]
  exact doG_late (by rw [get_ok]; exact hk) hf hl
/-- What the lesser one's op came to. -/
def ltE (p : SpanM) (k : ByteArray) (q1 : Nat) (e : Nat) (o : List TxV) : Prop := (e = 1) ∨ (keyOk k = true ∧ e = 9 ∧ meet (one k) p = true ∧ o = []) ∨ (keyOk k = true ∧ e = 0 ∧ meet (one k) p = false ∧ ltO q1 o)
theorem ltE_not {p : SpanM} {k : ByteArray} {q1 e : Nat} {o : List TxV} (h : ltE p k q1 e o) (h1 : ((e : Int) == 1) = false) : keyOk k = true ∧ ltO q1 o ∧ (((e : Int) == 9) != meet (one k) p) = false ∧ (((e : Int) == 0) == meet (one k) p) = false := by
  rcases h with rfl | ⟨hk, rfl, hm, rfl⟩ | ⟨hk, rfl, hm, ho⟩
  · exact absurd h1 (by decide)
  · rw [hm]; exact ⟨hk, .inl rfl, by decide, by decide⟩
  · rw [hm]; exact ⟨hk, ho, by decide, by decide⟩
/-! lives -/
def kA : ByteArray := ⟨#[97]⟩
def kB : ByteArray := ⟨#[98]⟩
theorem sEq_no {a b : ByteArray} (h : a ≠ b) : sEq a b = false := by
  cases e : sEq a b with
  | false => rfl
  | true => exact absurd (sEq_iff.1 e) h
theorem keyA : keyOk kA = true := by
  have h1 : sEq kA ⟨#[]⟩ = false := sEq_no (by simp [kA])
  have h2 : allR keyRune kA = true := by decide +kernel
  simp only [keyOk, h1, h2]; rfl
theorem keyB : keyOk kB = true := by
  have h1 : sEq kB ⟨#[]⟩ = false := sEq_no (by simp [kB])
  have h2 : allR keyRune kB = true := by decide +kernel
  simp only [keyOk, h1, h2]; rfl
def t7 (q : Nat) : TxV := ⟨7, 1, [], q, sv0⟩
def t8 (q : Nat) : TxV := ⟨8, 2, [], q, sv0⟩
def t9 (q : Nat) (c : List ChgM) (sv : SV) : TxV := ⟨9, 3, c, q, sv⟩
def t4' (q : Nat) : TxV := ⟨4, 4, [], q, sv0⟩
def lv1 (d : DiskM) (q1 : Nat) : GamV := ⟨d, 0, [], [], 1, [], [t7 q1]⟩
def lv2 (d : DiskM) (q1 q2 : Nat) : GamV := ⟨d, 0, [], [], 2, [], [t7 q1, t8 q2]⟩
def lv4 (d : DiskM) (q2 : Nat) : GamV := ⟨d, 0, [], [], 2, [(2, one kA)], [t8 q2]⟩
def lv5 (d : DiskM) (q2 q3 : Nat) : GamV := ⟨d, 0, [], [], 3, [(2, one kA)], [t8 q2, t9 q3 [] sv0]⟩
def lv6 (d : DiskM) (q2 q3 q4 : Nat) (c : List ChgM) (sv : SV) : GamV := ⟨d, 0, [], [], 4, [(2, one kA)], [t8 q2, t9 q3 c sv, t4' q4]⟩
theorem lv_1 (d : DiskM) (q : Nat) : begE (gam0 d) 7 = 0 ∧ begG (gam0 d) 7 q = lv1 d q := by
  have h : begE (gam0 d) 7 = 0 := by simp [begE, gam0, findT]
  exact ⟨h, by rw [begG, if_pos h]; rfl⟩
theorem lv_2 (d : DiskM) (q1 q : Nat) : begE (lv1 d q1) 8 = 0 ∧ begG (lv1 d q1) 8 q = lv2 d q1 q := by
  have h : begE (lv1 d q1) 8 = 0 := by simp [begE, lv1, findT, t7]
  exact ⟨h, by rw [begG, if_pos h]; rfl⟩
theorem lv_3 (d : DiskM) (q1 q2 : Nat) : doG (lv2 d q1 q2) 8 (opGet kA) = .look (t8 q2) := by
  simp only [doG, get_ok, w_get, span_get, keyA, if_true]
  simp [lv2, findT, t7, t8, lateG, numsLate, underL, changes]
theorem lv_4e (d : DiskM) (q1 q2 : Nat) : endsG (lookG (lv2 d q1 q2) (t8 q2) (one kA)) 7 = lv4 d q2 := by simp [endsG, lookG, lv2, lv4, delT, t7, t8, minL]
theorem lv_4 (d : DiskM) (q1 q2 : Nat) : doG (lookG (lv2 d q1 q2) (t8 q2) (one kA)) 7 (opPut kA 5) = .err (lv4 d q2) 9 := by
  have he : endsG (lookG (lv2 d q1 q2) (t8 q2) (one kA)) 7 = lv4 d q2 := by simp [endsG, lookG, lv2, lv4, delT, t7, t8, minL]
  simp only [doG, put_ok, w_put, span_put, keyA, if_true, he]
  simp [lookG, lv2, findT, t7, t8, lateG, numsLate, underL, changes, in_one]
theorem lv_5 (d : DiskM) (q2 q : Nat) : begE (lv4 d q2) 9 = 0 ∧ begG (lv4 d q2) 9 q = lv5 d q2 q := by
  have h : begE (lv4 d q2) 9 = 0 := by simp [begE, lv4, findT, t8]
  exact ⟨h, by rw [begG, if_pos h]; rfl⟩
theorem lv_6 (d : DiskM) (q2 q3 q : Nat) : begE (lv5 d q2 q3) 4 = 0 ∧ begG (lv5 d q2 q3) 4 q = lv6 d q2 q3 q [] sv0 := by
  have h : begE (lv5 d q2 q3) 4 = 0 := by simp [begE, lv5, findT, t8, t9]
  exact ⟨h, by rw [begG, if_pos h]; rfl⟩
theorem lv_7 (d : DiskM) (q2 q3 q4 : Nat) : doG (lv6 d q2 q3 q4 [] sv0) 9 (opPut kB 1) = .put (t9 q3 [] sv0) ⟨kB, 1, false⟩ := by
  simp only [doG, put_ok, w_put, span_put, keyB, if_true, chg_put]
  simp [lv6, findT, t8, t9, t4', lateG, numsLate, underL, changes]
theorem lv_7' (d : DiskM) (q2 q3 q4 : Nat) (sv : SV) : putG (lv6 d q2 q3 q4 [] sv0) (t9 q3 [] sv0).id ⟨kB, 1, false⟩ sv = lv6 d q2 q3 q4 [⟨kB, 1, false⟩] sv := by
  simp [putG, putT, lv6, t8, t9, t4']
theorem lv_8 (d : DiskM) (q2 q3 q4 : Nat) (sv : SV) : doG (lv6 d q2 q3 q4 [⟨kB, 1, false⟩] sv) 4 (opGet kB) = .err (lv6 d q2 q3 q4 [⟨kB, 1, false⟩] sv) 8 := by
  simp only [doG, get_ok, w_get, span_get, keyB, if_true]
  simp [lv6, findT, t8, t9, t4', lateG, numsLate, underL, changes, in_one]
theorem chgB_kB : (chgB ⟨kB, 1, false⟩).length = 7 := rfl
theorem lv_fit (d : DiskM) (hd : Quiet d) (q2 q3 q4 : Nat) (sv : SV) : fitsG (lv6 d q2 q3 q4 [⟨kB, 1, false⟩] sv) (t9 q3 [⟨kB, 1, false⟩] sv) := by
  have hl : (recG (t9 q3 [⟨kB, 1, false⟩] sv)).length = 13 := by rw [recG_len]; simp [t9, chgB_kB]
  exact ⟨by rw [hl]; decide, by rw [hl]; show 0 + secs 13 ≤ d.sure.length; rw [hd.len]; decide⟩
theorem lv_find (d : DiskM) (q2 q3 q4 : Nat) (sv : SV) : findT (lv6 d q2 q3 q4 [⟨kB, 1, false⟩] sv).txs 9 = some (t9 q3 [⟨kB, 1, false⟩] sv) := by simp [lv6, findT, t8, t9]
theorem lv_9 (d : DiskM) (hd : Quiet d) (q2 q3 q4 : Nat) (sv : SV) : comE (lv6 d q2 q3 q4 [⟨kB, 1, false⟩] sv) 9 = 0 ∧ comN (lv6 d q2 q3 q4 [⟨kB, 1, false⟩] sv) 9 = 3 ∧
    (comG (lv6 d q2 q3 q4 [⟨kB, 1, false⟩] sv) 9).rows = [⟨kB, 1⟩] ∧ (comG (lv6 d q2 q3 q4 [⟨kB, 1, false⟩] sv) 9).nums = [(kB, 3)] ∧ (comG (lv6 d q2 q3 q4 [⟨kB, 1, false⟩] sv) 9).txs = [t8 q2, t4' q4] := by
  have hf := lv_find d q2 q3 q4 sv
  have hfit := lv_fit d hd q2 q3 q4 sv
  refine ⟨by simp only [comE, hf, if_pos hfit], by simp only [comN, hf, if_pos hfit]; rfl, ?_, ?_, by rw [comG_txs hf]; simp [lv6, delT, t8, t9, t4']⟩
  · simp only [comG, hf, commG, if_pos hfit]
    simp [lv6, t9, changeR, applyC, setR, hasI, lowI]
  · simp only [comG, hf, commG, if_pos hfit]
    simp [lv6, t9, keptG, setN]
theorem lv_10 {s : GamV} {q2 q4 : Nat} (hn : s.nums = [(kB, 3)]) (ht : s.txs = [t8 q2, t4' q4]) : doG s 4 (opGet kB) = .look (t4' q4) := by
  simp only [doG, get_ok, w_get, span_get, keyB, if_true, ht]
  simp [findT, t8, t4', lateG, numsLate, hn, ht, underL, changes]
theorem lv_11 {s : GamV} {q4 : Nat} (hr : s.rows = [⟨kB, 1⟩]) : scanR (changeR s.rows (t4' q4).own) (one kB) 256 = [⟨kB, 1⟩] := by
  rw [hr]
  have : inSpan (one kB) kB = true := by rw [← meet_one]; exact in_one kB
  simp [changeR, t4', scanR, this]
theorem lv_12 {s : GamV} : begE s 0 = 1 ∧ ∀ q, begG s 0 q = s := by
  have h : begE s 0 = 1 := by simp [begE]
  exact ⟨h, fun q => by simp [begG, h]⟩
theorem lv_13 {s : GamV} {q2 q4 : Nat} (ht : s.txs = [t8 q2, t4' q4]) : aboE s 7 = 6 ∧ aboG s 7 = s := by simp [aboE, aboG, ht, findT, t8, t4']
end Go.SL
