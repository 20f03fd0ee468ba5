/- What the functions compute, in plain Lean: ops on rows, one behind the other; a transaction that nothing troubles. -/
import Derived.Test.YtdfomffmfnpfoaaGreatMB
import Derived.Test.YtdfomffmfnpfoaaGreatSLu
set_option linter.unusedSimpArgs false
set_option linter.unusedVariables false
namespace Go.SL
open Go
def doneO (rows : List RowM) (x : OpM) : List RowM × List RowM :=
  if x.kind = 1 then (scanR rows (one x.key) 1, rows) else if x.kind = 4 then (scanR rows ⟨x.key, x.to⟩ 256, rows) else if x.kind = 2 then ([], setR rows x.key x.val) else ([], dropR rows x.key)
def runS (s : List (List RowM) × List RowM) (l : List OpM) : List (List RowM) × List RowM := l.foldl (fun s x => (s.1 ++ [(doneO s.2 x).1], (doneO s.2 x).2)) s
def runM (rows : List RowM) (l : List OpM) : List (List RowM) × List RowM := runS ([], rows) l
theorem runM_nil (rows : List RowM) : runM rows [] = ([], rows) := rfl
theorem runM_snoc (rows : List RowM) (l : List OpM) (x : OpM) : runM rows (l ++ [x]) = ((runM rows l).1 ++ [(doneO (runM rows l).2 x).1], (doneO (runM rows l).2 x).2) := by simp [runM, runS]
def KeysOk (l : List RowM) : Prop := ∀ r ∈ l, keyOk r.key = true
theorem doneO_rows {rows : List RowM} (h : Rising rows) (x : OpM) : Rising (doneO rows x).2 ∧ (doneO rows x).2.length ≤ rows.length + 1 := by
  unfold doneO
  split
  · exact ⟨h, Nat.le_succ _⟩
  · split
    · exact ⟨h, Nat.le_succ _⟩
    · split
      · exact ⟨(setR_spec h _ _).1, (setR_spec h _ _).2.2⟩
      · exact ⟨(dropR_spec h _).1, Nat.le_succ_of_le (dropR_spec h _).2.2⟩
theorem doneO_keys {rows : List RowM} (hr : Rising rows) (h : KeysOk rows) {x : OpM} (hx : opOk x = true) : KeysOk (doneO rows x).2 := by
  have hk : keyOk x.key = true := by unfold opOk at hx; simp only [Bool.and_eq_true] at hx; exact hx.1.1.2
  unfold doneO
  split
  · exact h
  · split
    · exact h
    · split
      · intro r hm; rcases ((setR_spec hr _ _).2.1 r).1 hm with rfl | ⟨hm, _⟩
        · exact hk
        · exact h r hm
      · intro r hm; exact h r (((dropR_spec hr _).2.1 r).1 hm).1
theorem runM_take (rows : List RowM) {l : List OpM} {i : Nat} {x : OpM} (hx : l[i]? = some x) : runM rows (l.take (i + 1)) = ((runM rows (l.take i)).1 ++ [(doneO (runM rows (l.take i)).2 x).1], (doneO (runM rows (l.take i)).2 x).2) := by rw [take_snoc hx, runM_snoc]
theorem snoc_ind {α : Type} {p : List α → Prop} (h0 : p []) (h1 : ∀ l x, p l → p (l ++ [x])) : ∀ l, p l := fun l => by
  have : ∀ n, p (l.take n) := fun n => by
    induction n with
    | zero => simpa using h0
    | succ n ih =>
      rcases Nat.lt_or_ge n l.length with h | h
      · rw [take_snoc (List.getElem?_eq_getElem h)]; exact h1 _ _ ih
      · rw [List.take_of_length_le (by omega)]; rwa [List.take_of_length_le h] at ih
  have h := this l.length
  rwa [List.take_length] at h
theorem runM_rows {rows : List RowM} (h : Rising rows) : ∀ l : List OpM, Rising (runM rows l).2 ∧ (runM rows l).2.length ≤ rows.length + l.length ∧ (runM rows l).1.length = l.length := by
  refine snoc_ind ⟨h, by simp [runM_nil], rfl⟩ fun l x ⟨h1, h2, h3⟩ => ?_
  rw [runM_snoc]
  have := doneO_rows h1 x
  exact ⟨this.1, by simp only [List.length_append, List.length_cons, List.length_nil]; omega, by simp [h3]⟩
theorem runM_keys {rows : List RowM} (hr : Rising rows) (h : KeysOk rows) : ∀ l : List OpM, (∀ x ∈ l, opOk x = true) → KeysOk (runM rows l).2 := by
  refine snoc_ind (fun _ => h) fun l x ih hl => ?_
  rw [runM_snoc]
  exact doneO_keys (runM_rows hr l).1 (ih fun y hy => hl y (by simp [hy])) (hl x (by simp))
theorem setR_app {l : List RowM} {k : ByteArray} {v : UInt32} (h : ∀ r ∈ l, sLt r.key k = true) : setR l k v = l ++ [⟨k, v⟩] := by
  have h1 : lowI l k = l.length := by
    unfold lowI; congr 1
    exact tw_all h
  have h2 : hasI l k = false := by unfold hasI; rw [h1]; simp
  unfold setR; rw [if_neg (by simp [h2]), h1]; simp
theorem rising_take {l : List RowM} (h : Rising l) {i : Nat} {x : RowM} (hx : l[i]? = some x) : ∀ r ∈ l.take i, sLt r.key x.key = true := by
  have hlt := idx_lt hx
  have e : l = l.take i ++ x :: l.drop (i + 1) := by
    rw [List.getElem?_eq_getElem hlt] at hx; cases hx
    rw [List.getElem_cons_drop, List.take_append_drop]
  rw [e] at h
  intro r hr
  exact (List.pairwise_append.1 h).2.2 r hr x (by simp)
/-! a transaction that nothing troubles -/
structure Calm (s : GamV) (t : TxV) : Prop where
  find : findT s.txs t.id = some t
  own : ∀ o ∈ s.txs, o.id ≠ t.id → o.own = []
  nums : ∀ y ∈ s.nums, ¬ t.num < y.2
  looks : ∀ y ∈ s.looks, ¬ t.num < y.1
theorem Calm.under {s : GamV} {t : TxV} (h : Calm s t) (p : SpanM) : underL s.txs t.id p = [] := by
  unfold underL
  rw [List.map_eq_nil_iff, List.filter_eq_nil_iff]
  intro o ho hc
  simp only [Bool.and_eq_true, Bool.not_eq_true', decide_eq_false_iff_not] at hc
  rw [changes, h.own o ho hc.1] at hc
  simp at hc
theorem Calm.late {s : GamV} {t : TxV} (h : Calm s t) (p : SpanM) (w : Bool) : lateG s t p w = false := by
  have h1 : numsLate s.nums t.num p = false := by
    unfold numsLate
    rw [List.any_eq_false]; intro y hy hc
    simp only [Bool.and_eq_true, decide_eq_true_eq] at hc
    exact h.nums y hy hc.1
  have h2 : (s.looks.any fun x => decide (t.num < x.1) && meet x.2 p) = false := by
    rw [List.any_eq_false]; intro y hy hc
    simp only [Bool.and_eq_true, decide_eq_true_eq] at hc
    exact h.looks y hy hc.1
  simp [lateG, h1, h2, h.under]
theorem Calm.do_ {s : GamV} {t : TxV} (h : Calm s t) {x : OpM} (hx : opOk x = true) : (writes x = true ∧ doG s t.id x = .put t (chgOf x)) ∨ (writes x = false ∧ doG s t.id x = .look t) := by
  cases hw : writes x with
  | true => exact .inl ⟨rfl, doG_put hx h.find (h.late _ _) (by rw [h.under]; rfl) hw⟩
  | false => exact .inr ⟨rfl, doG_look hx h.find (h.late _ _) (by rw [h.under]; rfl) hw⟩
theorem doG_bad {s : GamV} {n : UInt32} {x : OpM} (h : opOk x = false) : doG s n x = .err s 1 := by simp [doG, h]
theorem Calm.put {s : GamV} {b : Nat} {t : TxV} (h : Calm s t) (hs : GamOk s b) (c : ChgM) (sv : SV) : Calm (putG s t.id c sv) { t with own := t.own ++ [c], sv := sv } := by
  obtain ⟨_, A, B, hts, _, hA⟩ := find_mid h.find
  have hp : (putG s t.id c sv).txs = A ++ { t with own := t.own ++ [c], sv := sv } :: B := by
    show putT s.txs t.id c sv = _
    rw [hts]; exact putT_mid (hts ▸ hs.ids) c sv
  refine ⟨?_, fun o ho hi => ?_, h.nums, h.looks⟩
  · rw [hp]
    unfold findT
    rw [List.find?_append, List.find?_eq_none.2 (fun x hx => by simpa using hA x hx)]
    simp
  · rw [hp] at ho
    rcases List.mem_append.1 ho with ho | ho
    · exact h.own o (by rw [hts]; simp [ho]) hi
    · rcases List.mem_cons.1 ho with rfl | ho
      · exact absurd rfl hi
      · exact h.own o (by rw [hts]; simp [ho]) hi
theorem Calm.look {s : GamV} {t : TxV} (h : Calm s t) (p : SpanM) : Calm (lookG s t p) t := by
  refine ⟨h.find, h.own, h.nums, fun y hy => ?_⟩
  rcases List.mem_append.1 hy with hy | hy
  · exact h.looks y hy
  · simp at hy; subst hy; exact fun hlt => absurd hlt (by simp [UInt32.lt_iff_toNat_lt])
theorem scan_one {l : List RowM} (h : Rising l) (k : ByteArray) : scanR l (one k) 256 = scanR l (one k) 1 := by
  unfold scanR
  have : (l.filter fun r => inSpan (one k) r.key).length ≤ 1 := by
    have hk : ∀ r : RowM, inSpan (one k) r.key = true → r.key = k := fun r hr => by
      unfold inSpan one at hr
      rw [sIn_iff] at hr
      rcases sLt_tri r.key k with h | h | h
      · rw [hr.1] at h; cases h
      · exact h
      · rw [hr.2] at h; cases h
    cases e : l.filter fun r => inSpan (one k) r.key with
    | nil => simp
    | cons a m =>
      cases m with
      | nil => simp
      | cons b m =>
        have hs : Rising (a :: b :: m) := e ▸ h.sublist List.filter_sublist
        have ha := hk a (List.mem_filter.1 (e ▸ List.mem_cons_self : a ∈ l.filter fun r => inSpan (one k) r.key)).2
        have hb := hk b (List.mem_filter.1 (e ▸ (by simp) : b ∈ l.filter fun r => inSpan (one k) r.key)).2
        have := (List.pairwise_cons.1 hs).1 b (by simp)
        rw [ha, hb, sLt_irrefl] at this; cases this
  rw [List.take_of_length_le (by omega), List.take_of_length_le this]
theorem kinds {x : OpM} (h : opOk x = true) : (writes x = true ∧ (x.kind = 2 ∨ x.kind = 3)) ∨ (writes x = false ∧ (x.kind = 1 ∨ x.kind = 4)) := by
  unfold opOk at h
  simp only [Bool.and_eq_true, decide_eq_true_eq] at h
  have h1 := h.1.1.1.1; have h2 := h.1.1.1.2
  have h3 : x.kind = 1 ∨ x.kind = 2 ∨ x.kind = 3 ∨ x.kind = 4 := by
    have : x.kind.toNat = 1 ∨ x.kind.toNat = 2 ∨ x.kind.toNat = 3 ∨ x.kind.toNat = 4 := by omega
    rcases this with e | e | e | e
    · exact .inl (UInt8.toNat_inj.1 e)
    · exact .inr (.inl (UInt8.toNat_inj.1 e))
    · exact .inr (.inr (.inl (UInt8.toNat_inj.1 e)))
    · exact .inr (.inr (.inr (UInt8.toNat_inj.1 e)))
  rcases h3 with e | e | e | e <;> simp [writes, e]
/-- An op as a transaction does it, and as it is run. -/
theorem done_write {rows : List RowM} {x : OpM} (h : opOk x = true) (hw : writes x = true) : doneO rows x = ([], applyC rows (chgOf x)) := by
  rcases kinds h with ⟨_, e | e⟩ | ⟨hn, _⟩
  · simp [doneO, e, chgOf, applyC]
  · simp [doneO, e, chgOf, applyC]
  · rw [hw] at hn; cases hn
theorem done_read {rows : List RowM} (hr : Rising rows) {x : OpM} (h : opOk x = true) (hw : writes x = false) : doneO rows x = (scanR rows (spanOf x) 256, rows) := by
  rcases kinds h with ⟨hn, _⟩ | ⟨_, e | e⟩
  · rw [hw] at hn; cases hn
  · simp only [doneO, e, if_true, spanOf, if_neg (show ¬ (1 : UInt8) = 4 by decide)]
    rw [show (⟨x.key, x.key⟩ : SpanM) = one x.key from rfl, scan_one hr]
  · simp only [doneO, e, if_neg (show ¬ (4 : UInt8) = 1 by decide), if_true, spanOf]
/-- A transaction's changes are what its ops leave. -/
structure Does (rows : List RowM) (own : List ChgM) (done : List OpM) (told : List (List RowM)) : Prop where
  left : changeR rows own = (runM rows done).2
  told : told = (runM rows done).1
  ok : ∀ x ∈ done, opOk x = true
  own_le : own.length ≤ done.length
theorem Does.nil (rows : List RowM) : Does rows [] [] [] := ⟨rfl, rfl, by simp, Nat.le_refl _⟩
theorem Does.write {rows : List RowM} {own : List ChgM} {done : List OpM} {told : List (List RowM)} (h : Does rows own done told) {x : OpM} (hx : opOk x = true) (hw : writes x = true) : Does rows (own ++ [chgOf x]) (done ++ [x]) (told ++ [[]]) :=
  ⟨by rw [changeR_snoc, runM_snoc, h.left, done_write hx hw], by rw [runM_snoc, done_write hx hw, h.told], fun y hy => by rcases List.mem_append.1 hy with hy | hy; exact h.ok y hy; simp at hy; subst hy; exact hx, by have := h.own_le; simp; omega⟩
theorem Does.read {rows : List RowM} (hr : Rising rows) {own : List ChgM} {done : List OpM} {told : List (List RowM)} (h : Does rows own done told) {x : OpM} (hx : opOk x = true) (hw : writes x = false) : Does rows own (done ++ [x]) (told ++ [scanR (changeR rows own) (spanOf x) 256]) := by
  have h1 := (runM_rows hr done).1
  exact ⟨by rw [runM_snoc, done_read h1 hx hw, h.left], by rw [runM_snoc, done_read h1 hx hw, h.told, h.left], fun y hy => by rcases List.mem_append.1 hy with hy | hy; exact h.ok y hy; simp at hy; subst hy; exact hx, by have := h.own_le; simp; omega⟩
/-- A transaction that is committed. -/
theorem calm_com {s : GamV} {b : Nat} {t : TxV} (h : Calm s t) (hs : GamOk s b) (hq : Quiet s.d) {m : Nat} (hm : t.own.length ≤ m) (hmm : m ≤ 100) (hat : s.at_ ≤ 1000) :
    comE s t.id = 0 ∧ comN s t.id = t.num ∧ (comG s t.id).rows = changeR s.rows t.own ∧ (comG s t.id).nums = keptG s.nums t.num t.own ∧ (comG s t.id).last = s.last ∧ (comG s t.id).txs = delT s.txs t.id ∧ Quiet (comG s t.id).d ∧ (comG s t.id).at_ ≤ s.at_ + m + 2 ∧ (∀ y ∈ (comG s t.id).looks, y ∈ s.looks) := by
  have hl := recG_len t
  have hc := (chgs_len t.own).2 (hs.own t (find_mem h.find))
  have hfit : fitsG s t := ⟨by omega, by rw [hq.len]; unfold secs; omega⟩
  have hcom : comG s t.id = { endsG s t.id with d := (addW s.d s.at_ (frame (recG t)) (secs (recG t).length)).sync, at_ := s.at_ + secs (recG t).length, rows := changeR s.rows t.own, nums := keptG s.nums t.num t.own } := by
    simp only [comG, h.find, commG, if_pos hfit]
  refine ⟨by simp only [comE, h.find, if_pos hfit], by simp only [comN, h.find, if_pos hfit], by rw [hcom], by rw [hcom], by rw [hcom]; rfl, comG_txs h.find, ?_, ?_, ?_⟩
  · rw [hcom]; exact hq.add _ _ _
  · rw [hcom]; show s.at_ + secs (recG t).length ≤ _; unfold secs; omega
  · rw [hcom]; intro y hy; exact (List.mem_filter.1 hy).1
theorem keptG_num {nums : List (ByteArray × UInt32)} {num : UInt32} {p : UInt32 → Prop} (h : ∀ y ∈ nums, p y.2) (hn : p num) : ∀ cs : List ChgM, ∀ y ∈ keptG nums num cs, p y.2 := by
  refine snoc_ind h fun cs c ih => ?_
  rw [keptG_snoc]
  intro y hy
  unfold setN at hy
  split at hy
  · rcases List.mem_or_eq_of_mem_set hy with hy | rfl
    · exact ih y hy
    · exact hn
  · rcases List.mem_append.1 hy with hy | hy
    · exact ih y hy
    · simp at hy; subst hy; exact hn
theorem changeR_keys {rows : List RowM} (hr : Rising rows) (h : KeysOk rows) {cs : List ChgM} (hc : ∀ c ∈ cs, chgOk c = true) : KeysOk (changeR rows cs) := by
  revert hc
  refine snoc_ind (p := fun cs => (∀ c ∈ cs, chgOk c = true) → KeysOk (changeR rows cs)) (fun _ => h) (fun cs c ih hc => ?_) cs
  rw [changeR_snoc]
  intro r hm
  rcases (mem_applyC (changeR_rising cs hr).1 c r).1 hm with ⟨_, rfl⟩ | ⟨hm, _⟩
  · have := hc c (by simp); unfold chgOk at this; simp at this; exact this.1
  · exact ih (fun c hc' => hc c (by simp [hc'])) r hm
theorem key_of {x : OpM} (h : opOk x = true) : keyOk x.key = true := by unfold opOk at h; simp only [Bool.and_eq_true] at h; exact h.1.1.2
end Go.SL
