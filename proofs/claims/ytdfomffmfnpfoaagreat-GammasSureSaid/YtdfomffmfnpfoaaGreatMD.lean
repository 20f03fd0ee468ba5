/- GammasAlone in plain Lean: a transaction alone. -/
import Derived.Test.YtdfomffmfnpfoaaGreatMC
set_option linter.unusedSimpArgs false
set_option linter.unusedVariables false
namespace Go.SL
open Go
theorem GamOk.mono {s : GamV} {b c : Nat} (h : GamOk s b) (hb : b ≤ c) (hc : c ≤ 1000000000) : GamOk s c :=
  ⟨h.dok, h.hat, h.waits, h.rising, Nat.le_trans h.sum hb, Nat.le_trans h.looks hb, h.ids, h.own, hc⟩
structure AloneI (n : UInt32) (rows : List RowM) (at0 : Nat) (s : GamV) (t : TxV) (b : Nat) (done : List OpM) (told : List (List RowM)) : Prop where
  ok : GamOk s b
  calm : Calm s t
  id : t.id = n
  txs : s.txs = [t]
  hrows : s.rows = rows
  quiet : Quiet s.d
  at_ : s.at_ ≤ at0
  does : Does rows t.own done told
theorem AloneI.step {n : UInt32} {rows : List RowM} {at0 : Nat} {s : GamV} {t : TxV} {b : Nat} {done : List OpM} {told : List (List RowM)} (h : AloneI n rows at0 s t b done told) (x : OpM) :
    (opOk x = false ∧ doG s n x = .err s 1) ∨ (opOk x = true ∧ writes x = true ∧ doG s n x = .put t (chgOf x)) ∨ (opOk x = true ∧ writes x = false ∧ doG s n x = .look t) := by
  cases hx : opOk x with
  | false => exact .inl ⟨rfl, doG_bad hx⟩
  | true =>
    rcases h.calm.do_ hx with ⟨hw, e⟩ | ⟨hw, e⟩ <;> rw [h.id] at e
    · exact .inr (.inl ⟨rfl, hw, e⟩)
    · exact .inr (.inr ⟨rfl, hw, e⟩)
theorem AloneI.put {n : UInt32} {rows : List RowM} {at0 : Nat} {s : GamV} {t : TxV} {b : Nat} {done : List OpM} {told : List (List RowM)} (h : AloneI n rows at0 s t b done told) (hb : b + 1 ≤ 1000000000) {x : OpM} (hx : opOk x = true) (hw : writes x = true) (sv : SV) :
    AloneI n rows at0 (putG s t.id (chgOf x) sv) { t with own := t.own ++ [chgOf x], sv := sv } (b + 1) (done ++ [x]) (told ++ [[]]) :=
  ⟨h.ok.put hb (by rw [h.txs]; simp) _ (chgOf_ok hx hw) sv, h.calm.put h.ok _ sv, h.id, by simp [putG, putT, h.txs], h.hrows, h.quiet, h.at_, h.does.write hx hw⟩
theorem AloneI.look {n : UInt32} {rows : List RowM} {at0 : Nat} {s : GamV} {t : TxV} {b : Nat} {done : List OpM} {told : List (List RowM)} (h : AloneI n rows at0 s t b done told) (hb : b + 1 ≤ 1000000000) {x : OpM} (hx : opOk x = true) (hw : writes x = false) :
    AloneI n rows at0 (lookG s t (spanOf x)) t (b + 1) (done ++ [x]) (told ++ [scanR (changeR s.rows t.own) (spanOf x) 256]) :=
  ⟨h.ok.look hb t _, h.calm.look _, h.id, h.txs, h.hrows, h.quiet, h.at_, by rw [h.hrows]; exact h.does.read (h.hrows ▸ h.ok.rising) hx hw⟩
theorem AloneI.mono {n : UInt32} {rows : List RowM} {at0 : Nat} {s : GamV} {t : TxV} {b c : Nat} {done : List OpM} {told : List (List RowM)} (h : AloneI n rows at0 s t b done told) (hb : b ≤ c) (hc : c ≤ 1000000000) : AloneI n rows at0 s t c done told :=
  ⟨h.ok.mono hb hc, h.calm, h.id, h.txs, h.hrows, h.quiet, h.at_, h.does⟩
theorem AloneI.com {n : UInt32} {rows : List RowM} {at0 : Nat} {s : GamV} {t : TxV} {b : Nat} {done : List OpM} {told : List (List RowM)} (h : AloneI n rows at0 s t b done told) (hb : t.own.length ≤ 80) (ha : at0 ≤ 1000) :
    comE s n = 0 ∧ (comG s n).rows = (runM rows done).2 ∧ (comG s n).txs = [] ∧ (comG s n).last = s.last ∧ (comG s n).nums = keptG s.nums t.num t.own ∧ Quiet (comG s n).d ∧ (comG s n).at_ ≤ at0 + 82 ∧ (∀ y ∈ (comG s n).looks, y ∈ s.looks) := by
  obtain ⟨e1, e2, e3, e4, e5, e6, e7, e8, e9⟩ := calm_com h.calm h.ok h.quiet hb (by decide) (Nat.le_trans h.at_ ha)
  rw [h.id] at e1 e2 e3 e4 e5 e6 e7 e8 e9
  exact ⟨e1, by rw [e3, h.hrows, h.does.left], by rw [e6, h.txs]; simp [delT, h.id], e5, e4, e7, by have := h.at_; omega, e9⟩
theorem AloneI.abo {n : UInt32} {rows : List RowM} {at0 : Nat} {s : GamV} {t : TxV} {b : Nat} {done : List OpM} {told : List (List RowM)} (h : AloneI n rows at0 s t b done told) : aboE s n = 0 ∧ (aboG s n).rows = rows := by
  have hf := h.calm.find
  rw [h.id] at hf
  simp [aboE, aboG, hf, endsG, h.hrows]
theorem AloneI.first {d : DiskM} (hq : Quiet d) (q : Nat) : AloneI 1 [] 0 ⟨d, 0, [], [], 1, [], [tx1 q]⟩ (tx1 q) 0 [] [] :=
  ⟨(late_beg1 d q).2 ▸ (gam0_ok hq).beg 1 q, ⟨by simp [findT, tx1], by simp, by simp, by simp⟩, rfl, rfl, rfl, hq, Nat.le_refl _, Does.nil _⟩
theorem AloneI.second {s : GamV} {b : Nat} (hs : GamOk s b) (ht : s.txs = []) (hl : s.last = 1) (hn : ∀ y ∈ s.nums, y.2 ≤ 1) (hk : ∀ y ∈ s.looks, y.1 ≤ 1) (hq : Quiet s.d) {at0 : Nat} (ha : s.at_ ≤ at0) (q : Nat) :
    begE s 2 = 0 ∧ AloneI 2 s.rows at0 (begG s 2 q) (tx2 q) b [] [] := by
  have hE : begE s 2 = 0 := by simp [begE, ht, findT]
  have hB : begG s 2 q = { s with last := 2, txs := [tx2 q] } := by rw [begG, if_pos hE, ht, hl]; rfl
  have hG := hs.beg 2 q
  rw [hB] at hG ⊢
  refine ⟨hE, hG, ⟨by simp [findT, tx2], by simp, fun y hy hlt => ?_, fun y hy hlt => ?_⟩, rfl, rfl, rfl, hq, ha, Does.nil _⟩
  · have := hn y hy; simp only [UInt32.lt_iff_toNat_lt, UInt32.le_iff_toNat_le, tx2] at *; simp at *; omega
  · have := hk y hy; simp only [UInt32.lt_iff_toNat_lt, UInt32.le_iff_toNat_le, tx2] at *; simp at *; omega
theorem doneO_told {rows : List RowM} (x : OpM) : (doneO rows x).1.length ≤ 256 := by
  unfold doneO scanR
  split
  · simp; omega
  · split
    · simp; omega
    · split <;> simp
theorem runM_told (rows : List RowM) : ∀ l : List OpM, ∀ r ∈ (runM rows l).1, r.length ≤ 256 := by
  refine snoc_ind (by simp [runM_nil]) fun l x ih r hr => ?_
  rw [runM_snoc] at hr
  rcases List.mem_append.1 hr with hr | hr
  · exact ih r hr
  · simp at hr; subst hr; exact doneO_told x
end Go.SL
