/- GammasRise in plain Lean: transactions one behind the other, in the order in which they began. -/
import Derived.Test.YtdfomffmfnpfoaaGreatMD
set_option linter.unusedSimpArgs false
set_option linter.unusedVariables false
namespace Go.SL
open Go
def ridU (i : Nat) : UInt32 := UInt32.ofNat (100 - i)
def rnumU (i : Nat) : UInt32 := UInt32.ofNat (i + 1)
theorem rid_nat {i : Nat} (h : i ≤ 100) : (ridU i).toNat = 100 - i := by simp [ridU]; omega
theorem rnum_nat {i : Nat} (h : i ≤ 100) : (rnumU i).toNat = i + 1 := by simp [rnumU]; omega
theorem rid_inj {i j : Nat} (hi : i ≤ 100) (hj : j ≤ 100) (h : ridU i = ridU j) : i = j := by
  have := congrArg UInt32.toNat h
  rw [rid_nat hi, rid_nat hj] at this; omega
/-- Transactions that have begun, and done nothing yet; the first of them is the 'i'th. -/
def Begun : Nat → List TxV → Prop
  | _, [] => True
  | i, t :: ts => t.id = ridU i ∧ t.num = rnumU i ∧ t.own = [] ∧ Begun (i + 1) ts
theorem begun_app : ∀ {ts : List TxV} {i : Nat} {t : TxV}, Begun i ts → t.id = ridU (i + ts.length) → t.num = rnumU (i + ts.length) → t.own = [] → Begun i (ts ++ [t])
  | [], i, t, _, h1, h2, h3 => ⟨by simpa using h1, by simpa using h2, h3, trivial⟩
  | x :: ts, i, t, ⟨a, b, c, h⟩, h1, h2, h3 => ⟨a, b, c, begun_app h (by rw [h1]; congr 1; simp; omega) (by rw [h2]; congr 1; simp; omega) h3⟩
theorem begun_mem : ∀ {ts : List TxV} {i : Nat}, Begun i ts → ∀ t ∈ ts, ∃ j, i ≤ j ∧ j < i + ts.length ∧ t.id = ridU j ∧ t.own = []
  | x :: ts, i, ⟨a, b, c, h⟩, t, ht => by
    rcases List.mem_cons.1 ht with rfl | ht
    · exact ⟨i, Nat.le_refl _, by simp, a, c⟩
    · obtain ⟨j, h1, h2, h3, h4⟩ := begun_mem h t ht
      exact ⟨j, by omega, by simp; omega, h3, h4⟩
structure RiseB (s : GamV) (i : Nat) : Prop where
  ok : GamOk s 0
  begun : Begun 0 s.txs
  len : s.txs.length = i
  hrows : s.rows = []
  nums : s.nums = []
  looks : s.looks = []
  last : s.last = UInt32.ofNat i
  quiet : Quiet s.d
  hat : s.at_ = 0
theorem RiseB.first {d : DiskM} (h : Quiet d) : RiseB (gam0 d) 0 := ⟨gam0_ok h, trivial, rfl, rfl, rfl, rfl, rfl, h, rfl⟩
theorem RiseB.beg {s : GamV} {i : Nat} (h : RiseB s i) (hi : i < 30) (q : Nat) : begE s (ridU i) = 0 ∧ RiseB (begG s (ridU i) q) (i + 1) := by
  have hf : findT s.txs (ridU i) = none := by
    unfold findT
    rw [List.find?_eq_none]
    intro t ht
    obtain ⟨j, _, h2, h3, _⟩ := begun_mem h.begun t ht
    rw [h.len] at h2
    simp only [decide_eq_true_eq]
    rw [h3]
    intro e
    have := rid_inj (by omega) (by omega) e
    omega
  have hE : begE s (ridU i) = 0 := by
    unfold begE
    rw [if_neg (by intro e; have := congrArg UInt32.toNat e; rw [rid_nat (by omega)] at this; simp at this; omega), hf]
    simp [h.len]; omega
  have hG := h.ok.beg (ridU i) q
  have hB : begG s (ridU i) q = { s with last := s.last + 1, txs := s.txs ++ [⟨ridU i, s.last + 1, [], q, ⟨none, 0, 0⟩⟩] } := by rw [begG, if_pos hE]
  rw [hB] at hG ⊢
  have hn : s.last + 1 = UInt32.ofNat (i + 1) := by rw [h.last]; simp
  exact ⟨hE, hG, begun_app h.begun (by simp [h.len]) (by rw [h.len, Nat.zero_add]; exact hn) rfl, by simp [h.len], h.hrows, h.nums, h.looks, hn, h.quiet, h.hat⟩
/-- The 'i'th is at work, behind it the others wait. -/
structure RiseI (i : Nat) (rest : List TxV) (rows : List RowM) (s : GamV) (t : TxV) (b : Nat) (done : List OpM) (told : List (List RowM)) : Prop where
  ok : GamOk s b
  calm : Calm s t
  id : t.id = ridU i
  num : t.num = rnumU i
  txs : s.txs = t :: rest
  begun : Begun (i + 1) rest
  hrows : s.rows = rows
  nums : ∀ y ∈ s.nums, y.2.toNat ≤ i
  looks : ∀ y ∈ s.looks, y.1.toNat ≤ i + 1
  quiet : Quiet s.d
  hat : s.at_ ≤ 32 * i
  does : Does rows t.own done told
section
variable {i : Nat} {rest : List TxV} {rows : List RowM} {s : GamV} {t : TxV} {b : Nat} {done : List OpM} {told : List (List RowM)}
theorem RiseI.step (h : RiseI i rest rows s t b done told) (x : OpM) :
    (opOk x = false ∧ doG s (ridU i) x = .err s 1) ∨ (opOk x = true ∧ writes x = true ∧ doG s (ridU i) x = .put t (chgOf x)) ∨ (opOk x = true ∧ writes x = false ∧ doG s (ridU i) x = .look t) := by
  cases hx : opOk x with
  | false => exact .inl ⟨rfl, doG_bad hx⟩
  | true =>
    rcases h.calm.do_ hx with ⟨hw, e⟩ | ⟨hw, e⟩ <;> rw [h.id] at e
    · exact .inr (.inl ⟨rfl, hw, e⟩)
    · exact .inr (.inr ⟨rfl, hw, e⟩)
theorem RiseI.put (h : RiseI i rest rows s t b done told) (hb : b + 1 ≤ 1000000000) {x : OpM} (hx : opOk x = true) (hw : writes x = true) (sv : SV) :
    RiseI i rest rows (putG s t.id (chgOf x) sv) { t with own := t.own ++ [chgOf x], sv := sv } (b + 1) (done ++ [x]) (told ++ [[]]) := by
  have hp : (putG s t.id (chgOf x) sv).txs = { t with own := t.own ++ [chgOf x], sv := sv } :: rest := by
    show putT s.txs t.id (chgOf x) sv = _
    rw [h.txs]; exact putT_mid (A := []) (h.txs ▸ h.ok.ids) _ sv
  exact ⟨h.ok.put hb (by rw [h.txs]; simp) _ (chgOf_ok hx hw) sv, h.calm.put h.ok _ sv, h.id, h.num, hp, h.begun, h.hrows, h.nums, h.looks, h.quiet, h.hat, h.does.write hx hw⟩
theorem RiseI.look (h : RiseI i rest rows s t b done told) (hi : i ≤ 100) (hb : b + 1 ≤ 1000000000) {x : OpM} (hx : opOk x = true) (hw : writes x = false) :
    RiseI i rest rows (lookG s t (spanOf x)) t (b + 1) (done ++ [x]) (told ++ [scanR (changeR s.rows t.own) (spanOf x) 256]) :=
  ⟨h.ok.look hb t _, h.calm.look _, h.id, h.num, h.txs, h.begun, h.hrows, h.nums, fun y hy => by
    rcases List.mem_append.1 hy with hy | hy
    · exact h.looks y hy
    · simp at hy; subst hy; rw [h.num, rnum_nat hi]; exact Nat.le_refl _, h.quiet, h.hat, by rw [h.hrows]; exact h.does.read (h.hrows ▸ h.ok.rising) hx hw⟩
theorem RiseI.mono (h : RiseI i rest rows s t b done told) {c : Nat} (hb : b ≤ c) (hc : c ≤ 1000000000) : RiseI i rest rows s t c done told :=
  ⟨h.ok.mono hb hc, h.calm, h.id, h.num, h.txs, h.begun, h.hrows, h.nums, h.looks, h.quiet, h.hat, h.does⟩
/-- Between two of them. -/
structure RiseM (i : Nat) (rest : List TxV) (rows : List RowM) (s : GamV) (b : Nat) : Prop where
  ok : GamOk s b
  txs : s.txs = rest
  begun : Begun i rest
  hrows : s.rows = rows
  nums : ∀ y ∈ s.nums, y.2.toNat ≤ i
  looks : ∀ y ∈ s.looks, y.1.toNat ≤ i
  quiet : Quiet s.d
  hat : s.at_ ≤ 32 * i
theorem RiseB.go {n : Nat} (h : RiseB s n) : RiseM 0 s.txs [] s 0 := ⟨h.ok, rfl, h.begun, h.hrows, by simp [h.nums], by simp [h.looks], h.quiet, by rw [h.hat]; exact Nat.zero_le _⟩
theorem RiseM.next (h : RiseM i rest rows s b) {t : TxV} {ts : List TxV} (hr : rest = t :: ts) (hi : i ≤ 30) (hl : ts.length ≤ 30) : RiseI i ts rows s t b [] [] := by
  subst hr
  obtain ⟨h1, h2, h3, h4⟩ := h.begun
  refine ⟨h.ok, ⟨by rw [h.txs]; simp [findT], fun o ho hn => ?_, fun y hy hlt => ?_, fun y hy hlt => ?_⟩, h1, h2, h.txs, h4, h.hrows, h.nums, fun y hy => Nat.le_succ_of_le (h.looks y hy), h.quiet, h.hat, h3 ▸ Does.nil rows⟩
  · rw [h.txs] at ho
    rcases List.mem_cons.1 ho with rfl | ho
    · exact absurd rfl hn
    · obtain ⟨_, _, _, _, h5⟩ := begun_mem h4 o ho; exact h5
  · have := h.nums y hy; rw [UInt32.lt_iff_toNat_lt, h2, rnum_nat (by omega)] at hlt; omega
  · have := h.looks y hy; rw [UInt32.lt_iff_toNat_lt, h2, rnum_nat (by omega)] at hlt; omega
theorem RiseI.com (h : RiseI i rest rows s t b done told) (hi : i ≤ 30) (hown : t.own.length ≤ 30) :
    comE s (ridU i) = 0 ∧ comN s (ridU i) = rnumU i ∧ RiseM (i + 1) rest (runM rows done).2 (comG s (ridU i)) b := by
  obtain ⟨e1, e2, e3, e4, e5, e6, e7, e8, e9⟩ := calm_com h.calm h.ok h.quiet hown (by decide) (by have := h.hat; omega)
  have hg := h.ok.com t.id
  rw [h.id] at e1 e2 e3 e4 e5 e6 e7 e8 e9 hg
  refine ⟨e1, by rw [e2, h.num], hg, ?_, h.begun, by rw [e3, h.hrows, h.does.left], ?_, fun y hy => h.looks y (e9 y hy), e7, by have := h.hat; omega⟩
  · rw [e6, h.txs]; simp [delT, h.id]
  · rw [e4]
    refine keptG_num (p := fun n => n.toNat ≤ i + 1) (fun y hy => Nat.le_succ_of_le (h.nums y hy)) ?_ _
    rw [h.num, rnum_nat (by omega)]; exact Nat.le_refl _
theorem RiseI.own_le (h : RiseI i rest rows s t b done told) : t.own.length ≤ done.length := h.does.own_le
end
end Go.SL
