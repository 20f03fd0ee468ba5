/- VD VE UA NF NG UB: rules and walks, several texts in one. -/
import Derived.Test.YtdpmpcoekkhceaaGreatQC21
import Derived.Test.YtdpmpcoekkhceaaGreatProg
import Derived.KernelRfl
set_option linter.unusedSimpArgs false
set_option linter.unusedVariables false
namespace Go.SL.VD
open Go Go.Proofs Go.SL
theorem a103 : aggOf Tryz.prog 103 = some none := by kernel_rfl
theorem a108 : aggOf Tryz.prog 108 = some (some 3) := by kernel_rfl
theorem a22 : aggOf Tryz.prog 22 = some none := by kernel_rfl
theorem a4 : aggOf Tryz.prog 4 = some none := by kernel_rfl
theorem a40 : aggOf Tryz.prog 40 = some (some 2) := by kernel_rfl
theorem a69 : aggOf Tryz.prog 69 = some (some 2) := by kernel_rfl
theorem a9 : aggOf Tryz.prog 9 = some none := by kernel_rfl
theorem f108_0 : fldOf Tryz.prog 108 0 = some 0 := by kernel_rfl
theorem f108_1 : fldOf Tryz.prog 108 1 = some 1 := by kernel_rfl
theorem f108_2 : fldOf Tryz.prog 108 2 = some 2 := by kernel_rfl
theorem f40_0 : fldOf Tryz.prog 40 0 = some 0 := by kernel_rfl
theorem k142 : callable Tryz.prog 142 = true := by kernel_rfl
theorem k178 : callable Tryz.prog 178 = true := by kernel_rfl
theorem k63 : callable Tryz.prog 63 = true := by kernel_rfl
theorem k90 : callable Tryz.prog 90 = true := by kernel_rfl
theorem mixedOk : Tryz.prog.follows .mixedOrders = true := by kernel_rfl
theorem p40 : placesOf Tryz.prog 40 = some [(0, 1), (1, 1)] := by kernel_rfl
theorem p69 : placesOf Tryz.prog 69 = some [(0, 1), (1, 1)] := by kernel_rfl
theorem s108 : szOf Tryz.prog 108 = some 3 := by kernel_rfl
theorem s40 : szOf Tryz.prog 40 = some 2 := by kernel_rfl
theorem sl103 : slOf Tryz.prog 103 = some (108, 3, 24) := by kernel_rfl
theorem sl29 : slOf Tryz.prog 29 = some (40, 2, 24) := by kernel_rfl
theorem z108 : zeroOf Tryz.prog 108 = some [.string .empty, .int .u32 0, .bool false] := by kernel_rfl
theorem z40 : zeroOf Tryz.prog 40 = some [.string .empty, .int .u32 0] := by kernel_rfl
theorem z69 : zeroOf Tryz.prog 69 = some [.string .empty, .string .empty] := by kernel_rfl
end Go.SL.VD
namespace Go.SL
open Go Go.Proofs VD
end Go.SL
set_option linter.unusedSimpArgs false
set_option linter.unusedVariables false
namespace Go.SL.VE
open Go Go.Proofs Go.SL
theorem a103 : aggOf Tryz.prog 103 = some none := by kernel_rfl
theorem a114 : aggOf Tryz.prog 114 = some none := by kernel_rfl
theorem a22 : aggOf Tryz.prog 22 = some none := by kernel_rfl
theorem a31 : aggOf Tryz.prog 31 = some (some 1) := by kernel_rfl
theorem a34 : aggOf Tryz.prog 34 = some none := by kernel_rfl
theorem a36 : aggOf Tryz.prog 36 = some (some 4) := by kernel_rfl
theorem a69 : aggOf Tryz.prog 69 = some (some 2) := by kernel_rfl
theorem a9 : aggOf Tryz.prog 9 = some none := by kernel_rfl
theorem a96 : aggOf Tryz.prog 96 = some none := by kernel_rfl
theorem f36_0 : fldOf Tryz.prog 36 0 = some 0 := by kernel_rfl
theorem f36_1 : fldOf Tryz.prog 36 1 = some 1 := by kernel_rfl
theorem f36_3 : fldOf Tryz.prog 36 3 = some 3 := by kernel_rfl
theorem k48 : callable Tryz.prog 48 = true := by kernel_rfl
theorem k49 : callable Tryz.prog 49 = true := by kernel_rfl
theorem k55 : callable Tryz.prog 55 = true := by kernel_rfl
theorem k56 : callable Tryz.prog 56 = true := by kernel_rfl
theorem k57 : callable Tryz.prog 57 = true := by kernel_rfl
theorem k80 : callable Tryz.prog 80 = true := by kernel_rfl
theorem k82 : callable Tryz.prog 82 = true := by kernel_rfl
theorem mixedOk : Tryz.prog.follows .mixedOrders = true := by kernel_rfl
theorem p108 : placesOf Tryz.prog 108 = some [(0, 1), (1, 1), (2, 1)] := by kernel_rfl
theorem p31 : placesOf Tryz.prog 31 = some [(0, 1)] := by kernel_rfl
theorem p69 : placesOf Tryz.prog 69 = some [(0, 1), (1, 1)] := by kernel_rfl
theorem s103 : szOf Tryz.prog 103 = some 1 := by kernel_rfl
theorem s31 : szOf Tryz.prog 31 = some 1 := by kernel_rfl
theorem s69 : szOf Tryz.prog 69 = some 2 := by kernel_rfl
theorem sl103 : slOf Tryz.prog 103 = some (108, 3, 24) := by kernel_rfl
theorem sl155 : slOf Tryz.prog 155 = some (114, 1, 24) := by kernel_rfl
theorem z108 : zeroOf Tryz.prog 108 = some [.string .empty, .int .u32 0, .bool false] := by kernel_rfl
theorem z31 : zeroOf Tryz.prog 31 = some [.slice none 0 0] := by kernel_rfl
theorem z69 : zeroOf Tryz.prog 69 = some [.string .empty, .string .empty] := by kernel_rfl
end Go.SL.VE
namespace Go.SL
open Go Go.Proofs VE
end Go.SL
set_option linter.unusedSimpArgs false
set_option linter.unusedVariables false
namespace Go.SL.UA
open Go Go.Proofs Go.SL
theorem a36 : aggOf Tryz.prog 36 = some (some 4) := by kernel_rfl
theorem k41 : callable Tryz.prog 41 = true := by kernel_rfl
theorem k45 : callable Tryz.prog 45 = true := by kernel_rfl
theorem k61 : callable Tryz.prog 61 = true := by kernel_rfl
theorem p36 : placesOf Tryz.prog 36 = some [(0, 1), (1, 1), (2, 1), (3, 1)] := by kernel_rfl
theorem pt48 : isPtr Tryz.prog 48 = true := by kernel_rfl
theorem s36 : szOf Tryz.prog 36 = some 4 := by kernel_rfl
theorem sl73 : slOf Tryz.prog 73 = some (77, 8, 72) := by kernel_rfl
theorem z36 : zeroOf Tryz.prog 36 = some [.int .u8 0, .string .empty, .string .empty, .int .u32 0] := by kernel_rfl
end Go.SL.UA
namespace Go.SL
open Go Go.Proofs UA
theorem opened_spec {g : World} : Spec Tryz.prog g 22 [] [] fun K R => ∀ dp p, K (.tuple #[.pointer (some ⟨dp, 0, none⟩), .pointer (some ⟨p, 0, none⟩)]) (As p dp stF :: TxsU TPA [] :: R) := by
  refine Spec.intro Tryz.func22 rfl Tryz.ntmps22 rfl fun R K hK => ?_
  refine WP.seq ?_
  refine WP.reg ?_
  refine WL.e e_assign <| WL.e e_assign ?_
  refine WL.next ?_
  refine WP.seq ?_
  refine WP.reg ?_
  refine WL.h (h_call (New_spec 4096 (by decide)) k45 ?_)
  refine ⟨fun h => absurd h (by omega), fun _ _ dp => ?_⟩
  refine WL.e e_move <| WL.e e_extract <| WL.e e_extract <| WL.e e_assign <| WL.e e_assign ?_
  refine WL.next ?_
  refine WP.seq ?_
  refine WP.reg ?_
  refine WL.e e_move ?_
  refine WL.h (h_call (ANew_spec (d := newDisk 4096) (at0 := 0) [] DiskLogB.first (by simp) (by simp)) k41 ?_)
  intro p
  refine WL.e e_move <| WL.e e_extract <| WL.e e_extract <| WL.e e_assign <| WL.e e_assign ?_
  refine WL.next ?_
  refine WP.seq ?_
  refine WP.seq ?_
  refine WP.reg ?_
  refine WL.e e_move <| WL.e e_neq <| WL.e e_move ?_
  refine WL.bool 17 rfl (fun hg => ?_) (fun hg => ?_)
  · exact absurd hg (by decide) -- end
  · skip
    refine WL.e e_move <| WL.e e_neq <| WL.e e_pick_f ?_
    refine WL.next ?_
    refine WP.cond_f rfl ?_
    refine WP.skip ?_
    refine PO.next ?_
    refine WP.seq ?_
    refine WP.reg ?_
    refine WL.e e_move <| WL.e e_move <| WL.e e_assign <| WL.e e_assign ?_
    refine WL.next ?_
    refine WP.ret ?_
    exact PO.fin Tryz.results22 (rv_tmp (rv_tmp rv_nil)) (hK dp p)
theorem lput_spec {g : World} (k : ByteArray) (v : UInt32) : Spec Tryz.prog g 25 [.string k, .int .u32 v.toNat] [] fun K R => K (opPut k v).v R := by
  refine Spec.intro Tryz.func25 rfl Tryz.ntmps25 rfl fun R K hK => ?_
  refine WP.seq ?_
  refine WP.reg ?_
  refine WL.h (h_alloc z36 fun b1 => ?_)
  refine WL.next ?_
  refine WP.seq ?_
  refine WP.reg ?_
  refine WL.e e_move <| WL.e e_move <| WL.e (e_build z36 p36 (.o (.const (.int .u8 2)) rfl <| .o (.tmp 5) rfl <| .z (.string .empty) <| .o (.tmp 6) rfl <| .n)) ?_
  refine WL.h' (h_store s36 ?_)
  refine WL.next ?_
  refine WP.ret ?_
  exact PO.fin Tryz.results25 (rv_cellN a36 rv_nil) hK
theorem lget_spec {g : World} (k : ByteArray) : Spec Tryz.prog g 27 [.string k] [] fun K R => K (opGet k).v R := by
  refine Spec.intro Tryz.func27 rfl Tryz.ntmps27 rfl fun R K hK => ?_
  refine WP.seq ?_
  refine WP.reg ?_
  refine WL.h (h_alloc z36 fun b1 => ?_)
  refine WL.next ?_
  refine WP.seq ?_
  refine WP.reg ?_
  refine WL.e e_move <| WL.e (e_build z36 p36 (.o (.const (.int .u8 1)) rfl <| .o (.tmp 3) rfl <| .z (.string .empty) <| .z (.int .u32 0) <| .n)) ?_
  refine WL.h' (h_store s36 ?_)
  refine WL.next ?_
  refine WP.ret ?_
  exact PO.fin Tryz.results27 (rv_cellN a36 rv_nil) hK
theorem there_nil {g : World} : Spec Tryz.prog g 61 [.pointer none] [] fun K R => K (.bool false) R := by
  refine Spec.intro Tryz.func61 rfl Tryz.ntmps61 rfl fun R K hK => ?_
  refine WP.seq ?_
  refine WP.reg ?_
  refine WL.e e_assign ?_
  refine WL.next ?_
  refine WP.seq ?_
  refine WP.reg ?_
  refine WL.e e_move <| WL.e (e_pne pt48) <| WL.e e_move ?_
  refine WL.bool 5 rfl (fun h => ?_) (fun h => ?_)
  · cases h -- end
  · skip
    refine WL.skip <| WL.skip <| WL.skip <| WL.skip <| WL.skip <| WL.e e_pick_f <| WL.e e_assign ?_
    refine WL.next ?_
    refine WP.ret ?_
    exact PO.fin Tryz.results61 (rv_tmp rv_nil) hK
theorem Begin_nil {g : World} (n : UInt32) : Spec Tryz.prog g 23 [.pointer none, .int .u32 n.toNat] [] fun K R => K (.int .i64 2) R := by
  refine Spec.intro Tryz.func23 rfl Tryz.ntmps23 rfl fun R K hK => ?_
  refine WP.seq ?_
  refine WP.reg ?_
  refine WL.e e_assign ?_
  refine WL.next ?_
  refine WP.seq ?_
  refine WP.block ?_
  refine WP.seq ?_
  refine WP.reg ?_
  refine WL.e e_move ?_
  refine WL.h (h_call (there_nil) k61 ?_)
  refine WL.e e_not <| WL.e e_assign ?_
  refine WL.next ?_
  refine WP.cond_t rfl ?_
  refine WP.seq ?_
  refine WP.reg ?_
  refine WL.e e_assign ?_
  refine WL.next ?_
  refine WP.ret ?_
  refine PO.blockR ?_
  refine PO.past nofun ?_
  exact PO.fin Tryz.results23 (rv_tmp rv_nil) hK
theorem great_spec {g : World} {A : HP} {u : Value} {xs : List ActM} (hA : RL A 8 ActM.c u xs) : Spec Tryz.prog g 36 [u] [A] fun K R => K (.bool (decide (150 < xs.length))) (A :: R) := by
  refine Spec.intro Tryz.func36 rfl Tryz.ntmps36 rfl fun R K hK => ?_
  refine WP.seq ?_
  refine WP.reg ?_
  refine WL.e e_assign ?_
  refine WL.next ?_
  refine WP.seq ?_
  refine WP.reg ?_
  refine WL.e e_move ?_
  refine WL.e (el_len (xs := xs) sl73 hA) <| WL.e e_gtr <| WL.e e_assign ?_
  refine WL.next ?_
  refine WP.ret ?_
  exact PO.finE Tryz.results36 (rv_tmp rv_nil) (by simp; omega) hK
end Go.SL
/- A store that locks, in plain Lean: a few things, one behind the other. -/
set_option linter.unusedSimpArgs false
set_option linter.unusedVariables false
set_option linter.unusedSectionVars false
namespace Go.SL
open Go
structure AtA (s : StV) (ts : List TxT) (H : List (List ChgM)) (L : LkT) (b : Nat) : Prop where
  at_ : AtS alphaG s ts H b
  lk : s.locks = L
section
variable {s : StV} {ts : List TxT} {H : List (List ChgM)} {L : LkT} {b : Nat}
theorem AtA.first : AtA stF [] [] [] 0 := ⟨AtS.first alp_first, rfl⟩
theorem AtA.ok (h : AtA s ts H L b) : AlphaOk s b := h.at_.ok
theorem AtA.beg (h : AtA s ts H L b) (n : UInt32) (q : Nat) (h0 : n ≠ 0) (hf : findU ts n = none) (hl : ts.length < 32) :
    begE s n = 0 ∧ AtA (begS s n q) (ts ++ [⟨n, q, ⟨UInt32.ofNat H.length, [], [], []⟩⟩]) H L b := by
  obtain ⟨e, h2⟩ := h.at_.beg n q h0 hf hl
  exact ⟨e, h2, by rw [begS, if_pos e]; exact h.lk⟩
theorem AtA.put (h : AtA s ts H L b) {n : UInt32} {t : TxT} (hf : findU ts n = some t) {x : OpM} (hx : opOk x = true) (hm : meet (spanOf x) (spanOf x) = true) (hw : writes x = true) (hno : wayL L n (spanOf x) true = []) (hb : b ≤ 1000) :
    ∃ s', doA s n x = .put s' ∧ AtA s' (setU ts n { t.x with own := t.x.own ++ [chgOf x], waits := [] }) H (lockS L n (spanOf x) true) (b + 1) := by
  have hf' : findU s.txs n = some t := by rw [h.at_.txs]; exact hf
  have e : doA s n x = .put { s with locks := lockS s.locks n (spanOf x) true, txs := setU s.txs n { t.x with own := t.x.own ++ [chgOf x], waits := [] } } := by simp [doA, hx, hf', hm, hw, h.lk, hno]
  refine ⟨_, e, ⟨?_, ?_, h.at_.his, h.at_.at_⟩, by rw [h.lk]⟩
  · obtain ⟨_, _, _, _, _, _, _, _, _, hok, _⟩ := alphaG.put h.at_.ok (by omega) e
    exact hok
  · show setU s.txs n _ = _
    rw [h.at_.txs]
theorem AtA.get (h : AtA s ts H L b) {n : UInt32} {t : TxT} (hf : findU ts n = some t) {x : OpM} (hx : opOk x = true) (hm : meet (spanOf x) (spanOf x) = true) (hw : writes x = false) (hno : wayL L n (spanOf x) false = []) (hb : b ≤ 1000) :
    ∃ s', doA s n x = .look s' (scanR (changeR (rowsN H H.length) t.x.own) (spanOf x) 256) ∧ AtA s' (setU ts n { t.x with waits := [] }) H (lockS L n (spanOf x) false) (b + 1) := by
  have hf' : findU s.txs n = some t := by rw [h.at_.txs]; exact hf
  have e : doA s n x = .look { s with locks := lockS s.locks n (spanOf x) false, txs := setU s.txs n { t.x with waits := [] } } (scanR (changeR s.rows t.x.own) (spanOf x) 256) := by simp [doA, hx, hf', hm, hw, h.lk, hno]
  refine ⟨{ s with locks := lockS s.locks n (spanOf x) false, txs := setU s.txs n { t.x with waits := [] } }, e.trans (by rw [h.at_.rows]), ⟨?_, ?_, h.at_.his, h.at_.at_⟩, by show lockS s.locks _ _ _ = _; rw [h.lk]⟩
  · obtain ⟨_, _, _, _, _, _, _, _, _, hok, _⟩ := alphaG.look h.at_.ok (by omega) e
    exact hok
  · show setU s.txs n _ = _
    rw [h.at_.txs]
theorem AtA.wait (h : AtA s ts H L b) {n : UInt32} {t : TxT} (hf : findU ts n = some t) {x : OpM} (hx : opOk x = true) (hm : meet (spanOf x) (spanOf x) = true) (hno : 0 < (wayL L n (spanOf x) (writes x)).length) (hr : ringB (setU ts n { t.x with waits := [] }) n (wayL L n (spanOf x) (writes x)) = false) :
    ∃ s', doA s n x = .err s' 8 ∧ AtA s' (setU ts n { t.x with waits := wayL L n (spanOf x) (writes x) }) H L b := by
  have hf' : findU s.txs n = some t := by rw [h.at_.txs]; exact hf
  have e : doA s n x = .err { s with txs := setU s.txs n { t.x with waits := wayL L n (spanOf x) (writes x) } } 8 := by
    unfold doA; rw [hx, hf', h.lk, h.at_.txs]; simp only [if_true, hm, hno, hr, Bool.true_and, decide_true, if_false, Bool.false_eq_true]
  refine ⟨_, e, ⟨?_, ?_, h.at_.his, h.at_.at_⟩, h.lk⟩
  · obtain ⟨_, _, _, _, _, hok, _⟩ := alphaG.err h.at_.ok e
    exact hok
  · show setU s.txs n _ = _
    rw [h.at_.txs]
theorem AtA.ring (h : AtA s ts H L b) {n : UInt32} {t : TxT} (hf : findU ts n = some t) {x : OpM} (hx : opOk x = true) (hm : meet (spanOf x) (spanOf x) = true) (hno : 0 < (wayL L n (spanOf x) (writes x)).length) (hr : ringB (setU ts n { t.x with waits := [] }) n (wayL L n (spanOf x) (writes x)) = true) :
    ∃ s', doA s n x = .err s' 9 ∧ AtA s' (delU (setU ts n { t.x with waits := [] }) n) H (freeL L n) b := by
  have hf' : findU s.txs n = some t := by rw [h.at_.txs]; exact hf
  have e : doA s n x = .err (endsA { s with txs := setU s.txs n { t.x with waits := [] } } n) 9 := by
    unfold doA; rw [hx, hf', h.lk, h.at_.txs]; simp only [if_true, hm, hno, hr, Bool.true_and, decide_true]
  refine ⟨_, e, ⟨?_, ?_, h.at_.his, h.at_.at_⟩, by show freeL s.locks n = _; rw [h.lk]⟩
  · obtain ⟨_, _, _, _, _, hok, _⟩ := alphaG.err h.at_.ok e
    exact hok
  · show delU (setU s.txs n _) n = _
    rw [h.at_.txs]
theorem AtA.com (h : AtA s ts H L b) {n : UInt32} {t : TxT} (hf : findU ts n = some t) (hl : t.x.own.length ≤ 80) (hH : H.length ≤ 40) (hb : b ≤ 1000) :
    comE alphaI s n = 0 ∧ comN alphaI s n = UInt32.ofNat H.length + 1 ∧ AtS alphaG (comS alphaI s n) (delU ts n) (H ++ [t.x.own]) (b + 1) := h.at_.com hf rfl hl hH hb
end
end Go.SL
/- A store that locks, in plain Lean: what is in the way when it lives. -/
set_option linter.unusedSimpArgs false
set_option linter.unusedVariables false
set_option linter.unusedSectionVars false
namespace Go.SL
open Go
deriving instance DecidableEq for SpanM
deriving instance DecidableEq for LockM
def lA : LkT := [(1, [⟨one kA, true⟩])]
def lAB : LkT := [(1, [⟨one kA, true⟩]), (2, [⟨one kB, true⟩])]
theorem lock_1 : lockS [] 1 (one kA) true = lA := by decide +kernel
theorem lock_2 : lockS lA 2 (one kB) true = lAB := by decide +kernel
theorem way_1 : wayL [] 1 (one kA) true = [] := by decide +kernel
theorem way_2 : wayL lA 2 (one kB) true = [] := by decide +kernel
theorem way_3 : wayL lAB 1 (one kB) false = [2] := by decide +kernel
theorem way_4 : wayL lAB 2 (one kA) false = [1] := by decide +kernel
theorem free_4 : freeL lAB 2 = lA := by decide +kernel
theorem way_5 : wayL lA 1 (one kB) false = [] := by decide +kernel
open Classical in
theorem ring_3 {ts : List TxT} {n : UInt32} {way : List UInt32} (h : edgesA ts n = []) (hw : n ∉ way) : ringB ts n way = false := by
  unfold ringB
  rw [decide_eq_false_iff_not]
  rintro ⟨w, h1, h2⟩
  cases h2 with
  | refl => exact hw h1
  | tail _ h3 => rw [h] at h3; cases h3
open Classical in
theorem ring_4 {ts : List TxT} {n w : UInt32} {way : List UInt32} (h : (w, n) ∈ edgesA ts n) (hw : w ∈ way) : ringB ts n way = true := by
  unfold ringB
  rw [decide_eq_true_iff]
  exact ⟨w, hw, Reach.tail .refl h⟩
end Go.SL
set_option linter.unusedSimpArgs false
set_option linter.unusedVariables false
namespace Go.SL.UB
open Go Go.Proofs Go.SL
theorem a29 : aggOf Tryz.prog 29 = some none := by kernel_rfl
theorem f31_0 : fldOf Tryz.prog 31 0 = some 0 := by kernel_rfl
theorem k22 : callable Tryz.prog 22 = true := by kernel_rfl
theorem k23 : callable Tryz.prog 23 = true := by kernel_rfl
theorem k24 : callable Tryz.prog 24 = true := by kernel_rfl
theorem k25 : callable Tryz.prog 25 = true := by kernel_rfl
theorem k26 : callable Tryz.prog 26 = true := by kernel_rfl
theorem k27 : callable Tryz.prog 27 = true := by kernel_rfl
theorem k28 : callable Tryz.prog 28 = true := by kernel_rfl
theorem k37 : callable Tryz.prog 37 = true := by kernel_rfl
theorem pt48 : isPtr Tryz.prog 48 = true := by kernel_rfl
theorem s31 : szOf Tryz.prog 31 = some 1 := by kernel_rfl
theorem sl29 : slOf Tryz.prog 29 = some (40, 2, 24) := by kernel_rfl
theorem z31 : zeroOf Tryz.prog 31 = some [.slice none 0 0] := by kernel_rfl
end Go.SL.UB
namespace Go.SL
open Go Go.Proofs UB
set_option maxHeartbeats 4000000 in
theorem lives_spec {g : World} : Spec Tryz.prog g 29 [] [] fun K R => K (.bool true) R := by
  refine Spec.intro Tryz.func29 rfl Tryz.ntmps29 rfl fun R K hK => ?_
  refine WP.seq ?_
  refine WP.reg ?_
  refine WL.e e_assign ?_
  refine WL.next ?_
  refine WP.seq ?_
  refine WP.reg ?_
  refine WL.h (h_call (opened_spec) k22 ?_)
  intro dp p
  have h0 := AtA.first
  refine WL.e e_move <| WL.e e_extract <| WL.e e_extract <| WL.e e_assign <| WL.e e_assign ?_
  refine WL.next ?_
  refine WP.seq ?_
  refine WP.seq ?_
  refine WP.reg ?_
  refine WL.e e_move <| WL.e (e_peq pt48) <| WL.e e_move ?_
  refine WL.bool 22 rfl (fun hg => ?_) (fun hg => ?_)
  · cases hg -- end
  · skip
    refine WL.e e_move ?_
    refine WL.h (h_call (ABegin_spec (s := stF) 1) k23 ?_)
    intro q1
    obtain ⟨e0, h1⟩ := h0.beg 1 q1 (by decide) (by rfl) (by simp)
    rw [e0]
    generalize begS stF 1 q1 = s1 at h1 ⊢
    simp only [List.nil_append, List.cons_append] at h1
    refine WL.e e_neq <| WL.e e_pick_f <| WL.e e_move ?_
    refine WL.bool 27 rfl (fun hg2 => ?_) (fun hg2 => ?_)
    · exact absurd hg2 (by decide) -- end
    · skip
      refine WL.e e_move ?_
      refine WL.h (h_call (ABegin_spec (s := s1) 2) k23 ?_)
      intro q2
      obtain ⟨e0, h2⟩ := h1.beg 2 q2 (by decide) (by rfl) (by simp)
      rw [e0]
      generalize begS s1 2 q2 = s2 at h2 ⊢
      simp only [List.nil_append, List.cons_append] at h2
      refine WL.e e_neq <| WL.e e_pick_f ?_
      refine WL.next ?_
      refine WP.cond_f rfl ?_
      refine WP.skip ?_
      refine PO.next ?_
      refine WP.seq ?_
      refine WP.reg ?_
      refine WL.e e_move ?_
      refine WL.h (h_call (lput_spec kA 5) k25 ?_)
      refine WL.h (h_call (ADo_spec (s := s2) 1 (opPut kA 5) h2.ok) k24 ?_)
      obtain ⟨s3, e0, h3⟩ := h2.put (n := 1) rfl (x := opPut kA 5) (by rw [put_ok]; exact keyA) (in_one _) rfl way_1 (by decide)
      rw [e0]
      try simp only [setU, List.map_cons, List.map_nil, List.nil_append, List.cons_append] at h3
      try simp (config := { decide := true }) only [if_true, if_false] at h3
      rw [show lockS [] 1 (spanOf (opPut kA 5)) true = lA from lock_1] at h3
      refine WL.e e_move <| WL.e e_extract <| WL.e e_extract ?_
      refine WL.h (h_alloc z31 fun b1 => ?_)
      refine WL.h' (h_store s31 ?_)
      refine WL.e e_assign ?_
      refine WL.next ?_
      refine WP.seq ?_
      refine WP.reg ?_
      refine WL.e e_move ?_
      refine WL.h (h_call (lput_spec kB 1) k25 ?_)
      refine WL.h (h_call (ADo_spec (s := s3) 2 (opPut kB 1) h3.ok) k24 ?_)
      obtain ⟨s4, e0, h4⟩ := h3.put (n := 2) rfl (x := opPut kB 1) (by rw [put_ok]; exact keyB) (in_one _) rfl way_2 (by decide)
      rw [e0]
      try simp only [setU, List.map_cons, List.map_nil, List.nil_append, List.cons_append] at h4
      try simp (config := { decide := true }) only [if_true, if_false] at h4
      rw [show lockS lA 2 (spanOf (opPut kB 1)) true = lAB from lock_2] at h4
      refine WL.e e_move <| WL.e e_extract <| WL.e e_extract ?_
      refine WL.h (h_alloc z31 fun b2 => ?_)
      refine WL.h' (h_store s31 ?_)
      refine WL.e e_assign ?_
      refine WL.next ?_
      refine WP.seq ?_
      refine WP.reg ?_
      refine WL.e e_move ?_
      refine WL.h (h_call (lget_spec kB) k27 ?_)
      refine WL.h (h_call (ADo_spec (s := s4) 1 (opGet kB) h4.ok) k24 ?_)
      obtain ⟨s5, e0, h5⟩ := h4.wait (n := 1) rfl (x := opGet kB) (by rw [get_ok]; exact keyB) (in_one _) (by rw [show wayL lAB 1 (spanOf (opGet kB)) (writes (opGet kB)) = [2] from way_3]; decide) (by rw [show wayL lAB 1 (spanOf (opGet kB)) (writes (opGet kB)) = [2] from way_3]; exact ring_3 (by simp [edgesA, setU]) (by decide))
      rw [e0]
      try simp only [setU, List.map_cons, List.map_nil, List.nil_append, List.cons_append] at h5
      try simp (config := { decide := true }) only [if_true, if_false] at h5
      rw [show wayL lAB 1 (spanOf (opGet kB)) (writes (opGet kB)) = [2] from way_3] at h5
      refine WL.e e_move <| WL.e e_extract <| WL.e e_extract ?_
      refine WL.h (h_alloc z31 fun b3 => ?_)
      refine WL.h' (h_store s31 ?_)
      refine WL.e e_assign ?_
      refine WL.next ?_
      refine WP.seq ?_
      refine WP.reg ?_
      refine WL.e e_move ?_
      refine WL.h (h_call (lget_spec kA) k27 ?_)
      refine WL.h (h_call (ADo_spec (s := s5) 2 (opGet kA) h5.ok) k24 ?_)
      obtain ⟨s6, e0, h6⟩ := h5.ring (n := 2) rfl (x := opGet kA) (by rw [get_ok]; exact keyA) (in_one _) (by rw [show wayL lAB 2 (spanOf (opGet kA)) (writes (opGet kA)) = [1] from way_4]; decide) (by rw [show wayL lAB 2 (spanOf (opGet kA)) (writes (opGet kA)) = [1] from way_4]; exact ring_4 (w := 1) (by simp [edgesA, setU, findU]) (by decide))
      rw [e0]
      try simp only [setU, List.map_cons, List.map_nil, List.nil_append, List.cons_append] at h6
      try simp (config := { decide := true }) only [if_true, if_false] at h6
      rw [free_4] at h6
      refine WL.e e_move <| WL.e e_extract <| WL.e e_extract ?_
      refine WL.h (h_alloc z31 fun b4 => ?_)
      refine WL.h' (h_store s31 ?_)
      refine WL.e e_assign ?_
      refine WL.next ?_
      refine WP.seq ?_
      refine WP.reg ?_
      refine WL.e e_move ?_
      refine WL.h (h_call (lget_spec kB) k27 ?_)
      refine WL.h (h_call (ADo_spec (s := s6) 1 (opGet kB) h6.ok) k24 ?_)
      obtain ⟨s7, e0, h7⟩ := h6.get (n := 1) rfl (x := opGet kB) (by rw [get_ok]; exact keyB) (in_one _) rfl way_5 (by decide)
      have hz : scanR (changeR (rowsN ([] : List (List ChgM)) 0) [⟨kA, 5, false⟩]) (one kB) 256 = ([] : List RowM) := List.length_eq_zero_iff.1 (by decide +kernel)
      rw [e0.trans (congrArg (DoS.look s7) hz)]
      try simp only [setU, List.map_cons, List.map_nil, List.nil_append, List.cons_append] at h7
      try simp (config := { decide := true }) only [if_true, if_false] at h7
      intro a1 m1 c1
      refine WL.e e_move <| WL.e e_extract <| WL.e e_extract ?_
      refine WL.h (h_alloc z31 fun b5 => ?_)
      refine WL.h' (h_store s31 ?_)
      refine WL.e e_assign ?_
      refine WL.next ?_
      refine WP.seq ?_
      refine WP.reg ?_
      refine WL.e e_move ?_
      refine WL.h (h_call (ACommit_spec (s := s7) 1 h7.ok (by decide)) k26 ?_)
      obtain ⟨e0, e1, h8⟩ := h7.com (n := 1) rfl (by simp) (by simp) (by decide)
      rw [e0, e1]
      generalize comS alphaI s7 1 = s8 at h8 ⊢
      refine WL.e e_move <| WL.e e_extract <| WL.e e_extract <| WL.e e_assign <| WL.e e_assign ?_
      refine WL.next ?_
      refine WP.seq ?_
      refine WP.reg ?_
      refine WL.e e_assign ?_
      refine WL.next ?_
      refine WP.seq ?_
      refine WP.reg ?_
      refine WL.e e_move <| WL.e e_eql <| WL.e e_move ?_
      refine WL.bool 69 rfl (fun y1 => ?_) (fun y1 => ?_)
      · skip
        refine WL.e e_move <| WL.e e_eql <| WL.e e_pick_t <| WL.e e_move ?_
        refine WL.bool 73 rfl (fun y2 => ?_) (fun y2 => ?_)
        · skip
          refine WL.e e_move <| WL.e e_eql <| WL.e e_pick_t <| WL.e e_move ?_
          refine WL.bool 77 rfl (fun y3 => ?_) (fun y3 => ?_)
          · skip
            refine WL.e e_move <| WL.e e_eql <| WL.e e_pick_t <| WL.e e_move ?_
            refine WL.bool 81 rfl (fun y4 => ?_) (fun y4 => ?_)
            · skip
              refine WL.e e_move <| WL.e e_eql <| WL.e e_pick_t <| WL.e e_move ?_
              refine WL.bool 85 rfl (fun y5 => ?_) (fun y5 => ?_)
              · skip
                refine WL.e (e_fa f31_0) <| WL.e (e_load a29) ?_
                refine WL.e (el_len (xs := ([] : List RowM)) sl29 sl_rl) <| WL.e e_eql <| WL.e e_pick_t <| WL.e e_move ?_
                refine WL.bool 91 rfl (fun y6 => ?_) (fun y6 => ?_)
                · skip
                  refine WL.e e_move <| WL.e (e_eql32 (b := 1)) <| WL.e e_pick_t <| WL.e e_move ?_
                  refine WL.bool 95 rfl (fun y7 => ?_) (fun y7 => ?_)
                  · skip
                    refine WL.e e_move <| WL.e e_eql <| WL.e e_pick_t <| WL.e e_move ?_
                    refine WL.bool 99 rfl (fun y8 => ?_) (fun y8 => ?_)
                    · skip
                      refine WL.e e_move ?_
                      refine WL.h (h_call (ARows_spec (s := s8) h8.ok) k37 ?_)
                      intro a9 m9 c9
                      rw [show s8.rows = [(⟨kA, 5⟩ : RowM)] from h8.rows]
                      refine WL.e (el_len (xs := [(⟨kA, 5⟩ : RowM)]) sl29 sl_rl) <| WL.e e_eql <| WL.e e_pick_t <| WL.e e_move ?_
                      refine WL.bool 105 rfl (fun y9 => ?_) (fun y9 => ?_)
                      · skip
                        refine WL.e e_move ?_
                        refine WL.h (h_call (ABegin_spec (s := s8) 0) k23 ?_)
                        intro q9
                        rw [(beg_zero s8 q9).1, (beg_zero s8 q9).2]
                        refine WL.e e_eql <| WL.e e_pick_t <| WL.e e_move ?_
                        refine WL.bool 110 rfl (fun y10 => ?_) (fun y10 => ?_)
                        · skip
                          refine WL.e e_move ?_
                          refine WL.h (h_call (AAbort_spec (s := s8) 9 h8.ok) k28 ?_)
                          obtain ⟨e0, e1⟩ := h8.abo0 (n := 9) rfl
                          rw [e0, e1]
                          refine WL.e e_eql <| WL.e e_pick_t <| WL.e e_move ?_
                          refine WL.bool 115 rfl (fun y11 => ?_) (fun y11 => ?_)
                          · skip
                            refine WL.e e_move ?_
                            refine WL.h (h_call (Begin_nil 1) k23 ?_)
                            refine WL.e e_eql <| WL.e e_pick_t <| WL.e e_assign ?_
                            refine WL.next ?_
                            refine WP.ret ?_
                            exact PO.finE Tryz.results29 (rv_tmp rv_nil) rfl hK
                          · exact absurd y11 (by decide) -- end
                        · exact absurd y10 (by decide) -- end
                      · exact absurd y9 (by decide) -- end
                    · exact absurd y8 (by decide) -- end
                  · exact absurd y7 (by decide) -- end
                · exact absurd y6 (by decide) -- end
              · exact absurd y5 (by decide) -- end
            · exact absurd y4 (by decide) -- end
          · exact absurd y3 (by decide) -- end
        · exact absurd y2 (by decide) -- end
      · exact absurd y1 (by decide) -- end
end Go.SL
