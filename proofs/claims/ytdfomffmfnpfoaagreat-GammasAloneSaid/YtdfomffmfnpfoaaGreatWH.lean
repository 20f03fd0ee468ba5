import Derived.Test.YtdfomffmfnpfoaaGreatWG
import Derived.Test.YtdfomffmfnpfoaaGreatMD
import Derived.Test.YtdfomffmfnpfoaaGreatProg
import Derived.KernelRfl
set_option linter.unusedSimpArgs false
set_option linter.unusedVariables false
namespace Go.SL.WH
open Go Go.Proofs Go.SL
theorem a34 : aggOf Tryz.prog 34 = some (some 4) := by kernel_rfl
theorem a49 : aggOf Tryz.prog 49 = some (some 1) := by kernel_rfl
theorem k10 : callable Tryz.prog 10 = true := by kernel_rfl
theorem k11 : callable Tryz.prog 11 = true := by kernel_rfl
theorem k12 : callable Tryz.prog 12 = true := by kernel_rfl
theorem k13 : callable Tryz.prog 13 = true := by kernel_rfl
theorem k14 : callable Tryz.prog 14 = true := by kernel_rfl
theorem k15 : callable Tryz.prog 15 = true := by kernel_rfl
theorem k16 : callable Tryz.prog 16 = true := by kernel_rfl
theorem k17 : callable Tryz.prog 17 = true := by kernel_rfl
theorem k8 : callable Tryz.prog 8 = true := by kernel_rfl
theorem k9 : callable Tryz.prog 9 = true := by kernel_rfl
theorem pt26 : isPtr Tryz.prog 26 = true := by kernel_rfl
theorem s49 : szOf Tryz.prog 49 = some 1 := by kernel_rfl
theorem sl41 : slOf Tryz.prog 41 = some (34, 4, 48) := by kernel_rfl
theorem sl42 : slOf Tryz.prog 42 = some (49, 1, 24) := by kernel_rfl
theorem z34 : zeroOf Tryz.prog 34 = some [.int .u8 0, .string .empty, .string .empty, .int .u32 0] := by kernel_rfl
theorem z49 : zeroOf Tryz.prog 49 = some [.slice none 0 0] := by kernel_rfl
end Go.SL.WH
namespace Go.SL
open Go Go.Proofs WH
set_option maxHeartbeats 4000000 in
theorem Alone_spec {g : World} {A : HP} {u v : Value} {first ops : List OpM} (c : Bool) (hA : RL A 4 OpM.c u first) (hB : RL A 4 OpM.c v ops) (hn1 : first.length ≤ 140737488351232) (hn2 : ops.length ≤ 140737488351232) : Spec Tryz.prog g 4 [u, v, .bool c] [A] fun K R => K (.bool true) (A :: R) := by
  refine Spec.intro Tryz.func4 rfl Tryz.ntmps4 rfl fun R K hK => ?_
  refine WP.seq ?_
  refine WP.reg ?_
  refine WL.e e_assign ?_
  refine WL.next ?_
  refine WP.seq ?_
  refine WP.seq ?_
  refine WP.reg ?_
  refine WL.e e_move ?_
  refine WL.e (el_len sl41 hA) <| WL.e e_move ?_
  refine WL.e (el_len sl41 hB) <| WL.e (e_add (c := ((first.length + ops.length : Nat) : Int)) rfl rfl (by rw [w_i64 (by omega) (by omega)]; omega)) <| WL.e e_gtr ?_
  refine WL.next ?_
  refine WP.cond rfl (fun h0 => ?_) (fun h0 => ?_)
  · skip
    refine WP.seq ?_
    refine WP.reg ?_
    refine WL.h (h_call (lives_spec) k8 ?_)
    refine WL.e e_assign ?_
    refine WL.next ?_
    refine WP.ret ?_
    refine PO.past nofun ?_
    exact PO.finE Tryz.results4 (rv_tmp rv_nil) rfl hK
  · replace h0 : first.length + ops.length ≤ 80 := by simp at h0; omega
    refine WP.skip ?_
    refine PO.next ?_
    refine WP.seq ?_
    refine WP.reg ?_
    refine WL.h (h_call (opened_spec) k9 ?_)
    intro dp p d hq
    refine WL.e e_move <| WL.e e_extract <| WL.e e_extract <| WL.e e_assign <| WL.e e_assign ?_
    refine WL.next ?_
    refine WP.seq ?_
    refine WP.seq ?_
    refine WP.reg ?_
    refine WL.e e_move <| WL.e (e_peq pt26) <| WL.e e_move ?_
    refine WL.bool 36 rfl (fun hg => ?_) (fun hg => ?_)
    · cases hg -- end
    · skip
      refine WL.e e_move ?_
      refine WL.h (h_call (Begin_spec (s := gam0 d) 1) k10 ?_)
      intro q1
      rw [(late_beg1 d q1).1, (late_beg1 d q1).2]
      refine WL.e e_neq <| WL.e e_pick_f ?_
      refine WL.next ?_
      refine WP.cond_f rfl ?_
      refine WP.skip ?_
      refine PO.next ?_
      refine WP.seq ?_
      refine WP.reg ?_
      refine WL.e e_assign ?_
      refine WL.next ?_
      refine WP.seq ?_
      refine WP.seq ?_
      refine WP.reg ?_
      refine WL.e e_assign ?_
      refine WL.next ?_
      refine WP.block ?_
      refine WP.nils 34 4 OpM.c none ?_
      refine WP.loopK (fun (x : Nat × GamV × TxV × SV × List OpM) => [(10, .int .i64 x.1), (9, x.2.2.2.1.v)]) (fun (x : Nat × GamV × TxV × SV × List OpM) => Gs p dp x.2.1 :: Txs x.2.1.txs :: Sl 34 4 OpM.c x.2.2.2.1.v x.2.2.2.2 :: A :: R) [(0, _), (1, _), (2, _), (6, _), (8, _)] (fun (x : Nat × GamV × TxV × SV × List OpM) => x.1 ≤ first.length ∧ x.2.2.2.2.length ≤ x.1 ∧ x.2.1.last = 1 ∧ x.2.1.nums = [] ∧ x.2.2.1.num = 1 ∧ ∃ told, AloneI 1 [] 0 x.2.1 x.2.2.1 x.1 x.2.2.2.2 told) (fun (x : Nat × GamV × TxV × SV × List OpM) => first.length - x.1) (0, ⟨d, 0, [], [], 1, [], [tx1 q1]⟩, tx1 q1, ⟨none, 0, 0⟩, []) (⟨Nat.zero_le _, Nat.le_refl _, rfl, rfl, rfl, [], AloneI.first hq q1⟩) ?_
      rintro ⟨i, s, t, w9, done⟩ ⟨hi, hdl, hla, hnu, hnm, told, hI⟩
      simp only at hi hdl hla hnu hnm hI
      dsimp only
      refine WP.seq ?_
      refine WP.seq ?_
      refine WP.reg ?_
      refine WL.e e_move <| WL.e e_move ?_
      refine WL.e (el_len sl41 hA) <| WL.e e_lss ?_
      refine WL.next ?_
      refine WP.cond rfl (fun h1 => ?_) (fun h1 => ?_)
      · have hlt : i < first.length := by rw [decide_eq_true_eq] at h1; omega
        obtain ⟨x, hx⟩ : ∃ x, first[i]? = some x := ⟨_, List.getElem?_eq_getElem hlt⟩
        refine WP.skip ?_
        refine PO.next ?_
        refine WP.seq ?_
        refine WP.block ?_
        refine WP.seq ?_
        refine WP.reg ?_
        refine WL.e e_move <| WL.e e_move <| WL.e e_move ?_
        refine WL.e (el_ia (j := i) sl41 hA hlt) ?_
        refine WL.e (el_loadN (a := x) a34 opE hA hx) ?_
        refine WL.h (h_call (Do_spec (s := s) 1 x hI.ok) k13 ?_)
        rcases hI.step x with ⟨hx1, e1⟩ | ⟨hx1, hx2, e1⟩ | ⟨hx1, hx2, e1⟩
        · rw [e1]
          refine WL.e e_move <| WL.e e_extract <| WL.e e_extract ?_
          refine WL.h (h_alloc z49 fun b1 => ?_)
          refine WL.h' (h_store s49 ?_)
          refine WL.e e_assign ?_
          refine WL.next ?_
          refine WP.seq ?_
          refine WP.reg ?_
          refine WL.e e_move <| WL.e e_eql ?_
          refine WL.next ?_
          refine WP.cond_f rfl ?_
          refine WP.skip ?_
          refine PO.blockN ?_
          refine PO.next ?_
          refine WP.reg ?_
          refine WL.e e_move <| WL.e (e_add (c := ((i + 1 : Nat) : Int)) rfl rfl (by rw [w_i64 (by omega) (by omega)]; omega)) <| WL.e e_assign ?_
          refine WL.nil ?_
          exact PO.againK (i + 1, s, t, w9, done) ⟨by simp only; omega, by simp only; omega, hla, hnu, hnm, told, hI.mono (Nat.le_succ i) (by omega)⟩ (by simp only; omega)
        · rw [e1]
          intro sv7
          refine WL.e e_move <| WL.e e_extract <| WL.e e_extract ?_
          refine WL.h (h_alloc z49 fun b2 => ?_)
          refine WL.h' (h_store s49 ?_)
          refine WL.e e_assign ?_
          refine WL.next ?_
          refine WP.seq ?_
          refine WP.reg ?_
          refine WL.e e_move <| WL.e e_eql ?_
          refine WL.next ?_
          refine WP.cond_t rfl ?_
          refine WP.reg ?_
          refine WL.e e_move <| WL.e e_move <| WL.e e_move ?_
          refine WL.e (el_ia (j := i) sl41 hA hlt) ?_
          refine WL.e (el_loadN (a := x) a34 opE hA hx) ?_
          refine WL.h (h_bs sl41 z34 (.a4 (.tmp 62) rfl <| .n) fun b3 => ?_)
          refine WL.h (hl_append (xs := done) (ys := [x]) sl41 opE z34 (lit_rl opE [x] rfl) (by simp; omega) (fun a3 n3 m3 => ?_))
          refine WL.e e_assign ?_
          refine WL.nil ?_
          refine PO.blockN ?_
          refine PO.next ?_
          refine WP.reg ?_
          refine WL.e e_move <| WL.e (e_add (c := ((i + 1 : Nat) : Int)) rfl rfl (by rw [w_i64 (by omega) (by omega)]; omega)) <| WL.e e_assign ?_
          refine WL.nil ?_
          exact PO.againK (i + 1, (putG s t.id (chgOf x) sv7), { t with own := t.own ++ [chgOf x], sv := sv7 }, ⟨a3, n3, m3⟩, done ++ [x]) ⟨by simp only; omega, by simp; omega, hla, hnu, hnm, _, hI.put (by omega) hx1 hx2 sv7⟩ (by simp only; omega)
        · rw [e1]
          intro a7 m7 c7
          refine WL.e e_move <| WL.e e_extract <| WL.e e_extract ?_
          refine WL.h (h_alloc z49 fun b4 => ?_)
          refine WL.h' (h_store s49 ?_)
          refine WL.e e_assign ?_
          refine WL.next ?_
          refine WP.seq ?_
          refine WP.reg ?_
          refine WL.e e_move <| WL.e e_eql ?_
          refine WL.next ?_
          refine WP.cond_t rfl ?_
          refine WP.reg ?_
          refine WL.e e_move <| WL.e e_move <| WL.e e_move ?_
          refine WL.e (el_ia (j := i) sl41 hA hlt) ?_
          refine WL.e (el_loadN (a := x) a34 opE hA hx) ?_
          refine WL.h (h_bs sl41 z34 (.a4 (.tmp 62) rfl <| .n) fun b5 => ?_)
          refine WL.h (hl_append (xs := done) (ys := [x]) sl41 opE z34 (lit_rl opE [x] rfl) (by simp; omega) (fun a3 n3 m3 => ?_))
          refine WL.e e_assign ?_
          refine WL.nil ?_
          refine PO.blockN ?_
          refine PO.next ?_
          refine WP.reg ?_
          refine WL.e e_move <| WL.e (e_add (c := ((i + 1 : Nat) : Int)) rfl rfl (by rw [w_i64 (by omega) (by omega)]; omega)) <| WL.e e_assign ?_
          refine WL.nil ?_
          exact PO.againK (i + 1, lookG s t (spanOf x), t, ⟨a3, n3, m3⟩, done ++ [x]) ⟨by simp only; omega, by simp; omega, hla, hnu, hnm, _, hI.look (by omega) hx1 hx2⟩ (by simp only; omega)
      · have hol : t.own.length ≤ 80 := by have := hI.ok.own_le (t := t) (by rw [hI.txs]; simp); omega
        refine WP.exit ?_
        refine PO.past nofun ?_
        refine PO.round nofun ?_
        refine PO.blockX ?_
        refine PO.next ?_
        refine WP.seq ?_
        refine WP.reg ?_
        refine WL.e e_move ?_
        refine WL.h (h_call (Commit_spec (s := s) 1 hI.ok) k11 ?_)
        obtain ⟨e1, e2, e3, e4, e5, e6, e7, e8⟩ := hI.com hol (by decide)
        have hG2 := hI.ok.com 1
        have hlk : ∀ y ∈ (comG s 1).looks, y.1 ≤ 1 := fun y hy => by have h3 := hI.calm.looks y (e8 y hy); rw [hnm] at h3; exact UInt32.not_lt.1 h3
        have hnn : ∀ y ∈ (comG s 1).nums, y.2 ≤ 1 := by rw [e5, hnu, hnm]; exact keptG_num (p := fun n => n ≤ 1) (by simp) (by decide) _
        rw [hla] at e4
        rw [e1]
        generalize comG s 1 = s2 at e2 e3 e4 e6 e7 hG2 hlk hnn ⊢
        refine WL.e e_move <| WL.e e_extract <| WL.e e_extract <| WL.e e_assign <| WL.e e_assign ?_
        refine WL.next ?_
        refine WP.seq ?_
        refine WP.reg ?_
        refine WL.e e_move ?_
        refine WL.h (h_call (Run_spec (A := A) (B := Sl 34 4 OpM.c w9.v done) (rows := []) nil_rl sl_rl List.Pairwise.nil (by simp [KeysOk]) hI.does.ok (by simp; omega)) k14 ?_)
        intro sv1 ts1 a4 n4 c4 ht1
        obtain ⟨hr1, hr2, hr3⟩ := runM_rows (rows := []) List.Pairwise.nil done
        have hks := runM_keys (rows := []) List.Pairwise.nil (by simp [KeysOk]) done hI.does.ok
        simp only [List.length_nil, Nat.zero_add] at hr2
        generalize hrw : (runM [] done).2 = rows1 at *
        refine WL.e e_move <| WL.e e_extract <| WL.e e_extract <| WL.e e_assign <| WL.e e_assign ?_
        refine WL.next ?_
        refine WP.seq ?_
        refine WP.seq ?_
        refine WP.reg ?_
        refine WL.e e_move <| WL.e e_neq <| WL.e e_move ?_
        refine WL.bool 77 rfl (fun g1 => ?_) (fun g1 => ?_)
        · exact absurd g1 (by decide) -- end
        · skip
          refine WL.e e_move ?_
          refine WL.h (h_call (GRows_spec (s := s2) (by rw [e2]; omega)) k17 ?_)
          intro a5 m5 c5
          refine WL.e e_move ?_
          refine WL.h (h_call (SameRows_spec (sl_rl (xs := s2.rows)) (sl_rl (xs := rows1)) (by rw [e2]; omega)) k16 ?_)
          rw [decide_eq_true e2]
          refine WL.e e_not <| WL.e e_pick_f <| WL.e e_move ?_
          refine WL.bool 84 rfl (fun g2 => ?_) (fun g2 => ?_)
          · exact absurd g2 (by decide) -- end
          · skip
            refine WL.e e_move ?_
            refine WL.h (h_call (Begin_spec (s := s2) 2) k10 ?_)
            intro q2
            obtain ⟨hE, hI2⟩ := AloneI.second hG2 e3 e4 hnn hlk e6 e7 q2
            rw [hE]
            rw [e2] at hI2
            generalize begG s2 2 q2 = s3 at hI2 ⊢
            refine WL.e e_neq <| WL.e e_pick_f ?_
            refine WL.next ?_
            refine WP.cond_f rfl ?_
            refine WP.skip ?_
            refine PO.next ?_
            refine WP.seq ?_
            refine WP.reg ?_
            refine WL.e e_assign ?_
            refine WL.next ?_
            refine WP.seq ?_
            refine WP.reg ?_
            refine WL.e e_assign ?_
            refine WL.next ?_
            refine WP.seq ?_
            refine WP.seq ?_
            refine WP.reg ?_
            refine WL.e e_assign ?_
            refine WL.next ?_
            refine WP.block ?_
            refine WP.nils 34 4 OpM.c none ?_
            refine WP.nils 49 1 resC none ?_
            refine WP.conv (fun S h => ResR_nil h) ?_
            refine WP.loopK (fun (x : Nat × GamV × TxV × SV × List OpM × SV × List ResV) => [(18, .int .i64 x.1), (9, x.2.2.2.1.v), (17, x.2.2.2.2.2.1.v)]) (fun (x : Nat × GamV × TxV × SV × List OpM × SV × List ResV) => Gs p dp x.2.1 :: Txs x.2.1.txs :: Sl 34 4 OpM.c x.2.2.2.1.v x.2.2.2.2.1 :: Sl 49 1 resC x.2.2.2.2.2.1.v x.2.2.2.2.2.2 :: ResR x.2.2.2.2.2.2 :: A :: Sl 70 2 RowM.c (.slice a4 n4 c4) rows1 :: R) [(1, _), (2, _), (8, _), (14, _), (16, _)] (fun (x : Nat × GamV × TxV × SV × List OpM × SV × List ResV) => x.1 ≤ ops.length ∧ x.2.2.2.2.1.length ≤ x.1 ∧ x.2.2.2.2.2.2.length ≤ x.1 ∧ AloneI 2 rows1 82 x.2.1 x.2.2.1 (i + x.1) x.2.2.2.2.1 (x.2.2.2.2.2.2.map (·.2))) (fun (x : Nat × GamV × TxV × SV × List OpM × SV × List ResV) => ops.length - x.1) (0, s3, tx2 q2, ⟨none, 0, 0⟩, [], ⟨none, 0, 0⟩, []) (⟨Nat.zero_le _, Nat.le_refl _, Nat.le_refl _, hI2⟩) ?_
            generalize hi0 : i = i0 at *
            clear hi0 hI
            rintro ⟨i, s, t, w9, done, w17, ts⟩ ⟨hj, hdl2, htl, hI⟩
            simp only at hj hdl2 htl hI
            dsimp only
            refine WP.seq ?_
            refine WP.seq ?_
            refine WP.reg ?_
            refine WL.e e_move <| WL.e e_move ?_
            refine WL.e (el_len sl41 hB) <| WL.e e_lss ?_
            refine WL.next ?_
            refine WP.cond rfl (fun h2 => ?_) (fun h2 => ?_)
            · have hlt : i < ops.length := by rw [decide_eq_true_eq] at h2; omega
              obtain ⟨x, hx⟩ : ∃ x, ops[i]? = some x := ⟨_, List.getElem?_eq_getElem hlt⟩
              refine WP.skip ?_
              refine PO.next ?_
              refine WP.seq ?_
              refine WP.block ?_
              refine WP.seq ?_
              refine WP.reg ?_
              refine WL.e e_move <| WL.e e_move <| WL.e e_move ?_
              refine WL.e (el_ia (j := i) sl41 hB hlt) ?_
              refine WL.e (el_loadN (a := x) a34 opE hB hx) ?_
              refine WL.h (h_call (Do_spec (s := s) 2 x hI.ok) k13 ?_)
              rcases hI.step x with ⟨hx1, e1⟩ | ⟨hx1, hx2, e1⟩ | ⟨hx1, hx2, e1⟩
              · rw [e1]
                refine WL.e e_move <| WL.e e_extract <| WL.e e_extract ?_
                refine WL.h (h_alloc z49 fun b6 => ?_)
                refine WL.h' (h_store s49 ?_)
                refine WL.e e_assign ?_
                refine WL.next ?_
                refine WP.seq ?_
                refine WP.reg ?_
                refine WL.e e_move <| WL.e e_eql ?_
                refine WL.next ?_
                refine WP.cond_f rfl ?_
                refine WP.seq ?_
                refine WP.reg ?_
                refine WL.e e_move <| WL.e e_neq ?_
                refine WL.next ?_
                refine WP.cond_f rfl ?_
                refine WP.skip ?_
                refine PO.blockN ?_
                refine PO.next ?_
                refine WP.reg ?_
                refine WL.e e_move <| WL.e (e_add (c := ((i + 1 : Nat) : Int)) rfl rfl (by rw [w_i64 (by omega) (by omega)]; omega)) <| WL.e e_assign ?_
                refine WL.nil ?_
                exact PO.againK (i + 1, s, t, w9, done, w17, ts) ⟨by simp only; omega, by simp only; omega, by simp only; omega, hI.mono (Nat.le_succ _) (by omega)⟩ (by simp only; omega)
              · rw [e1]
                intro sv7
                refine WL.e e_move <| WL.e e_extract <| WL.e e_extract ?_
                refine WL.h (h_alloc z49 fun b7 => ?_)
                refine WL.h' (h_store s49 ?_)
                refine WL.e e_assign ?_
                refine WL.next ?_
                refine WP.seq ?_
                refine WP.reg ?_
                refine WL.e e_move <| WL.e e_eql ?_
                refine WL.next ?_
                refine WP.cond_t rfl ?_
                refine WP.seq ?_
                refine WP.reg ?_
                refine WL.e e_move <| WL.e e_move <| WL.e e_move ?_
                refine WL.e (el_ia (j := i) sl41 hB hlt) ?_
                refine WL.e (el_loadN (a := x) a34 opE hB hx) ?_
                refine WL.h (h_bs sl41 z34 (.a4 (.tmp 110) rfl <| .n) fun b8 => ?_)
                refine WL.h (hl_append (xs := done) (ys := [x]) sl41 opE z34 (lit_rl opE [x] rfl) (by simp; omega) (fun a3 n3 m3 => ?_))
                refine WL.e e_assign ?_
                refine WL.next ?_
                refine WP.reg ?_
                refine WL.e e_move <| WL.e (e_loadN a49) ?_
                refine WL.h (h_bs sl42 z49 (.a1 (.tmp 114) rfl <| .n) fun b9 => ?_)
                refine WL.h (hl_append (xs := ts) (ys := [((⟨none, 0, 0⟩ : SV), ([] : List RowM))]) sl42 resE z49 (lit_rl resE [((⟨none, 0, 0⟩ : SV), ([] : List RowM))] rfl) (by simp; omega) (fun a2 n2 m2 => ?_))
                refine WL.e e_assign ?_
                refine WL.nil ?_
                refine PO.blockN ?_
                refine PO.next ?_
                refine WP.reg ?_
                refine WL.e e_move <| WL.e (e_add (c := ((i + 1 : Nat) : Int)) rfl rfl (by rw [w_i64 (by omega) (by omega)]; omega)) <| WL.e e_assign ?_
                refine WL.nil ?_
                refine PO.nils 70 2 RowM.c none ?_
                refine PO.cls (A := ResR (ts ++ [((⟨none, 0, 0⟩ : SV), ([] : List RowM))])) (B := [ResR ts, Sl 70 2 RowM.c (.slice none 0 0) (([] : List RowM))]) (ResR_snoc (l := ts) (x := ((⟨none, 0, 0⟩ : SV), ([] : List RowM)))) ?_
                exact PO.againK (i + 1, (putG s t.id (chgOf x) sv7), { t with own := t.own ++ [chgOf x], sv := sv7 }, ⟨a3, n3, m3⟩, done ++ [x], ⟨a2, n2, m2⟩, ts ++ [((⟨none, 0, 0⟩ : SV), ([] : List RowM))]) ⟨by simp only; omega, by simp; omega, by simp; omega, by simp only [List.map_append]; exact hI.put (by omega) hx1 hx2 sv7⟩ (by simp only; omega)
              · rw [e1]
                intro a7 m7 c7
                refine WL.e e_move <| WL.e e_extract <| WL.e e_extract ?_
                refine WL.h (h_alloc z49 fun b10 => ?_)
                refine WL.h' (h_store s49 ?_)
                refine WL.e e_assign ?_
                refine WL.next ?_
                refine WP.seq ?_
                refine WP.reg ?_
                refine WL.e e_move <| WL.e e_eql ?_
                refine WL.next ?_
                refine WP.cond_t rfl ?_
                refine WP.seq ?_
                refine WP.reg ?_
                refine WL.e e_move <| WL.e e_move <| WL.e e_move ?_
                refine WL.e (el_ia (j := i) sl41 hB hlt) ?_
                refine WL.e (el_loadN (a := x) a34 opE hB hx) ?_
                refine WL.h (h_bs sl41 z34 (.a4 (.tmp 110) rfl <| .n) fun b11 => ?_)
                refine WL.h (hl_append (xs := done) (ys := [x]) sl41 opE z34 (lit_rl opE [x] rfl) (by simp; omega) (fun a3 n3 m3 => ?_))
                refine WL.e e_assign ?_
                refine WL.next ?_
                refine WP.reg ?_
                refine WL.e e_move <| WL.e (e_loadN a49) ?_
                refine WL.h (h_bs sl42 z49 (.a1 (.tmp 114) rfl <| .n) fun b12 => ?_)
                refine WL.h (hl_append (xs := ts) (ys := [((⟨a7, m7, c7⟩ : SV), scanR (changeR s.rows t.own) (spanOf x) 256)]) sl42 resE z49 (lit_rl resE [((⟨a7, m7, c7⟩ : SV), scanR (changeR s.rows t.own) (spanOf x) 256)] rfl) (by simp; omega) (fun a2 n2 m2 => ?_))
                refine WL.e e_assign ?_
                refine WL.nil ?_
                refine PO.blockN ?_
                refine PO.next ?_
                refine WP.reg ?_
                refine WL.e e_move <| WL.e (e_add (c := ((i + 1 : Nat) : Int)) rfl rfl (by rw [w_i64 (by omega) (by omega)]; omega)) <| WL.e e_assign ?_
                refine WL.nil ?_
                refine PO.cls (A := ResR (ts ++ [((⟨a7, m7, c7⟩ : SV), scanR (changeR s.rows t.own) (spanOf x) 256)])) (B := [ResR ts, Sl 70 2 RowM.c (.slice a7 m7 c7) (scanR (changeR s.rows t.own) (spanOf x) 256)]) (ResR_snoc (l := ts) (x := ((⟨a7, m7, c7⟩ : SV), scanR (changeR s.rows t.own) (spanOf x) 256))) ?_
                exact PO.againK (i + 1, lookG s t (spanOf x), t, ⟨a3, n3, m3⟩, done ++ [x], ⟨a2, n2, m2⟩, ts ++ [((⟨a7, m7, c7⟩ : SV), scanR (changeR s.rows t.own) (spanOf x) 256)]) ⟨by simp only; omega, by simp; omega, by simp; omega, by simp only [List.map_append]; exact hI.look (by omega) hx1 hx2⟩ (by simp only; omega)
            · have hol2 : t.own.length ≤ 80 := by have := hI.ok.own_le (t := t) (by rw [hI.txs]; simp); omega
              obtain ⟨hr4, hr5, hr6⟩ := runM_rows hr1 done
              refine WP.exit ?_
              refine PO.past nofun ?_
              refine PO.round nofun ?_
              refine PO.blockX ?_
              refine PO.next ?_
              refine WP.seq ?_
              refine WP.reg ?_
              refine WL.e e_move <| WL.e e_move ?_
              refine WL.h (h_call (Run_spec (sl_rl (xs := rows1)) (sl_rl (xs := done)) hr1 hks hI.does.ok (by omega)) k14 ?_)
              intro sv2 ts2 a6 n6 c6 ht2
              refine WL.e e_move <| WL.e e_extract <| WL.e e_extract <| WL.e e_assign <| WL.e e_assign ?_
              refine WL.next ?_
              refine WP.seq ?_
              refine WP.seq ?_
              refine WP.reg ?_
              refine WL.e e_move <| WL.e e_move ?_
              refine WL.h (h_call (SameResults_spec (sl_rl (xs := ts)) (sl_rl (xs := ts2)) (by omega) (fun y hy => by have h3 := hI.does.told; have h4 := runM_told rows1 done y.2 (by rw [← h3]; exact List.mem_map.2 ⟨y, hy, rfl⟩); omega)) k15 ?_)
              rw [decide_eq_true (show ts.map (·.2) = ts2.map (·.2) by rw [ht2]; exact hI.does.told)]
              refine WL.e e_not ?_
              refine WL.next ?_
              refine WP.cond_f rfl ?_
              refine WP.skip ?_
              refine PO.next ?_
              refine WP.seq ?_
              refine WP.seq ?_
              refine WP.reg ?_
              refine WL.e e_move <| WL.e e_not ?_
              refine WL.next ?_
              refine WP.cond rfl (fun hc => ?_) (fun hc => ?_)
              · skip
                refine WP.seq ?_
                refine WP.reg ?_
                refine WL.e e_move ?_
                refine WL.h (h_call (Abort_spec (s := s) 2 hI.ok) k12 ?_)
                obtain ⟨k1, k2⟩ := hI.abo
                rw [k1]
                generalize aboG s 2 = s4 at k2 ⊢
                refine WL.e e_eql <| WL.e e_move ?_
                refine WL.bool 134 rfl (fun y1 => ?_) (fun y1 => ?_)
                · skip
                  refine WL.e e_move ?_
                  refine WL.h (h_call (GRows_spec (s := s4) (by rw [k2]; omega)) k17 ?_)
                  intro a8 m8 c8
                  refine WL.e e_move ?_
                  refine WL.h (h_call (SameRows_spec (sl_rl (xs := s4.rows)) (sl_rl (xs := rows1)) (by rw [k2]; omega)) k16 ?_)
                  rw [decide_eq_true k2]
                  refine WL.e e_pick_t <| WL.e e_move ?_
                  refine WL.bool 140 rfl (fun y2 => ?_) (fun y2 => ?_)
                  · skip
                    refine WL.h (h_call (lives_spec) k8 ?_)
                    refine WL.e e_pick_t <| WL.e e_assign ?_
                    refine WL.next ?_
                    refine WP.ret ?_
                    refine PO.past nofun ?_
                    exact PO.finE Tryz.results4 (rv_tmp rv_nil) rfl hK
                  · exact absurd y2 (by decide) -- end
                · exact absurd y1 (by decide) -- end
              · skip
                refine WP.skip ?_
                refine PO.next ?_
                refine WP.seq ?_
                refine WP.reg ?_
                refine WL.e e_move ?_
                refine WL.h (h_call (Commit_spec (s := s) 2 hI.ok) k11 ?_)
                obtain ⟨k1, k2, k3⟩ := hI.com hol2 (by decide)
                rw [k1]
                generalize comG s 2 = s4 at k2 ⊢
                refine WL.e e_move <| WL.e e_extract <| WL.e e_extract <| WL.e e_assign ?_
                refine WL.next ?_
                refine WP.seq ?_
                refine WP.reg ?_
                refine WL.e e_move <| WL.e e_eql <| WL.e e_move ?_
                refine WL.bool 150 rfl (fun y1 => ?_) (fun y1 => ?_)
                · skip
                  refine WL.e e_move ?_
                  refine WL.h (h_call (GRows_spec (s := s4) (by rw [k2]; omega)) k17 ?_)
                  intro a8 m8 c8
                  refine WL.e e_move ?_
                  refine WL.h (h_call (SameRows_spec (sl_rl (xs := s4.rows)) (sl_rl (xs := (runM rows1 done).2)) (by rw [k2]; omega)) k16 ?_)
                  rw [decide_eq_true k2]
                  refine WL.e e_pick_t <| WL.e e_move ?_
                  refine WL.bool 156 rfl (fun y2 => ?_) (fun y2 => ?_)
                  · skip
                    refine WL.h (h_call (lives_spec) k8 ?_)
                    refine WL.e e_pick_t <| WL.e e_assign ?_
                    refine WL.next ?_
                    refine WP.ret ?_
                    exact PO.finE Tryz.results4 (rv_tmp rv_nil) rfl hK
                  · exact absurd y2 (by decide) -- end
                · exact absurd y1 (by decide) -- end

end Go.SL
