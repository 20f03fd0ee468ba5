import Derived.Test.YtdfomffmfnpfoaaWE
import Derived.Test.YtdfomffmfnpfoaaProg
import Derived.KernelRfl
set_option linter.unusedSimpArgs false
set_option linter.unusedVariables false
namespace Go.SL.WF
open Go Go.Proofs Go.SL
theorem a23 : aggOf Try.prog 23 = some (some 2) := by kernel_rfl
theorem a24 : aggOf Try.prog 24 = some none := by kernel_rfl
theorem a35 : aggOf Try.prog 35 = some (some 4) := by kernel_rfl
theorem a5 : aggOf Try.prog 5 = some none := by kernel_rfl
theorem a9 : aggOf Try.prog 9 = some none := by kernel_rfl
theorem f23_0 : fldOf Try.prog 23 0 = some 0 := by kernel_rfl
theorem f23_1 : fldOf Try.prog 23 1 = some 1 := by kernel_rfl
theorem f26_0 : fldOf Try.prog 26 0 = some 0 := by kernel_rfl
theorem f26_1 : fldOf Try.prog 26 1 = some 2 := by kernel_rfl
theorem f26_2 : fldOf Try.prog 26 2 = some 3 := by kernel_rfl
theorem f26_3 : fldOf Try.prog 26 3 = some 4 := by kernel_rfl
theorem k10 : callable Try.prog 10 = true := by kernel_rfl
theorem k11 : callable Try.prog 11 = true := by kernel_rfl
theorem k12 : callable Try.prog 12 = true := by kernel_rfl
theorem k4 : callable Try.prog 4 = true := by kernel_rfl
theorem k5 : callable Try.prog 5 = true := by kernel_rfl
theorem k6 : callable Try.prog 6 = true := by kernel_rfl
theorem k7 : callable Try.prog 7 = true := by kernel_rfl
theorem k8 : callable Try.prog 8 = true := by kernel_rfl
theorem k9 : callable Try.prog 9 = true := by kernel_rfl
theorem p23 : placesOf Try.prog 23 = some [(0, 1), (1, 1)] := by kernel_rfl
theorem p35 : placesOf Try.prog 35 = some [(0, 1), (1, 1), (2, 1), (3, 1)] := by kernel_rfl
theorem pt28 : isPtr Try.prog 28 = true := by kernel_rfl
theorem s23 : szOf Try.prog 23 = some 2 := by kernel_rfl
theorem s35 : szOf Try.prog 35 = some 4 := by kernel_rfl
theorem s38 : szOf Try.prog 38 = some 1 := by kernel_rfl
theorem z23 : zeroOf Try.prog 23 = some [.string .empty, .string .empty] := by kernel_rfl
theorem z35 : zeroOf Try.prog 35 = some [.int .u8 0, .string .empty, .string .empty, .int .u32 0] := by kernel_rfl
theorem z38 : zeroOf Try.prog 38 = some [.slice none 0 0] := by kernel_rfl
end Go.SL.WF
namespace Go.SL
open Go Go.Proofs WF
set_option maxHeartbeats 4000000 in
theorem Late_spec {g : World} (sp : SpanM) (k : ByteArray) (v : UInt32) (e : UInt8) : Spec Try.prog g 3 [.agg #[.string sp.a, .string sp.b, .string k, .int .u32 v.toNat, .int .u8 e.toNat]] [] fun K R => K (.bool true) R := by
  refine Spec.intro Try.func3 rfl Try.ntmps3 rfl fun R K hK => ?_
  refine WP.seq ?_
  refine WP.reg ?_
  refine WL.h (h_box fun b1 => ?_)
  refine WL.e e_assign ?_
  refine WL.next ?_
  refine WP.seq ?_
  refine WP.reg ?_
  refine WL.e (e_fa f26_0) <| WL.e (e_loadN a23) ?_
  refine WL.h (h_alloc z23 fun b2 => ?_)
  refine WL.h' (h_store s23 ?_)
  refine WL.next ?_
  refine WP.seq ?_
  refine WP.reg ?_
  refine WL.e (e_fa f26_1) <| WL.e (e_load a9) <| WL.e e_assign ?_
  refine WL.next ?_
  refine WP.seq ?_
  refine WP.reg ?_
  refine WL.e (e_fa f26_2) <| WL.e (e_load a24) <| WL.e e_assign ?_
  refine WL.next ?_
  refine WP.seq ?_
  refine WP.reg ?_
  refine WL.e (e_fa f26_3) <| WL.e (e_load a5) <| WL.e e_assign ?_
  refine WL.next ?_
  refine WP.seq ?_
  refine WP.reg ?_
  refine WL.h (h_call (opened_spec) k4 ?_)
  intro dp p d hq
  refine WL.e e_move <| WL.e e_extract <| WL.e e_extract <| WL.e e_assign <| WL.e e_assign ?_
  refine WL.next ?_
  refine WP.seq ?_
  refine WP.seq ?_
  refine WP.reg ?_
  refine WL.e e_move <| WL.e (e_peq pt28) <| WL.e e_move ?_
  refine WL.bool 37 rfl (fun hg => ?_) (fun hg => ?_)
  · cases hg -- end
  · skip
    refine WL.e e_move ?_
    refine WL.h (h_call (Begin_spec (s := gam0 d) 1) k5 ?_)
    intro q1
    rw [(late_beg1 d q1).1, (late_beg1 d q1).2]
    refine WL.e e_neq <| WL.e e_pick_f <| WL.e e_move ?_
    refine WL.bool 42 rfl (fun hg2 => ?_) (fun hg2 => ?_)
    · exact absurd hg2 (by decide) -- end
    · skip
      refine WL.e e_move ?_
      refine WL.h (h_call (Begin_spec (s := ⟨d, 0, [], [], 1, [], [tx1 q1]⟩) 2) k5 ?_)
      intro q2
      rw [(late_beg2 d q1 q2).1, (late_beg2 d q1 q2).2]
      have hG2 : GamOk (lt2 d q1 q2) 0 := (late_beg2 d q1 q2).2 ▸ ((late_beg1 d q1).2 ▸ (gam0_ok hq).beg 1 q1).beg 2 q2
      refine WL.e e_neq <| WL.e e_pick_f ?_
      refine WL.next ?_
      refine WP.cond_f rfl ?_
      refine WP.skip ?_
      refine PO.next ?_
      refine WP.seq ?_
      refine WP.reg ?_
      refine WL.e (e_fa f23_0) <| WL.e (e_load a9) <| WL.e (e_fa f23_1) <| WL.e (e_load a9) <| WL.e (e_build z35 p35 (.o (.const (.int .u8 4)) rfl <| .o (.tmp 48) rfl <| .o (.tmp 50) rfl <| .z (.int .u32 0) <| .n)) ?_
      refine WL.h (h_alloc z35 fun b3 => ?_)
      refine WL.h' (h_store s35 ?_)
      refine WL.next ?_
      refine WP.seq ?_
      refine WP.reg ?_
      refine WL.e e_move <| WL.e (e_loadN a35) ?_
      refine WL.h (h_call (Do_spec (s := lt2 d q1 q2) 2 (opScan sp) hG2) k6 ?_)
      rw [late_do1 d q1 q2 sp]
      cases hks : (keyOk sp.a && keyOk sp.b)
      · rw [if_neg (by simp)]
        refine WL.e e_move <| WL.e e_extract <| WL.e e_extract ?_
        refine WL.h (h_alloc z38 fun b4 => ?_)
        refine WL.h' (h_store s38 ?_)
        refine WL.e e_assign ?_
        refine WL.next ?_
        refine WP.seq ?_
        refine WP.seq ?_
        refine WP.reg ?_
        refine WL.e e_move <| WL.e e_neq ?_
        refine WL.next ?_
        refine WP.cond_t rfl ?_
        refine WP.seq ?_
        refine WP.reg ?_
        refine WL.e e_move <| WL.e e_eql <| WL.e e_move ?_
        refine WL.bool 62 rfl (fun y0 => ?_) (fun y0 => ?_)
        · skip
          refine WL.h (h_call (lives_spec) k7 ?_)
          refine WL.e e_pick_t <| WL.e e_assign ?_
          refine WL.next ?_
          refine WP.ret ?_
          refine PO.past nofun ?_
          exact PO.finE Try.results3 (rv_tmp rv_nil) rfl hK
        · exact absurd y0 (by decide) -- end
      · rw [if_pos rfl]
        intro a1 m1 c1
        rw [span_scan, late_look]
        have hL : LtOk q2 d 0 [tx2 q2] := ⟨hq, by decide, .inr rfl⟩
        refine WL.e e_move <| WL.e e_extract <| WL.e e_extract ?_
        refine WL.h (h_alloc z38 fun b5 => ?_)
        refine WL.h' (h_store s38 ?_)
        refine WL.e e_assign ?_
        refine WL.next ?_
        refine WP.seq ?_
        refine WP.seq ?_
        refine WP.reg ?_
        refine WL.e e_move <| WL.e e_neq ?_
        refine WL.next ?_
        refine WP.cond_f rfl ?_
        refine WP.skip ?_
        refine PO.next ?_
        refine WP.cutL (fun (x : DiskM × Nat × List TxV) => []) (fun (x : DiskM × Nat × List TxV) => Gs p dp (ltF sp q1 x.1 x.2.1 x.2.2) :: Txs (ltF sp q1 x.1 x.2.1 x.2.2).txs :: cl b2 23 [.string sp.a, .string sp.b] :: R) (fun (x : DiskM × Nat × List TxV) => LtOk q2 x.1 x.2.1 x.2.2 ∧ x.2.1 = 0) ?_ ?_
        · skip
          refine WP.seq ?_
          refine WP.reg ?_
          refine WL.e e_move <| WL.e (e_rem rfl rfl (by decide) rfl) <| WL.e e_eql ?_
          refine WL.next ?_
          refine WP.cond rfl (fun c1 => ?_) (fun c1 => ?_)
          · skip
            refine WP.reg ?_
            refine WL.e e_move ?_
            refine WL.h (h_call (Abort_spec (s := ltF sp q1 d 0 [tx2 q2]) 2 hL.gam) k8 ?_)
            rw [late_abo hL]
            refine WL.nil ?_
            exact PO.meetK (d, 0, []) ⟨⟨hq, Nat.zero_le _, .inl rfl⟩, rfl⟩
          · skip
            refine WP.skip ?_
            exact PO.meetK (d, 0, [tx2 q2]) ⟨hL, rfl⟩
        · rintro ⟨d2, a2, ts2⟩ ⟨hL2, h0⟩
          simp only at hL2 h0
          dsimp only
          refine WP.cutL (fun (x : DiskM × Nat × List TxV) => []) (fun (x : DiskM × Nat × List TxV) => Gs p dp (ltF sp q1 x.1 x.2.1 x.2.2) :: Txs (ltF sp q1 x.1 x.2.1 x.2.2).txs :: cl b2 23 [.string sp.a, .string sp.b] :: R) (fun (x : DiskM × Nat × List TxV) => LtOk q2 x.1 x.2.1 x.2.2) ?_ ?_
          · skip
            refine WP.seq ?_
            refine WP.reg ?_
            refine WL.e e_move <| WL.e (e_rem rfl rfl (by decide) rfl) <| WL.e e_eql ?_
            refine WL.next ?_
            refine WP.cond rfl (fun c2 => ?_) (fun c2 => ?_)
            · skip
              refine WP.reg ?_
              refine WL.e e_move ?_
              refine WL.h (h_call (Commit_spec (s := ltF sp q1 d2 a2 ts2) 2 hL2.gam) k9 ?_)
              obtain ⟨d4, a4, hL4, e4⟩ := late_com (p := sp) (q1 := q1) hL2 h0
              rw [e4]
              refine WL.nil ?_
              exact PO.meetK (d4, a4, []) hL4
            · skip
              refine WP.skip ?_
              exact PO.meetK (d2, a2, ts2) hL2
          · rintro ⟨d3, a3, ts3⟩ hL3
            simp only at hL3
            dsimp only
            refine WP.cutL (fun (x : Nat × List TxV) => [(13, .int .i64 x.1)]) (fun (x : Nat × List TxV) => Gs p dp (ltH sp d3 a3 x.2 ts3) :: Txs (ltH sp d3 a3 x.2 ts3).txs :: cl b2 23 [.string sp.a, .string sp.b] :: R) (fun (x : Nat × List TxV) => ltE sp k q1 x.1 x.2) ?_ ?_
            · skip
              refine WP.reg ?_
              refine WL.e e_move <| WL.e e_move <| WL.e e_move ?_
              refine WL.h (h_call (lput_spec k v) k10 ?_)
              refine WL.h (h_call (Do_spec (s := ltF sp q1 d3 a3 ts3) 1 (opPut k v) hL3.gam) k6 ?_)
              rcases late_do2' (p := sp) (q1 := q1) hL3 k v with ⟨hk, e6⟩ | ⟨hk, hm, e6⟩ | ⟨hk, hm, e6⟩
              · rw [e6]
                refine WL.e e_move <| WL.e e_extract <| WL.e e_extract ?_
                refine WL.h (h_alloc z38 fun b6 => ?_)
                refine WL.h' (h_store s38 ?_)
                refine WL.e e_assign ?_
                refine WL.nil ?_
                exact PO.meetK (1, [tx1 q1]) (.inl rfl)
              · rw [e6]
                refine WL.e e_move <| WL.e e_extract <| WL.e e_extract ?_
                refine WL.h (h_alloc z38 fun b7 => ?_)
                refine WL.h' (h_store s38 ?_)
                refine WL.e e_assign ?_
                refine WL.nil ?_
                exact PO.meetK (9, []) (.inr (.inl ⟨hk, rfl, hm, rfl⟩))
              · rw [e6]
                intro sv5
                rw [late_put hL3]
                refine WL.e e_move <| WL.e e_extract <| WL.e e_extract ?_
                refine WL.h (h_alloc z38 fun b8 => ?_)
                refine WL.h' (h_store s38 ?_)
                refine WL.e e_assign ?_
                refine WL.nil ?_
                exact PO.meetK (0, [{ tx1 q1 with own := [⟨k, v, false⟩], sv := sv5 }]) (.inr (.inr ⟨hk, rfl, hm, .inr ⟨_, _, by simp [chgOk, hk], rfl⟩⟩))
            · rintro ⟨e5, o⟩ hE
              simp only at hE
              dsimp only
              refine WP.seq ?_
              refine WP.reg ?_
              refine WL.e e_move <| WL.e e_move <| WL.e (e_build z23 p23 (.o (.tmp 83) rfl <| .o (.tmp 84) rfl <| .n)) <| WL.e (e_loadN a23) ?_
              refine WL.h (h_call (Meet_spec ⟨_, _⟩ ⟨_, _⟩) k11 ?_)
              refine WL.e e_assign ?_
              refine WL.next ?_
              refine WP.seq ?_
              refine WP.seq ?_
              refine WP.reg ?_
              refine WL.e e_move <| WL.e e_eql ?_
              refine WL.next ?_
              refine WP.cond rfl (fun h1 => ?_) (fun h1 => ?_)
              · skip
                refine WP.seq ?_
                refine WP.reg ?_
                refine WL.h (h_call (lives_spec) k7 ?_)
                refine WL.e e_assign ?_
                refine WL.next ?_
                refine WP.ret ?_
                refine PO.past nofun ?_
                exact PO.finE Try.results3 (rv_tmp rv_nil) rfl hK
              · obtain ⟨hk, ho, h9, h0⟩ := ltE_not hE h1
                refine WP.skip ?_
                refine PO.next ?_
                refine WP.seq ?_
                refine WP.seq ?_
                refine WP.reg ?_
                refine WL.e e_move <| WL.e e_eql <| WL.e e_move <| WL.e (e_neqB Try.underlying4) <| WL.e e_move ?_
                refine WL.bool 95 rfl (fun hg => ?_) (fun hg => ?_)
                · exact absurd (hg.symm.trans h9) (by decide) -- end
                · skip
                  refine WL.e e_move <| WL.e e_eql <| WL.e e_move <| WL.e (e_eqlB Try.underlying4) <| WL.e e_pick_f ?_
                  refine WL.next ?_
                  refine WP.cond rfl (fun h2 => ?_) (fun h2 => ?_)
                  · exact absurd (h2.symm.trans h0) (by decide)
                  · skip
                    refine WP.skip ?_
                    refine PO.next ?_
                    refine WP.seq ?_
                    refine WP.seq ?_
                    refine WP.reg ?_
                    refine WL.e e_move ?_
                    refine WL.h (h_call (Begin_spec (s := ltH sp d3 a3 o ts3) 3) k5 ?_)
                    intro q3
                    rw [(late_beg3 hL3 ho q3).1, (late_beg3 hL3 ho q3).2]
                    refine WL.e e_neq <| WL.e e_move ?_
                    refine WL.bool 104 rfl (fun hg3 => ?_) (fun hg3 => ?_)
                    · exact absurd hg3 (by decide) -- end
                    · skip
                      refine WL.e e_move ?_
                      refine WL.h (h_call (Begin_spec (s := ⟨d3, a3, [], [], 3, [(2, sp)], o ++ ts3 ++ [tx3 q3]⟩) 4) k5 ?_)
                      intro q4
                      rw [(late_beg4 hL3 ho q4).1, (late_beg4 hL3 ho q4).2]
                      have hG5 : GamOk ⟨d3, a3, [], [], 4, [(2, sp)], o ++ ts3 ++ [tx3 q3] ++ [tx4 q4]⟩ 10 := (late_beg4 hL3 ho q4).2 ▸ ((late_beg3 hL3 ho q3).2 ▸ (ltH_ok hL3 ho).beg 3 q3).beg 4 q4
                      refine WL.e e_neq <| WL.e e_pick_f ?_
                      refine WL.next ?_
                      refine WP.cond_f rfl ?_
                      refine WP.skip ?_
                      refine PO.next ?_
                      refine WP.seq ?_
                      refine WP.reg ?_
                      refine WL.e e_move ?_
                      refine WL.h (h_call (Abort_spec (s := ⟨d3, a3, [], [], 4, [(2, sp)], o ++ ts3 ++ [tx3 q3] ++ [tx4 q4]⟩) 1 hG5) k8 ?_)
                      obtain ⟨lk, hlk, e7⟩ := late_abo1 (p := sp) (q3 := q3) (q4 := q4) hL3 ho
                      rw [e7]
                      have hK0 : GamOk (ltK lk d3 a3 ts3 q3 (tx4 q4)) 10 := e7 ▸ hG5.abo 1
                      refine WL.next ?_
                      refine WP.seq ?_
                      refine WP.reg ?_
                      refine WL.e e_move <| WL.e e_move <| WL.e e_move ?_
                      refine WL.h (h_call (lput_spec k v) k10 ?_)
                      refine WL.h (h_call (Do_spec (s := ltK lk d3 a3 ts3 q3 (tx4 q4)) 4 (opPut k v) hK0) k6 ?_)
                      rw [late_do4 hL3 hlk k v hk]
                      intro sv7
                      rw [late_put4 hL3 _ sv7]
                      have hK1 : GamOk (ltK lk d3 a3 ts3 q3 { tx4 q4 with own := [⟨k, v, false⟩], sv := sv7 }) 11 := late_put4 hL3 _ sv7 ▸ hK0.put (by decide) (t := tx4 q4) (by simp [ltK]) ⟨k, v, false⟩ (by simp [chgOk, hk]) sv7
                      refine WL.e e_move <| WL.e e_extract <| WL.e e_extract ?_
                      refine WL.h (h_alloc z38 fun b9 => ?_)
                      refine WL.h' (h_store s38 ?_)
                      refine WL.e e_assign ?_
                      refine WL.next ?_
                      refine WP.seq ?_
                      refine WP.reg ?_
                      refine WL.e e_move <| WL.e e_move ?_
                      refine WL.h (h_call (lget_spec k) k12 ?_)
                      refine WL.h (h_call (Do_spec (s := ltK lk d3 a3 ts3 q3 { tx4 q4 with own := [⟨k, v, false⟩], sv := sv7 }) 3 (opGet k) hK1) k6 ?_)
                      rw [late_do5 hL3 _ _ k hk]
                      intro a8 m8 c8
                      rw [span_get, late_look5]
                      have hK2 : GamOk (ltK (lk ++ [(3, one k)]) d3 a3 ts3 q3 { tx4 q4 with own := [⟨k, v, false⟩], sv := sv7 }) 12 := hK1.look (by decide) (tx3 q3) (one k)
                      refine WL.e e_move <| WL.e e_extract <| WL.e e_extract ?_
                      refine WL.h (h_alloc z38 fun b10 => ?_)
                      refine WL.h' (h_store s38 ?_)
                      refine WL.e e_assign ?_
                      refine WL.next ?_
                      refine WP.seq ?_
                      refine WP.reg ?_
                      refine WL.e e_move ?_
                      refine WL.h (h_call (Commit_spec (s := ltK (lk ++ [(3, one k)]) d3 a3 ts3 q3 { tx4 q4 with own := [⟨k, v, false⟩], sv := sv7 }) 4 hK2) k9 ?_)
                      obtain ⟨e1, e2, e3⟩ := late_com4 (lk := lk ++ [(3, one k)]) (q3 := q3) (q4 := q4) hL3 ⟨k, v, false⟩ (by simp [chgOk, hk]) sv7
                      have hG8 := hK2.com 4
                      rw [e1]
                      generalize comG (ltK (lk ++ [(3, one k)]) d3 a3 ts3 q3 { tx4 q4 with own := [⟨k, v, false⟩], sv := sv7 }) 4 = s8 at e2 e3 hG8 ⊢
                      refine WL.e e_move <| WL.e e_extract <| WL.e e_extract <| WL.e e_assign <| WL.e e_assign ?_
                      refine WL.next ?_
                      refine WP.seq ?_
                      refine WP.reg ?_
                      refine WL.e e_move <| WL.e e_move ?_
                      refine WL.h (h_call (lget_spec k) k12 ?_)
                      refine WL.h (h_call (Do_spec (s := s8) 3 (opGet k) hG8) k6 ?_)
                      rw [late_do6 k hk hL3.ts e2 e3]
                      refine WL.e e_move <| WL.e e_extract <| WL.e e_extract ?_
                      refine WL.h (h_alloc z38 fun b11 => ?_)
                      refine WL.h' (h_store s38 ?_)
                      refine WL.e e_assign ?_
                      refine WL.next ?_
                      refine WP.seq ?_
                      refine WP.reg ?_
                      refine WL.e e_move <| WL.e e_eql <| WL.e e_move ?_
                      refine WL.bool 140 rfl (fun y1 => ?_) (fun y1 => ?_)
                      · skip
                        refine WL.e e_move <| WL.e e_eql <| WL.e e_pick_t <| WL.e e_move ?_
                        refine WL.bool 144 rfl (fun y2 => ?_) (fun y2 => ?_)
                        · skip
                          refine WL.e e_move <| WL.e e_eql <| WL.e e_pick_t <| WL.e e_move ?_
                          refine WL.bool 148 rfl (fun y3 => ?_) (fun y3 => ?_)
                          · skip
                            refine WL.e e_move <| WL.e e_eql <| WL.e e_pick_t <| WL.e e_move ?_
                            refine WL.bool 152 rfl (fun y4 => ?_) (fun y4 => ?_)
                            · skip
                              refine WL.h (h_call (lives_spec) k7 ?_)
                              refine WL.e e_pick_t <| WL.e e_assign ?_
                              refine WL.next ?_
                              refine WP.ret ?_
                              exact PO.finE Try.results3 (rv_tmp rv_nil) rfl hK
                            · exact absurd y4 (by decide) -- end
                          · exact absurd y3 (by decide) -- end
                        · exact absurd y2 (by decide) -- end
                      · exact absurd y1 (by decide) -- end

end Go.SL
