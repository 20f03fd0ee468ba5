import Derived.Test.YtdfomffmfnpfoaaGreatWD
import Derived.Test.YtdfomffmfnpfoaaGreatMB
import Derived.Test.YtdfomffmfnpfoaaGreatProg
import Derived.KernelRfl
set_option linter.unusedSimpArgs false
set_option linter.unusedVariables false
namespace Go.SL.WE
open Go Go.Proofs Go.SL
theorem a31 : aggOf Tryz.prog 31 = some none := by kernel_rfl
theorem a34 : aggOf Tryz.prog 34 = some (some 4) := by kernel_rfl
theorem a47 : aggOf Tryz.prog 47 = some none := by kernel_rfl
theorem f49_0 : fldOf Tryz.prog 49 0 = some 0 := by kernel_rfl
theorem f70_1 : fldOf Tryz.prog 70 1 = some 1 := by kernel_rfl
theorem k10 : callable Tryz.prog 10 = true := by kernel_rfl
theorem k11 : callable Tryz.prog 11 = true := by kernel_rfl
theorem k12 : callable Tryz.prog 12 = true := by kernel_rfl
theorem k13 : callable Tryz.prog 13 = true := by kernel_rfl
theorem k19 : callable Tryz.prog 19 = true := by kernel_rfl
theorem k21 : callable Tryz.prog 21 = true := by kernel_rfl
theorem k22 : callable Tryz.prog 22 = true := by kernel_rfl
theorem k23 : callable Tryz.prog 23 = true := by kernel_rfl
theorem k24 : callable Tryz.prog 24 = true := by kernel_rfl
theorem k40 : callable Tryz.prog 40 = true := by kernel_rfl
theorem k47 : callable Tryz.prog 47 = true := by kernel_rfl
theorem k9 : callable Tryz.prog 9 = true := by kernel_rfl
theorem p34 : placesOf Tryz.prog 34 = some [(0, 1), (1, 1), (2, 1), (3, 1)] := by kernel_rfl
theorem p79 : placesOf Tryz.prog 79 = some [(0, 1), (1, 1), (2, 1), (3, 1), (4, 1), (5, 1)] := by kernel_rfl
theorem pt26 : isPtr Tryz.prog 26 = true := by kernel_rfl
theorem s34 : szOf Tryz.prog 34 = some 4 := by kernel_rfl
theorem s49 : szOf Tryz.prog 49 = some 1 := by kernel_rfl
theorem sl121 : slOf Tryz.prog 121 = some (81, 1, 24) := by kernel_rfl
theorem sl47 : slOf Tryz.prog 47 = some (70, 2, 24) := by kernel_rfl
theorem z34 : zeroOf Tryz.prog 34 = some [.int .u8 0, .string .empty, .string .empty, .int .u32 0] := by kernel_rfl
theorem z49 : zeroOf Tryz.prog 49 = some [.slice none 0 0] := by kernel_rfl
theorem z79 : zeroOf Tryz.prog 79 = some [.pointer none, .pointer none, .map none, .int .u32 0, .slice none 0 0, .map none] := by kernel_rfl
end Go.SL.WE
namespace Go.SL
open Go Go.Proofs WE
theorem New0_spec {g : World} {dp : Nat} {d : DiskM} (hd : d.ok) (hw : d.waits.length < 4000000000) (hz : recs d.seen.flatten = []) (hc : cleanTo d.seen.flatten d 0 d.sure.length = d) : Spec Tryz.prog g 19 [.pointer (some ⟨dp, 0, none⟩)] [Dk dp d] fun K R => ∀ p, K (.tuple #[.pointer (some ⟨p, 0, none⟩), .int .i64 0]) (Gs p dp (gam0 d.sync) :: Txs [] :: R) := by
  refine Spec.intro Tryz.func19 rfl Tryz.ntmps19 rfl fun R K hK => ?_
  refine WP.seq ?_
  refine WP.reg ?_
  refine WL.e e_assign <| WL.e e_assign ?_
  refine WL.next ?_
  refine WP.seq ?_
  refine WP.reg ?_
  refine WL.e e_move ?_
  refine WL.h (h_call (Open_spec hd hw) k47 ?_)
  intro lp sv xs hx
  obtain rfl : xs = [] := by rw [hz] at hx; simpa using hx
  rw [show tot [] = 0 from rfl, Nat.sub_zero, hc]
  refine WL.e e_move <| WL.e e_extract <| WL.e e_extract <| WL.e e_extract <| WL.e e_assign <| WL.e e_assign <| WL.e e_assign ?_
  refine WL.next ?_
  refine WP.seq ?_
  refine WP.seq ?_
  refine WP.reg ?_
  refine WL.e e_move <| WL.e e_neq ?_
  refine WL.next ?_
  refine WP.cond_f rfl ?_
  refine WP.skip ?_
  refine PO.next ?_
  refine WP.seq ?_
  refine WP.reg ?_
  refine WL.e e_move ?_
  refine WL.h (h_call (MNew_spec) k40 ?_)
  intro mp
  refine WL.h (h_makeMapB (ek := eStr) fun nb => ?_)
  refine WL.h (h_makeMapB (ek := eU32) fun mb => ?_)
  refine WL.e (e_build z79 p79 (.o (.tmp 22) rfl <| .o (.tmp 23) rfl <| .o (.tmp 24) rfl <| .z (.int .u32 0) <| .z (.slice none 0 0) <| .o (.tmp 25) rfl <| .n)) ?_
  refine WL.h (h_box fun b1 => ?_)
  refine WL.e e_assign ?_
  refine WL.next ?_
  refine WP.seq ?_
  refine WP.seq ?_
  refine WP.reg ?_
  refine WL.e e_move ?_
  refine WL.e (el_len (xs := ([] : List RecV)) sl121 sl_rl) <| WL.e e_move ?_
  refine WL.next ?_
  refine WP.block ?_
  refine WP.loopK (fun (_ : Unit) => [(30, .int .i64 0)]) (fun (_ : Unit) => cl b1 79 [.pointer (some ⟨lp, 0, none⟩), .pointer (some ⟨mp, 0, none⟩), (.map (some nb)), .int .u32 0, .slice none 0 0, (.map (some mb))] :: cl lp 143 [.pointer (some ⟨dp, 0, none⟩), .int .i64 0] :: Dk dp d.sync :: Mm mp [] :: Mp eStr (.map (some nb)) ([] : List (ByteArray × Value)) :: Mp eU32 (.map (some mb)) ([] : List (UInt32 × Value)) :: R) [(7, _), (28, _), (29, _)] (fun (_ : Unit) => True) (fun (_ : Unit) => 0) () (trivial) ?_
  intro _ _
  refine WP.seq ?_
  refine WP.reg ?_
  refine WL.e e_lss ?_
  refine WL.next ?_
  refine WP.seq ?_
  refine WP.cond rfl (fun h1 => ?_) (fun h1 => ?_)
  · simp at h1
  · skip
    refine WP.exit ?_
    refine PO.past nofun ?_
    refine PO.round nofun ?_
    refine PO.blockX ?_
    refine PO.next ?_
    refine WP.seq ?_
    refine WP.reg ?_
    refine WL.e e_move <| WL.e e_assign <| WL.e e_assign ?_
    refine WL.next ?_
    refine WP.ret ?_
    refine PO.nils 105 3 lookC none ?_
    refine PO.cls (A := Gs b1 dp (gam0 d.sync)) (B := [cl b1 79 [.pointer (some ⟨lp, 0, none⟩), .pointer (some ⟨mp, 0, none⟩), (.map (some nb)), .int .u32 0, .slice none 0 0, (.map (some mb))], cl lp 143 [.pointer (some ⟨dp, 0, none⟩), .int .i64 0], Dk dp d.sync, Mm mp [], Mp eStr (.map (some nb)) ([] : List (ByteArray × Value)), Sl 105 3 lookC (.slice none 0 0) [], Mp eU32 (.map (some mb)) ([] : List (UInt32 × Value))]) (fun S h => ⟨⟨lp, mp, .map (some nb), .map (some mb), ⟨none, 0, 0⟩⟩, h⟩) ?_
    refine PO.conv (M := Txs [] :: _) (fun S h => bun_stars (L := []) h) ?_
    exact PO.fin Tryz.results19 (rv_tmp (rv_tmp rv_nil)) (hK b1)

theorem opened_spec {g : World} : Spec Tryz.prog g 9 [] [] fun K R => ∀ dp p d, Quiet d → K (.tuple #[.pointer (some ⟨dp, 0, none⟩), .pointer (some ⟨p, 0, none⟩)]) (Gs p dp (gam0 d) :: Txs [] :: R) := by
  refine Spec.intro Tryz.func9 rfl Tryz.ntmps9 rfl fun R K hK => ?_
  refine WP.seq ?_
  refine WP.reg ?_
  refine WL.e e_assign <| WL.e e_assign ?_
  refine WL.next ?_
  refine WP.seq ?_
  refine WP.reg ?_
  refine WL.h (h_call (New_spec 4096 (by decide)) k23 ?_)
  refine ⟨fun h => absurd h (by omega), fun _ _ dp => ?_⟩
  refine WL.e e_move <| WL.e e_extract <| WL.e e_extract <| WL.e e_assign <| WL.e e_assign ?_
  refine WL.next ?_
  refine WP.seq ?_
  refine WP.reg ?_
  refine WL.e e_move ?_
  refine WL.h (h_call (New0_spec (d := newDisk 4096) newDisk_quiet.ok (by rw [newDisk_quiet.waits]; simp) (by rw [new_flat]; exact recs_zero _ (by decide)) (by rw [newDisk_quiet.len]; exact new_clean)) k19 ?_)
  intro p
  refine WL.e e_move <| WL.e e_extract <| WL.e e_extract <| WL.e e_assign <| WL.e e_assign ?_
  refine WL.next ?_
  refine WP.seq ?_
  refine WP.seq ?_
  refine WP.reg ?_
  refine WL.e e_move <| WL.e e_neq <| WL.e e_move ?_
  refine WL.bool 17 rfl (fun hg => ?_) (fun hg => ?_)
  · exact absurd hg (by decide) -- end
  · skip
    refine WL.e e_move <| WL.e e_neq <| WL.e e_pick_f ?_
    refine WL.next ?_
    refine WP.cond_f rfl ?_
    refine WP.skip ?_
    refine PO.next ?_
    refine WP.seq ?_
    refine WP.reg ?_
    refine WL.e e_move <| WL.e e_move <| WL.e e_assign <| WL.e e_assign ?_
    refine WL.next ?_
    refine WP.ret ?_
    exact PO.fin Tryz.results9 (rv_tmp (rv_tmp rv_nil)) (hK dp p (newDisk 4096).sync newDisk_quiet)

theorem lput_spec {g : World} (k : ByteArray) (v : UInt32) : Spec Tryz.prog g 22 [.string k, .int .u32 v.toNat] [] fun K R => K (opPut k v).v R := by
  refine Spec.intro Tryz.func22 rfl Tryz.ntmps22 rfl fun R K hK => ?_
  refine WP.seq ?_
  refine WP.reg ?_
  refine WL.h (h_alloc z34 fun b1 => ?_)
  refine WL.next ?_
  refine WP.seq ?_
  refine WP.reg ?_
  refine WL.e e_move <| WL.e e_move <| WL.e (e_build z34 p34 (.o (.const (.int .u8 2)) rfl <| .o (.tmp 5) rfl <| .z (.string .empty) <| .o (.tmp 6) rfl <| .n)) ?_
  refine WL.h' (h_store s34 ?_)
  refine WL.next ?_
  refine WP.ret ?_
  exact PO.fin Tryz.results22 (rv_cellN a34 rv_nil) hK

theorem lget_spec {g : World} (k : ByteArray) : Spec Tryz.prog g 21 [.string k] [] fun K R => K (opGet k).v R := by
  refine Spec.intro Tryz.func21 rfl Tryz.ntmps21 rfl fun R K hK => ?_
  refine WP.seq ?_
  refine WP.reg ?_
  refine WL.h (h_alloc z34 fun b1 => ?_)
  refine WL.next ?_
  refine WP.seq ?_
  refine WP.reg ?_
  refine WL.e e_move <| WL.e (e_build z34 p34 (.o (.const (.int .u8 1)) rfl <| .o (.tmp 3) rfl <| .z (.string .empty) <| .z (.int .u32 0) <| .n)) ?_
  refine WL.h' (h_store s34 ?_)
  refine WL.next ?_
  refine WP.ret ?_
  exact PO.fin Tryz.results21 (rv_cellN a34 rv_nil) hK

theorem there_nil {g : World} : Spec Tryz.prog g 24 [.pointer none] [] fun K R => K (.bool false) R := by
  refine Spec.intro Tryz.func24 rfl Tryz.ntmps24 rfl fun R K hK => ?_
  refine WP.seq ?_
  refine WP.reg ?_
  refine WL.e e_assign ?_
  refine WL.next ?_
  refine WP.seq ?_
  refine WP.reg ?_
  refine WL.e e_move <| WL.e (e_pne pt26) <| WL.e e_move ?_
  refine WL.bool 5 rfl (fun h => ?_) (fun h => ?_)
  · cases h -- end
  · skip
    refine WL.skip <| WL.skip <| WL.skip <| WL.skip <| WL.skip <| WL.e e_pick_f <| WL.e e_assign ?_
    refine WL.next ?_
    refine WP.ret ?_
    exact PO.fin Tryz.results24 (rv_tmp rv_nil) hK

theorem Begin_nil {g : World} (n : UInt32) : Spec Tryz.prog g 10 [.pointer none, .int .u32 n.toNat] [] fun K R => K (.int .i64 2) R := by
  refine Spec.intro Tryz.func10 rfl Tryz.ntmps10 rfl fun R K hK => ?_
  refine WP.seq ?_
  refine WP.reg ?_
  refine WL.e e_assign ?_
  refine WL.next ?_
  refine WP.seq ?_
  refine WP.block ?_
  refine WP.seq ?_
  refine WP.reg ?_
  refine WL.e e_move ?_
  refine WL.h (h_call (there_nil) k24 ?_)
  refine WL.e e_not <| WL.e e_assign ?_
  refine WL.next ?_
  refine WP.cond_t rfl ?_
  refine WP.seq ?_
  refine WP.reg ?_
  refine WL.e e_assign ?_
  refine WL.next ?_
  refine WP.ret ?_
  refine PO.blockR ?_
  refine PO.past nofun ?_
  exact PO.fin Tryz.results10 (rv_tmp rv_nil) hK

set_option maxHeartbeats 4000000 in
theorem lives_spec {g : World} : Spec Tryz.prog g 8 [] [] fun K R => K (.bool true) R := by
  refine Spec.intro Tryz.func8 rfl Tryz.ntmps8 rfl fun R K hK => ?_
  refine WP.seq ?_
  refine WP.reg ?_
  refine WL.e e_assign ?_
  refine WL.next ?_
  refine WP.seq ?_
  refine WP.reg ?_
  refine WL.h (h_call (opened_spec) k9 ?_)
  intro dp p d hq
  refine WL.e e_move <| WL.e e_extract <| WL.e e_extract <| WL.e e_assign <| WL.e e_assign ?_
  refine WL.next ?_
  refine WP.seq ?_
  refine WP.seq ?_
  refine WP.reg ?_
  refine WL.e e_move <| WL.e (e_peq pt26) <| WL.e e_move ?_
  refine WL.bool 18 rfl (fun hg => ?_) (fun hg => ?_)
  · cases hg -- end
  · skip
    refine WL.e e_move ?_
    refine WL.h (h_call (Begin_spec (s := gam0 d) 7) k10 ?_)
    intro q1
    rw [(lv_1 d q1).1, (lv_1 d q1).2]
    have hG1 : GamOk (lv1 d q1) 0 := (lv_1 d q1).2 ▸ (gam0_ok hq).beg 7 q1
    refine WL.e e_neq <| WL.e e_pick_f <| WL.e e_move ?_
    refine WL.bool 23 rfl (fun hg2 => ?_) (fun hg2 => ?_)
    · exact absurd hg2 (by decide) -- end
    · skip
      refine WL.e e_move ?_
      refine WL.h (h_call (Begin_spec (s := lv1 d q1) 8) k10 ?_)
      intro q2
      rw [(lv_2 d q1 q2).1, (lv_2 d q1 q2).2]
      have hG2 : GamOk (lv2 d q1 q2) 0 := (lv_2 d q1 q2).2 ▸ hG1.beg 8 q2
      refine WL.e e_neq <| WL.e e_pick_f ?_
      refine WL.next ?_
      refine WP.cond_f rfl ?_
      refine WP.skip ?_
      refine PO.next ?_
      refine WP.seq ?_
      refine WP.reg ?_
      refine WL.e e_move ?_
      refine WL.h (h_call (lget_spec kA) k21 ?_)
      refine WL.h (h_call (Do_spec (s := lv2 d q1 q2) 8 (opGet kA) hG2) k13 ?_)
      rw [lv_3 d q1 q2]
      intro a1 m1 c1
      have hG3 := hG2.look (by decide) (t8 q2) (one kA)
      refine WL.next ?_
      refine WP.seq ?_
      refine WP.reg ?_
      refine WL.e e_move ?_
      refine WL.h (h_call (lput_spec kA 5) k22 ?_)
      refine WL.h (h_call (Do_spec (s := lookG (lv2 d q1 q2) (t8 q2) (one kA)) 7 (opPut kA 5) hG3) k13 ?_)
      rw [lv_4 d q1 q2]
      have hG4 : GamOk (lv4 d q2) 1 := lv_4e d q1 q2 ▸ hG3.ends 7
      refine WL.e e_move <| WL.e e_extract <| WL.e e_extract ?_
      refine WL.h (h_alloc z49 fun b1 => ?_)
      refine WL.h' (h_store s49 ?_)
      refine WL.e e_assign ?_
      refine WL.next ?_
      refine WP.seq ?_
      refine WP.reg ?_
      refine WL.e e_move ?_
      refine WL.h (h_call (Begin_spec (s := lv4 d q2) 9) k10 ?_)
      intro q3
      rw [(lv_5 d q2 q3).1, (lv_5 d q2 q3).2]
      have hG5 : GamOk (lv5 d q2 q3) 1 := (lv_5 d q2 q3).2 ▸ hG4.beg 9 q3
      refine WL.next ?_
      refine WP.seq ?_
      refine WP.reg ?_
      refine WL.e e_move ?_
      refine WL.h (h_call (Begin_spec (s := lv5 d q2 q3) 4) k10 ?_)
      intro q4
      rw [(lv_6 d q2 q3 q4).1, (lv_6 d q2 q3 q4).2]
      have hG6 : GamOk (lv6 d q2 q3 q4 [] sv0) 1 := (lv_6 d q2 q3 q4).2 ▸ hG5.beg 4 q4
      refine WL.next ?_
      refine WP.seq ?_
      refine WP.reg ?_
      refine WL.e e_move ?_
      refine WL.h (h_call (lput_spec kB 1) k22 ?_)
      refine WL.h (h_call (Do_spec (s := lv6 d q2 q3 q4 [] sv0) 9 (opPut kB 1) hG6) k13 ?_)
      rw [lv_7 d q2 q3 q4]
      intro sv7
      rw [lv_7' d q2 q3 q4 sv7]
      have hG7 : GamOk (lv6 d q2 q3 q4 [⟨kB, 1, false⟩] sv7) 2 := lv_7' d q2 q3 q4 sv7 ▸ hG6.put (by decide) (t := t9 q3 [] sv0) (by simp [lv6]) ⟨kB, 1, false⟩ (by simp [chgOk, keyB]) sv7
      refine WL.next ?_
      refine WP.seq ?_
      refine WP.reg ?_
      refine WL.e e_move ?_
      refine WL.h (h_call (lget_spec kB) k21 ?_)
      refine WL.h (h_call (Do_spec (s := lv6 d q2 q3 q4 [⟨kB, 1, false⟩] sv7) 4 (opGet kB) hG7) k13 ?_)
      rw [lv_8 d q2 q3 q4 sv7]
      refine WL.e e_move <| WL.e e_extract <| WL.e e_extract ?_
      refine WL.h (h_alloc z49 fun b2 => ?_)
      refine WL.h' (h_store s49 ?_)
      refine WL.e e_assign ?_
      refine WL.next ?_
      refine WP.seq ?_
      refine WP.reg ?_
      refine WL.e e_move ?_
      refine WL.h (h_call (Commit_spec (s := lv6 d q2 q3 q4 [⟨kB, 1, false⟩] sv7) 9 hG7) k11 ?_)
      obtain ⟨e1, e2, e3, e4, e5⟩ := lv_9 d hq q2 q3 q4 sv7
      have hG8 := hG7.com 9
      rw [e1, e2]
      generalize comG (lv6 d q2 q3 q4 [⟨kB, 1, false⟩] sv7) 9 = s8 at e3 e4 e5 hG8 ⊢
      refine WL.e e_move <| WL.e e_extract <| WL.e e_extract <| WL.e e_assign <| WL.e e_assign ?_
      refine WL.next ?_
      refine WP.seq ?_
      refine WP.reg ?_
      refine WL.e e_move ?_
      refine WL.h (h_call (lget_spec kB) k21 ?_)
      refine WL.h (h_call (Do_spec (s := s8) 4 (opGet kB) hG8) k13 ?_)
      rw [lv_10 e4 e5]
      intro a9 m9 c9
      rw [span_get, lv_11 e3]
      have hG9 := hG8.look (by decide) (t4' q4) (one kB)
      refine WL.e e_move <| WL.e e_extract <| WL.e e_extract ?_
      refine WL.h (h_alloc z49 fun b3 => ?_)
      refine WL.h' (h_store s49 ?_)
      refine WL.e e_assign ?_
      refine WL.next ?_
      refine WP.seq ?_
      refine WP.reg ?_
      refine WL.e e_assign ?_
      refine WL.next ?_
      refine WP.seq ?_
      refine WP.reg ?_
      refine WL.e e_move <| WL.e e_eql <| WL.e e_move ?_
      refine WL.bool 63 rfl (fun y1 => ?_) (fun y1 => ?_)
      · skip
        refine WL.e e_move <| WL.e e_eql <| WL.e e_pick_t <| WL.e e_move ?_
        refine WL.bool 67 rfl (fun y2 => ?_) (fun y2 => ?_)
        · skip
          refine WL.e e_move <| WL.e (e_eql32 (b := 3)) <| WL.e e_pick_t <| WL.e e_move ?_
          refine WL.bool 71 rfl (fun y3 => ?_) (fun y3 => ?_)
          · skip
            refine WL.e e_move <| WL.e e_eql <| WL.e e_pick_t <| WL.e e_move ?_
            refine WL.bool 75 rfl (fun y4 => ?_) (fun y4 => ?_)
            · skip
              refine WL.e e_move <| WL.e e_eql <| WL.e e_pick_t <| WL.e e_move ?_
              refine WL.bool 79 rfl (fun y5 => ?_) (fun y5 => ?_)
              · skip
                refine WL.e (e_fa f49_0) <| WL.e (e_load a47) ?_
                refine WL.e (el_len (xs := [(⟨kB, 1⟩ : RowM)]) sl47 sl_rl) <| WL.e e_eql <| WL.e e_pick_t <| WL.e e_move ?_
                refine WL.bool 85 rfl (fun y6 => ?_) (fun y6 => ?_)
                · skip
                  refine WL.e (e_fa f49_0) <| WL.e (e_load a47) ?_
                  refine WL.e (el_ia (j := 0) (xs := [(⟨kB, 1⟩ : RowM)]) sl47 sl_rl (by decide)) ?_
                  refine WL.e (el_fa (z := 2) (j := 0) (xs := [(⟨kB, 1⟩ : RowM)]) f70_1 sl_rl (by decide)) ?_
                  refine WL.e (el_load (j := 0) (f := 1) (a := (⟨kB, 1⟩ : RowM)) a31 rowE (sl_rl (xs := [(⟨kB, 1⟩ : RowM)])) rfl) <| WL.e (e_eql32 (b := 1)) <| WL.e e_pick_t <| WL.e e_move ?_
                  refine WL.bool 93 rfl (fun y7 => ?_) (fun y7 => ?_)
                  · skip
                    refine WL.e e_move ?_
                    refine WL.h (h_call (Begin_spec (s := (lookG s8 (t4' q4) (one kB))) 0) k10 ?_)
                    intro q
                    rw [(lv_12 (s := (lookG s8 (t4' q4) (one kB)))).1, (lv_12 (s := (lookG s8 (t4' q4) (one kB)))).2 q]
                    refine WL.e e_eql <| WL.e e_pick_t <| WL.e e_move ?_
                    refine WL.bool 98 rfl (fun y8 => ?_) (fun y8 => ?_)
                    · skip
                      refine WL.e e_move ?_
                      refine WL.h (h_call (Abort_spec (s := (lookG s8 (t4' q4) (one kB))) 7 hG9) k12 ?_)
                      rw [(lv_13 (s := (lookG s8 (t4' q4) (one kB))) e5).1, (lv_13 (s := (lookG s8 (t4' q4) (one kB))) e5).2]
                      refine WL.e e_eql <| WL.e e_pick_t <| WL.e e_move ?_
                      refine WL.bool 103 rfl (fun y9 => ?_) (fun y9 => ?_)
                      · skip
                        refine WL.e e_move ?_
                        refine WL.h (h_call (Begin_nil 1) k10 ?_)
                        refine WL.e e_eql <| WL.e e_pick_t <| WL.e e_assign ?_
                        refine WL.next ?_
                        refine WP.ret ?_
                        exact PO.finE Tryz.results8 (rv_tmp rv_nil) rfl hK
                      · exact absurd y9 (by decide) -- end
                    · exact absurd y8 (by decide) -- end
                  · exact absurd y7 (by decide) -- end
                · exact absurd y6 (by decide) -- end
              · exact absurd y5 (by decide) -- end
            · exact absurd y4 (by decide) -- end
          · exact absurd y3 (by decide) -- end
        · exact absurd y2 (by decide) -- end
      · exact absurd y1 (by decide) -- end

end Go.SL
