/- VF VH SLv: rules and walks, several texts in one. -/
import Derived.Test.YtdpmpcoekkhceaaGreatQS19
import Derived.Test.YtdpmpcoekkhceaaGreatProg
import Derived.KernelRfl
import Derived.Deep.Slices
import Derived.ChangeSame
import Derived.SizedLaws
set_option linter.unusedSimpArgs false
set_option linter.unusedVariables false
namespace Go.SL.VF
open Go Go.Proofs Go.SL
theorem a29 : aggOf Tryz.prog 29 = some none := by kernel_rfl
theorem a36 : aggOf Tryz.prog 36 = some (some 4) := by kernel_rfl
theorem f31_0 : fldOf Tryz.prog 31 0 = some 0 := by kernel_rfl
theorem k14 : callable Tryz.prog 14 = true := by kernel_rfl
theorem k15 : callable Tryz.prog 15 = true := by kernel_rfl
theorem k16 : callable Tryz.prog 16 = true := by kernel_rfl
theorem k17 : callable Tryz.prog 17 = true := by kernel_rfl
theorem k18 : callable Tryz.prog 18 = true := by kernel_rfl
theorem k19 : callable Tryz.prog 19 = true := by kernel_rfl
theorem k20 : callable Tryz.prog 20 = true := by kernel_rfl
theorem k31 : callable Tryz.prog 31 = true := by kernel_rfl
theorem k44 : callable Tryz.prog 44 = true := by kernel_rfl
theorem k45 : callable Tryz.prog 45 = true := by kernel_rfl
theorem k46 : callable Tryz.prog 46 = true := by kernel_rfl
theorem p36 : placesOf Tryz.prog 36 = some [(0, 1), (1, 1), (2, 1), (3, 1)] := by kernel_rfl
theorem pt24 : isPtr Tryz.prog 24 = true := by kernel_rfl
theorem s31 : szOf Tryz.prog 31 = some 1 := by kernel_rfl
theorem s36 : szOf Tryz.prog 36 = some 4 := by kernel_rfl
theorem sl29 : slOf Tryz.prog 29 = some (40, 2, 24) := by kernel_rfl
theorem sl52 : slOf Tryz.prog 52 = some (58, 8, 72) := by kernel_rfl
theorem z31 : zeroOf Tryz.prog 31 = some [.slice none 0 0] := by kernel_rfl
theorem z36 : zeroOf Tryz.prog 36 = some [.int .u8 0, .string .empty, .string .empty, .int .u32 0] := by kernel_rfl
end Go.SL.VF
namespace Go.SL
open Go Go.Proofs VF
theorem opened_spec {g : World} : Spec Tryz.prog g 14 [] [] fun K R => ∀ dp p, K (.tuple #[.pointer (some ⟨dp, 0, none⟩), .pointer (some ⟨p, 0, none⟩)]) (Bs p dp stF :: TxsU TPB [] :: R) := by
  refine Spec.intro Tryz.func14 rfl Tryz.ntmps14 rfl fun R K hK => ?_
  refine WP.seq ?_
  refine WP.reg ?_
  refine WL.e e_assign <| WL.e e_assign ?_
  refine WL.next ?_
  refine WP.seq ?_
  refine WP.reg ?_
  refine WL.h (h_call (New_spec 4096 (by decide)) k45 ?_)
  refine ⟨fun h => absurd h (by omega), fun _ _ dp => ?_⟩
  refine WL.e e_move <| WL.e e_extract <| WL.e e_extract <| WL.e e_assign <| WL.e e_assign ?_
  refine WL.next ?_
  refine WP.seq ?_
  refine WP.reg ?_
  refine WL.e e_move ?_
  refine WL.h (h_call (BNew_spec (d := newDisk 4096) (at0 := 0) [] DiskLogB.first (by simp)) k44 ?_)
  intro p
  refine WL.e e_move <| WL.e e_extract <| WL.e e_extract <| WL.e e_assign <| WL.e e_assign ?_
  refine WL.next ?_
  refine WP.seq ?_
  refine WP.seq ?_
  refine WP.reg ?_
  refine WL.e e_move <| WL.e e_neq <| WL.e e_move ?_
  refine WL.bool 17 rfl (fun hg => ?_) (fun hg => ?_)
  · exact absurd hg (by decide) -- end
  · skip
    refine WL.e e_move <| WL.e e_neq <| WL.e e_pick_f ?_
    refine WL.next ?_
    refine WP.cond_f rfl ?_
    refine WP.skip ?_
    refine PO.next ?_
    refine WP.seq ?_
    refine WP.reg ?_
    refine WL.e e_move <| WL.e e_move <| WL.e e_assign <| WL.e e_assign ?_
    refine WL.next ?_
    refine WP.ret ?_
    exact PO.fin Tryz.results14 (rv_tmp (rv_tmp rv_nil)) (hK dp p)
theorem lput_spec {g : World} (k : ByteArray) (v : UInt32) : Spec Tryz.prog g 18 [.string k, .int .u32 v.toNat] [] fun K R => K (opPut k v).v R := by
  refine Spec.intro Tryz.func18 rfl Tryz.ntmps18 rfl fun R K hK => ?_
  refine WP.seq ?_
  refine WP.reg ?_
  refine WL.h (h_alloc z36 fun b1 => ?_)
  refine WL.next ?_
  refine WP.seq ?_
  refine WP.reg ?_
  refine WL.e e_move <| WL.e e_move <| WL.e (e_build z36 p36 (.o (.const (.int .u8 2)) rfl <| .o (.tmp 5) rfl <| .z (.string .empty) <| .o (.tmp 6) rfl <| .n)) ?_
  refine WL.h' (h_store s36 ?_)
  refine WL.next ?_
  refine WP.ret ?_
  exact PO.fin Tryz.results18 (rv_cellN a36 rv_nil) hK
theorem lget_spec {g : World} (k : ByteArray) : Spec Tryz.prog g 17 [.string k] [] fun K R => K (opGet k).v R := by
  refine Spec.intro Tryz.func17 rfl Tryz.ntmps17 rfl fun R K hK => ?_
  refine WP.seq ?_
  refine WP.reg ?_
  refine WL.h (h_alloc z36 fun b1 => ?_)
  refine WL.next ?_
  refine WP.seq ?_
  refine WP.reg ?_
  refine WL.e e_move <| WL.e (e_build z36 p36 (.o (.const (.int .u8 1)) rfl <| .o (.tmp 3) rfl <| .z (.string .empty) <| .z (.int .u32 0) <| .n)) ?_
  refine WL.h' (h_store s36 ?_)
  refine WL.next ?_
  refine WP.ret ?_
  exact PO.fin Tryz.results17 (rv_cellN a36 rv_nil) hK
theorem there_nil {g : World} : Spec Tryz.prog g 46 [.pointer none] [] fun K R => K (.bool false) R := by
  refine Spec.intro Tryz.func46 rfl Tryz.ntmps46 rfl fun R K hK => ?_
  refine WP.seq ?_
  refine WP.reg ?_
  refine WL.e e_assign ?_
  refine WL.next ?_
  refine WP.seq ?_
  refine WP.reg ?_
  refine WL.e e_move <| WL.e (e_pne pt24) <| WL.e e_move ?_
  refine WL.bool 5 rfl (fun h => ?_) (fun h => ?_)
  · cases h -- end
  · skip
    refine WL.skip <| WL.skip <| WL.skip <| WL.skip <| WL.skip <| WL.e e_pick_f <| WL.e e_assign ?_
    refine WL.next ?_
    refine WP.ret ?_
    exact PO.fin Tryz.results46 (rv_tmp rv_nil) hK
theorem Begin_nil {g : World} (n : UInt32) : Spec Tryz.prog g 15 [.pointer none, .int .u32 n.toNat] [] fun K R => K (.int .i64 2) R := by
  refine Spec.intro Tryz.func15 rfl Tryz.ntmps15 rfl fun R K hK => ?_
  refine WP.seq ?_
  refine WP.reg ?_
  refine WL.e e_assign ?_
  refine WL.next ?_
  refine WP.seq ?_
  refine WP.block ?_
  refine WP.seq ?_
  refine WP.reg ?_
  refine WL.e e_move ?_
  refine WL.h (h_call (there_nil) k46 ?_)
  refine WL.e e_not <| WL.e e_assign ?_
  refine WL.next ?_
  refine WP.cond_t rfl ?_
  refine WP.seq ?_
  refine WP.reg ?_
  refine WL.e e_assign ?_
  refine WL.next ?_
  refine WP.ret ?_
  refine PO.blockR ?_
  refine PO.past nofun ?_
  exact PO.fin Tryz.results15 (rv_tmp rv_nil) hK
theorem great_spec {g : World} {A : HP} {u : Value} {xs : List ActM} (hA : RL A 8 ActM.c u xs) : Spec Tryz.prog g 30 [u] [A] fun K R => K (.bool (decide (150 < xs.length))) (A :: R) := by
  refine Spec.intro Tryz.func30 rfl Tryz.ntmps30 rfl fun R K hK => ?_
  refine WP.seq ?_
  refine WP.reg ?_
  refine WL.e e_assign ?_
  refine WL.next ?_
  refine WP.seq ?_
  refine WP.reg ?_
  refine WL.e e_move ?_
  refine WL.e (el_len (xs := xs) sl52 hA) <| WL.e e_gtr <| WL.e e_assign ?_
  refine WL.next ?_
  refine WP.ret ?_
  exact PO.finE Tryz.results30 (rv_tmp rv_nil) (by simp; omega) hK
set_option maxHeartbeats 4000000 in
theorem lives_spec {g : World} : Spec Tryz.prog g 21 [] [] fun K R => K (.bool true) R := by
  refine Spec.intro Tryz.func21 rfl Tryz.ntmps21 rfl fun R K hK => ?_
  refine WP.seq ?_
  refine WP.reg ?_
  refine WL.e e_assign ?_
  refine WL.next ?_
  refine WP.seq ?_
  refine WP.reg ?_
  refine WL.h (h_call (opened_spec) k14 ?_)
  intro dp p
  have h0 : AtS betaG stF [] [] 0 := AtS.first bet_first
  refine WL.e e_move <| WL.e e_extract <| WL.e e_extract <| WL.e e_assign <| WL.e e_assign ?_
  refine WL.next ?_
  refine WP.seq ?_
  refine WP.seq ?_
  refine WP.reg ?_
  refine WL.e e_move <| WL.e (e_peq pt24) <| WL.e e_move ?_
  refine WL.bool 18 rfl (fun hg => ?_) (fun hg => ?_)
  · cases hg -- end
  · skip
    refine WL.e e_move ?_
    refine WL.h (h_call (BBegin_spec (s := stF) 1) k15 ?_)
    intro q1
    obtain ⟨e0, h1⟩ := h0.beg 1 q1 (by decide) (by rfl) (by simp)
    rw [e0]
    generalize begS stF 1 q1 = s1 at h1 ⊢
    simp only [List.nil_append, List.cons_append] at h1
    refine WL.e e_neq <| WL.e e_pick_f <| WL.e e_move ?_
    refine WL.bool 23 rfl (fun hg2 => ?_) (fun hg2 => ?_)
    · exact absurd hg2 (by decide) -- end
    · skip
      refine WL.e e_move ?_
      refine WL.h (h_call (BBegin_spec (s := s1) 2) k15 ?_)
      intro q2
      obtain ⟨e0, h2⟩ := h1.beg 2 q2 (by decide) (by rfl) (by simp)
      rw [e0]
      generalize begS s1 2 q2 = s2 at h2 ⊢
      simp only [List.nil_append, List.cons_append] at h2
      refine WL.e e_neq <| WL.e e_pick_f ?_
      refine WL.next ?_
      refine WP.cond_f rfl ?_
      refine WP.skip ?_
      refine PO.next ?_
      refine WP.seq ?_
      refine WP.reg ?_
      refine WL.e e_move ?_
      refine WL.h (h_call (lget_spec kA) k17 ?_)
      refine WL.h (h_call (BDo_spec (s := s2) 1 (opGet kA) h2.ok) k16 ?_)
      obtain ⟨s3, e0, h3⟩ := h2.get (n := 1) rfl keyA (by decide)
      rw [e0]
      try simp only [setU, List.map_cons, List.map_nil, List.nil_append, List.cons_append] at h3
      try simp (config := { decide := true }) only [if_true, if_false] at h3
      intro a1 m1 c1
      refine WL.next ?_
      refine WP.seq ?_
      refine WP.reg ?_
      refine WL.e e_move ?_
      refine WL.h (h_call (lput_spec kA 5) k18 ?_)
      refine WL.h (h_call (BDo_spec (s := s3) 2 (opPut kA 5) h3.ok) k16 ?_)
      obtain ⟨s4, e0, h4⟩ := h3.put (n := 2) rfl keyA 5 (by decide)
      rw [e0]
      try simp only [setU, List.map_cons, List.map_nil, List.nil_append, List.cons_append] at h4
      try simp (config := { decide := true }) only [if_true, if_false] at h4
      refine WL.e e_move <| WL.e e_extract <| WL.e e_extract ?_
      refine WL.h (h_alloc z31 fun b1 => ?_)
      refine WL.h' (h_store s31 ?_)
      refine WL.e e_assign ?_
      refine WL.next ?_
      refine WP.seq ?_
      refine WP.reg ?_
      refine WL.e e_move ?_
      refine WL.h (h_call (BCommit_spec (s := s4) 2 h4.ok (by decide)) k19 ?_)
      obtain ⟨e0, e1, h5⟩ := h4.com (n := 2) rfl (by rw [h4.chk]; rfl) (by simp) (by simp) (by decide)
      rw [e0, e1]
      generalize comS betaI s4 2 = s5 at h5 ⊢
      refine WL.e e_move <| WL.e e_extract <| WL.e e_extract <| WL.e e_assign <| WL.e e_assign ?_
      refine WL.next ?_
      refine WP.seq ?_
      refine WP.reg ?_
      refine WL.e e_move ?_
      refine WL.h (h_call (lget_spec kA) k17 ?_)
      refine WL.h (h_call (BDo_spec (s := s5) 1 (opGet kA) h5.ok) k16 ?_)
      obtain ⟨s6, e0, h6⟩ := h5.get (n := 1) rfl keyA (by decide)
      rw [e0]
      try simp only [setU, List.map_cons, List.map_nil, List.nil_append, List.cons_append] at h6
      try simp (config := { decide := true }) only [if_true, if_false] at h6
      intro a2 m2 c2
      refine WL.e e_move <| WL.e e_extract <| WL.e e_extract ?_
      refine WL.h (h_alloc z31 fun b2 => ?_)
      refine WL.h' (h_store s31 ?_)
      refine WL.e e_assign ?_
      refine WL.next ?_
      refine WP.seq ?_
      refine WP.reg ?_
      refine WL.e e_move ?_
      refine WL.h (h_call (BCommit_spec (s := s6) 1 h6.ok (by decide)) k19 ?_)
      obtain ⟨e0, e1, h7⟩ := h6.comX (n := 1) rfl (by rw [h6.chk]; exact Bool.or_eq_true_iff.2 (.inl (since_one _ _))) (by decide)
      rw [e0, e1]
      generalize comS betaI s6 1 = s7 at h7 ⊢
      refine WL.e e_move <| WL.e e_extract <| WL.e e_extract <| WL.e e_assign <| WL.e e_assign ?_
      refine WL.next ?_
      refine WP.seq ?_
      refine WP.reg ?_
      refine WL.e e_assign ?_
      refine WL.next ?_
      refine WP.seq ?_
      refine WP.reg ?_
      refine WL.e e_move <| WL.e e_eql <| WL.e e_move ?_
      refine WL.bool 55 rfl (fun y1 => ?_) (fun y1 => ?_)
      · skip
        refine WL.e e_move <| WL.e (e_eql32 (b := 1)) <| WL.e e_pick_t <| WL.e e_move ?_
        refine WL.bool 59 rfl (fun y2 => ?_) (fun y2 => ?_)
        · skip
          refine WL.e e_move <| WL.e e_eql <| WL.e e_pick_t <| WL.e e_move ?_
          refine WL.bool 63 rfl (fun y3 => ?_) (fun y3 => ?_)
          · skip
            refine WL.e e_move <| WL.e e_eql <| WL.e e_pick_t <| WL.e e_move ?_
            refine WL.bool 67 rfl (fun y4 => ?_) (fun y4 => ?_)
            · skip
              refine WL.e (e_fa f31_0) <| WL.e (e_load a29) ?_
              refine WL.e (el_len (xs := ([] : List RowM)) sl29 sl_rl) <| WL.e e_eql <| WL.e e_pick_t <| WL.e e_move ?_
              refine WL.bool 73 rfl (fun y5 => ?_) (fun y5 => ?_)
              · skip
                refine WL.e e_move <| WL.e e_eql <| WL.e e_pick_t <| WL.e e_move ?_
                refine WL.bool 77 rfl (fun y6 => ?_) (fun y6 => ?_)
                · skip
                  refine WL.e e_move ?_
                  refine WL.h (h_call (BRows_spec (s := s7) h7.ok) k20 ?_)
                  intro a9 m9 c9
                  rw [show s7.rows = [(⟨kA, 5⟩ : RowM)] from h7.rows]
                  refine WL.e (el_len (xs := [(⟨kA, 5⟩ : RowM)]) sl29 sl_rl) <| WL.e e_eql <| WL.e e_pick_t <| WL.e e_move ?_
                  refine WL.bool 83 rfl (fun y7 => ?_) (fun y7 => ?_)
                  · skip
                    refine WL.e e_move ?_
                    refine WL.h (h_call (BBegin_spec (s := s7) 0) k15 ?_)
                    intro q9
                    rw [(beg_zero s7 q9).1, (beg_zero s7 q9).2]
                    refine WL.e e_eql <| WL.e e_pick_t <| WL.e e_move ?_
                    refine WL.bool 88 rfl (fun y8 => ?_) (fun y8 => ?_)
                    · skip
                      refine WL.e e_move ?_
                      refine WL.h (h_call (BAbort_spec (s := s7) 9 h7.ok) k31 ?_)
                      obtain ⟨e0, e1⟩ := h7.abo0 (n := 9) rfl
                      rw [e0, e1]
                      refine WL.e e_eql <| WL.e e_pick_t <| WL.e e_move ?_
                      refine WL.bool 93 rfl (fun y9 => ?_) (fun y9 => ?_)
                      · skip
                        refine WL.e e_move ?_
                        refine WL.h (h_call (Begin_nil 1) k15 ?_)
                        refine WL.e e_eql <| WL.e e_pick_t <| WL.e e_assign ?_
                        refine WL.next ?_
                        refine WP.ret ?_
                        exact PO.finE Tryz.results21 (rv_tmp rv_nil) rfl hK
                      · exact absurd y9 (by decide) -- end
                    · exact absurd y8 (by decide) -- end
                  · exact absurd y7 (by decide) -- end
                · exact absurd y6 (by decide) -- end
              · exact absurd y5 (by decide) -- end
            · exact absurd y4 (by decide) -- end
          · exact absurd y3 (by decide) -- end
        · exact absurd y2 (by decide) -- end
      · exact absurd y1 (by decide) -- end
end Go.SL
set_option linter.unusedSimpArgs false
set_option linter.unusedVariables false
namespace Go.SL.VH
open Go Go.Proofs Go.SL
theorem a22 : aggOf Tryz.prog 22 = some none := by kernel_rfl
theorem a31 : aggOf Tryz.prog 31 = some (some 1) := by kernel_rfl
theorem a36 : aggOf Tryz.prog 36 = some (some 4) := by kernel_rfl
theorem a5 : aggOf Tryz.prog 5 = some none := by kernel_rfl
theorem a58 : aggOf Tryz.prog 58 = some (some 8) := by kernel_rfl
theorem a60 : aggOf Tryz.prog 60 = some none := by kernel_rfl
theorem a61 : aggOf Tryz.prog 61 = some none := by kernel_rfl
theorem a63 : aggOf Tryz.prog 63 = some (some 3) := by kernel_rfl
theorem f58_0 : fldOf Tryz.prog 58 0 = some 0 := by kernel_rfl
theorem f58_1 : fldOf Tryz.prog 58 1 = some 1 := by kernel_rfl
theorem f58_2 : fldOf Tryz.prog 58 2 = some 2 := by kernel_rfl
theorem f63_0 : fldOf Tryz.prog 63 0 = some 0 := by kernel_rfl
theorem f63_1 : fldOf Tryz.prog 63 1 = some 1 := by kernel_rfl
theorem f63_2 : fldOf Tryz.prog 63 2 = some 2 := by kernel_rfl
theorem k14 : callable Tryz.prog 14 = true := by kernel_rfl
theorem k15 : callable Tryz.prog 15 = true := by kernel_rfl
theorem k16 : callable Tryz.prog 16 = true := by kernel_rfl
theorem k19 : callable Tryz.prog 19 = true := by kernel_rfl
theorem k20 : callable Tryz.prog 20 = true := by kernel_rfl
theorem k21 : callable Tryz.prog 21 = true := by kernel_rfl
theorem k30 : callable Tryz.prog 30 = true := by kernel_rfl
theorem k31 : callable Tryz.prog 31 = true := by kernel_rfl
theorem k32 : callable Tryz.prog 32 = true := by kernel_rfl
theorem k33 : callable Tryz.prog 33 = true := by kernel_rfl
theorem k34 : callable Tryz.prog 34 = true := by kernel_rfl
theorem mixedOk : Tryz.prog.follows .mixedOrders = true := by kernel_rfl
theorem p63 : placesOf Tryz.prog 63 = some [(0, 1), (1, 1), (2, 1)] := by kernel_rfl
theorem pt24 : isPtr Tryz.prog 24 = true := by kernel_rfl
theorem pt59 : isPtr Tryz.prog 59 = true := by kernel_rfl
theorem s22 : szOf Tryz.prog 22 = some 1 := by kernel_rfl
theorem s31 : szOf Tryz.prog 31 = some 1 := by kernel_rfl
theorem s58 : szOf Tryz.prog 58 = some 8 := by kernel_rfl
theorem s60 : szOf Tryz.prog 60 = some 1 := by kernel_rfl
theorem s61 : szOf Tryz.prog 61 = some 1 := by kernel_rfl
theorem sl52 : slOf Tryz.prog 52 = some (58, 8, 72) := by kernel_rfl
theorem sl55 : slOf Tryz.prog 55 = some (63, 3, 56) := by kernel_rfl
theorem sl60 : slOf Tryz.prog 60 = some (36, 4, 48) := by kernel_rfl
theorem sl61 : slOf Tryz.prog 61 = some (31, 1, 24) := by kernel_rfl
theorem z31 : zeroOf Tryz.prog 31 = some [.slice none 0 0] := by kernel_rfl
theorem z36 : zeroOf Tryz.prog 36 = some [.int .u8 0, .string .empty, .string .empty, .int .u32 0] := by kernel_rfl
theorem z58 : zeroOf Tryz.prog 58 = some [.int .u8 0, .int .u32 0, .int .u8 0, .string .empty, .string .empty, .int .u32 0, .int .u64 0, .int .i64 0] := by kernel_rfl
theorem z63 : zeroOf Tryz.prog 63 = some [.int .u32 0, .slice none 0 0, .slice none 0 0] := by kernel_rfl
theorem zz59 : (Tryz.prog.info? 59).bind (·.zero) = some (.pointer none) := by kernel_rfl
end Go.SL.VH
namespace Go.SL
open Go Go.Proofs VH
def didL (d : DidV) : List HP := [cl d.p 63 [.int .u32 (d.num).toNat, d.os.v, d.ls.v], Sl 36 4 OpM.c d.os.v d.ops, Sl 31 1 resC d.ls.v d.l, ResR d.l]
def comL (d : DidV) : List HP := [Sl 36 4 OpM.c d.os.v d.ops, Sl 31 1 resC d.ls.v d.l, ResR d.l]
def Dids (F : List DidV) : HP := bun (F.map fun d => bun (didL d))
def Coms (F : List DidV) : HP := bun (F.map fun d => bun (comL d))
theorem Dids_nil {L : List HP} {S : Piece} (h : stars L S) : stars (Dids [] :: L) S := bun_stars (L := []) h
theorem Coms_nil {L : List HP} {S : Piece} (h : stars L S) : stars (Coms [] :: L) S := bun_stars (L := []) h
theorem Dids_out {F : List DidV} {n : UInt32} {d : DidV} (h : findD F n = some d) : ∀ S, Dids F S → ∃ _ : Unit, stars [cl d.p 63 [.int .u32 (d.num).toNat, d.os.v, d.ls.v], Sl 36 4 OpM.c d.os.v d.ops, Sl 31 1 resC d.ls.v d.l, ResR d.l, Dids (delD F n)] S := fun S hS =>
  ⟨(), app_bun (L := didL d) (stars_bun (dids_find h hS))⟩
theorem Dids_in {F : List DidV} {d : DidV} : ∀ S, stars [cl d.p 63 [.int .u32 (d.num).toNat, d.os.v, d.ls.v], Sl 36 4 OpM.c d.os.v d.ops, Sl 31 1 resC d.ls.v d.l, ResR d.l, Dids F] S → Dids (d :: F) S := fun S hS => bun_mid_in (f := didL) (A := []) (B := F) hS
theorem Dids_drop {F : List DidV} {n : UInt32} : ∀ S, stars [Dids F] S → Dids (delD F n) S := fun S hS => dids_sub (by have := stars_bun hS; simpa using this)
theorem Coms_out {l A B : List DidV} {d : DidV} (h : l = A ++ d :: B) : ∀ S, Coms l S → ∃ _ : Unit, stars [Sl 36 4 OpM.c d.os.v d.ops, Sl 31 1 resC d.ls.v d.l, ResR d.l, Coms (A ++ B)] S := fun S hS => ⟨(), bun_mid_out (f := comL) (h ▸ hS)⟩
theorem Coms_in {A B : List DidV} {d : DidV} : ∀ S, stars [Sl 36 4 OpM.c d.os.v d.ops, Sl 31 1 resC d.ls.v d.l, ResR d.l, Coms (A ++ B)] S → Coms (A ++ d :: B) S := fun S hS => bun_mid_in (f := comL) hS
set_option maxHeartbeats 4000000 in
theorem Serial_spec {g : World} {A : HP} {u : Value} {xs : List ActM} (hA : RL A 8 ActM.c u xs) : Spec Tryz.prog g 5 [u] [A] fun K R => K (.bool true) (A :: R) := by
  refine Spec.intro Tryz.func5 rfl Tryz.ntmps5 rfl fun R K hK => ?_
  refine WP.seq ?_
  refine WP.reg ?_
  refine WL.e e_assign ?_
  refine WL.next ?_
  refine WP.seq ?_
  refine WP.seq ?_
  refine WP.reg ?_
  refine WL.e e_move ?_
  refine WL.h (h_call (great_spec hA) k30 ?_)
  refine WL.next ?_
  refine WP.cond rfl (fun h0 => ?_) (fun h0 => ?_)
  · skip
    refine WP.seq ?_
    refine WP.reg ?_
    refine WL.h (h_call (lives_spec) k21 ?_)
    refine WL.e e_assign ?_
    refine WL.next ?_
    refine WP.ret ?_
    refine PO.past nofun ?_
    exact PO.finE Tryz.results5 (rv_tmp rv_nil) rfl hK
  · replace h0 : xs.length ≤ 150 := by simp at h0; omega
    refine WP.skip ?_
    refine PO.next ?_
    refine WP.seq ?_
    refine WP.reg ?_
    refine WL.h (h_call (opened_spec) k14 ?_)
    intro dp p
    refine WL.e e_move <| WL.e e_extract <| WL.e e_extract <| WL.e e_assign <| WL.e e_assign ?_
    refine WL.next ?_
    refine WP.seq ?_
    refine WP.seq ?_
    refine WP.reg ?_
    refine WL.e e_move <| WL.e (e_peq pt24) ?_
    refine WL.next ?_
    refine WP.cond_f rfl ?_
    refine WP.skip ?_
    refine PO.next ?_
    refine WP.seq ?_
    refine WP.reg ?_
    refine WL.h (h_makeMap (ek := eU32) fun om => ?_)
    refine WL.e e_assign ?_
    refine WL.next ?_
    refine WP.seq ?_
    refine WP.reg ?_
    refine WL.e e_assign ?_
    refine WL.next ?_
    refine WP.seq ?_
    refine WP.seq ?_
    refine WP.reg ?_
    refine WL.e e_assign ?_
    refine WL.next ?_
    refine WP.block ?_
    refine WP.nils 63 3 didC none ?_
    refine WP.conv (fun S h => Coms_nil (Dids_nil h)) ?_
    refine WP.loopK (fun (x : Nat × StV × List DidV × List DidV × SV × List (UInt32 × Value)) => [(7, .int .i64 x.1), (6, x.2.2.2.2.1.v)]) (fun (x : Nat × StV × List DidV × List DidV × SV × List (UInt32 × Value)) => Bs p dp (x.2.1) :: TxsU TPB (x.2.1).txs :: Mp eU32 om (x.2.2.2.2.2) :: Dids (x.2.2.1) :: Sl 63 3 didC (x.2.2.2.2.1.v) (x.2.2.2.1) :: Coms (x.2.2.2.1) :: A :: R) [(0, _), (4, _), (5, _)] (fun (x : Nat × StV × List DidV × List DidV × SV × List (UInt32 × Value)) => x.1 ≤ xs.length ∧ SerC betaG x.1 x.2.1 x.2.2.1 x.2.2.2.1 x.2.2.2.2.2) (fun (x : Nat × StV × List DidV × List DidV × SV × List (UInt32 × Value)) => xs.length - x.1) (0, stF, [], [], ⟨none, 0, 0⟩, []) (⟨Nat.zero_le _, SerC.first bet_first VB_first⟩) ?_
    rintro ⟨i, s, F, all, av, kvs⟩ ⟨hi, hI⟩
    simp only at hi hI
    dsimp only
    refine WP.seq ?_
    refine WP.seq ?_
    refine WP.reg ?_
    refine WL.e e_move <| WL.e e_move ?_
    refine WL.e (el_len (xs := xs) sl52 hA) <| WL.e e_lss ?_
    refine WL.next ?_
    refine WP.cond rfl (fun h1 => ?_) (fun h1 => ?_)
    · have hlt : i < xs.length := by rw [decide_eq_true_eq] at h1; omega
      obtain ⟨x, hx⟩ : ∃ x, xs[i]? = some x := ⟨_, List.getElem?_eq_getElem hlt⟩
      refine WP.skip ?_
      refine PO.next ?_
      refine WP.seq ?_
      refine WP.block ?_
      refine WP.seq ?_
      refine WP.reg ?_
      refine WL.e e_move <| WL.e e_move ?_
      refine WL.e (el_ia (j := i) (xs := xs) sl52 hA hlt) ?_
      refine WL.e (el_loadN (a := x) a58 actE hA hx) ?_
      refine WL.h (h_alloc z58 fun b1 => ?_)
      refine WL.h' (h_store s58 ?_)
      refine WL.next ?_
      refine WP.seq ?_
      refine WP.reg ?_
      refine WL.e e_move <| WL.e (e_fa f58_1) <| WL.e (e_load a22) ?_
      refine WL.e (e_lookD (n := x.tx) (F := F) Tryz.underlying54 (key_u32 Tryz.underlying22) zz59 hI.opn) <| WL.e e_assign ?_
      refine WL.next ?_
      refine WP.seq ?_
      refine WP.reg ?_
      refine WL.e (e_fa f58_0) <| WL.e (e_load a5) <| WL.e (e_rem (c := ((x.kind.toNat % 12 : Nat) : Int)) rfl rfl (by decide) (by rw [Int.tmod_eq_emod_of_nonneg (by omega)]; omega)) ?_
      refine WL.next ?_
      refine WP.block ?_
      refine WP.seq ?_
      refine WP.reg ?_
      refine WL.e e_eql <| WL.e e_assign ?_
      refine WL.next ?_
      refine WP.cond rfl (fun c0 => ?_) (fun c0 => ?_)
      · skip
        refine WP.seq ?_
        refine WP.reg ?_
        refine WL.e e_move <| WL.e (e_fa f58_1) <| WL.e (e_load a22) ?_
        refine WL.h (h_call (BBegin_spec (s := s) x.tx) k15 ?_)
        intro q
        refine WL.e e_eql ?_
        refine WL.next ?_
        refine WP.cond rfl (fun e1 => ?_) (fun e1 => ?_)
        · have hE : begE s x.tx = 0 := by simpa using e1
          refine WP.reg ?_
          refine WL.e e_move <| WL.e (e_fa f58_1) <| WL.e (e_load a22) <| WL.e (e_build z63 p63 (.z (.int .u32 0) <| .z (.slice none 0 0) <| .z (.slice none 0 0) <| .n)) ?_
          refine WL.h (h_box fun b2 => ?_)
          refine WL.h' (h_mapUpdate (k := x.tx) (kvs := kvs) Tryz.underlying54 (key_u32 Tryz.underlying22) ?_)
          refine WL.nil ?_
          refine PO.blockN ?_
          refine PO.blockN ?_
          refine PO.next ?_
          refine WP.reg ?_
          refine WL.e e_move <| WL.e (e_add (c := ((i + 1 : Nat) : Int)) rfl rfl (by have := hI.len; rw [w_i64 (by omega) (by omega)]; omega)) <| WL.e e_assign ?_
          refine WL.nil ?_
          refine PO.nils 36 4 OpM.c none ?_
          refine PO.nils 31 1 resC none ?_
          refine PO.conv (fun S h => ResR_nil h) ?_
          refine PO.cls (A := Dids (delD F x.tx)) (B := [Dids F]) Dids_drop ?_
          refine PO.cls (A := Dids ((⟨x.tx, b2, 0, ⟨none, 0, 0⟩, [], ⟨none, 0, 0⟩, []⟩ : DidV) :: delD F x.tx)) (B := [cl b2 63 [.int .u32 (0 : UInt32).toNat, .slice none 0 0, .slice none 0 0], Sl 36 4 OpM.c (.slice none 0 0) [], Sl 31 1 resC (.slice none 0 0) [], ResR [], Dids (delD F x.tx)]) (Dids_in (d := (⟨x.tx, b2, 0, ⟨none, 0, 0⟩, [], ⟨none, 0, 0⟩, []⟩ : DidV))) ?_
          exact PO.againK (i + 1, begS s x.tx q, (⟨x.tx, b2, 0, ⟨none, 0, 0⟩, [], ⟨none, 0, 0⟩, []⟩ : DidV) :: delD F x.tx, all, av, (mset kvs x.tx (.pointer (some ⟨b2, 0, none⟩)))) ⟨by simp only; omega, hI.beg (by omega) hE q b2⟩ (by simp only; omega)
        · have hE : begE s x.tx ≠ 0 := by simpa using e1
          refine WP.skip ?_
          refine PO.blockN ?_
          refine PO.blockN ?_
          refine PO.next ?_
          refine WP.reg ?_
          refine WL.e e_move <| WL.e (e_add (c := ((i + 1 : Nat) : Int)) rfl rfl (by have := hI.len; rw [w_i64 (by omega) (by omega)]; omega)) <| WL.e e_assign ?_
          refine WL.nil ?_
          rw [SerC.beg0 hE q]
          exact PO.againK (i + 1, s, F, all, av, kvs) ⟨by simp only; omega, hI.mono (by omega)⟩ (by simp only; omega)
      · skip
        refine WP.cutL (fun (q : Bool) => [(94, .bool q)]) (fun (q : Bool) => Bs p dp (s) :: TxsU TPB (s).txs :: Mp eU32 om (kvs) :: Dids (F) :: Sl 63 3 didC (av.v) (all) :: Coms (all) :: cl b1 58 (ActM.c x) :: A :: R) (fun (q : Bool) => True) ?_ ?_
        · skip
          refine WP.seq ?_
          refine WP.reg ?_
          refine WL.e e_eql <| WL.e e_assign ?_
          refine WL.next ?_
          refine WP.cond rfl (fun c8 => ?_) (fun c8 => ?_)
          · skip
            refine WP.skip ?_
            exact PO.meetK _ trivial
          · skip
            refine WP.reg ?_
            refine WL.e e_eql <| WL.e e_assign ?_
            refine WL.nil ?_
            exact PO.meetK _ trivial
        · intro q _
          refine WP.cond rfl (fun c9 => ?_) (fun c9 => ?_)
          · skip
            refine WP.seq ?_
            refine WP.reg ?_
            refine WL.e e_move <| WL.e (e_fa f58_1) <| WL.e (e_load a22) ?_
            refine WL.h (h_call (BCommit_spec (s := s) x.tx hI.ok (by omega)) k19 ?_)
            refine WL.e e_move <| WL.e e_extract <| WL.e e_extract <| WL.e e_assign <| WL.e e_assign ?_
            refine WL.next ?_
            refine WP.seq ?_
            refine WP.seq ?_
            refine WP.reg ?_
            refine WL.e e_move <| WL.e e_eql ?_
            refine WL.next ?_
            refine WP.cond rfl (fun e2 => ?_) (fun e2 => ?_)
            · have hE : comE betaI s x.tx = 0 := by simpa using e2
              obtain ⟨z, hd, hno, hI2⟩ := hI.com (by omega) hE
              rw [hd, Option.map_some]
              generalize comN betaI s x.tx = nm at hno hI2 ⊢
              generalize comS betaI s x.tx = s9 at hI2 ⊢
              have hkl : ∀ {k : Nat}, k ≤ all.length → (¬ ∃ a, all[k]? = some a ∧ a.num < nm) → k = all.length := fun {k} h1 h2 => by
                rcases Nat.lt_or_ge k all.length with h3 | h3
                · exact absurd ⟨_, List.getElem?_eq_getElem h3, hno _ (List.getElem_mem h3)⟩ h2
                · omega
              refine WP.seq ?_
              refine WP.seq ?_
              refine WP.reg ?_
              refine WL.e e_move <| WL.e (e_peq pt59) ?_
              refine WL.next ?_
              refine WP.cond_f rfl ?_
              refine WP.opn (Dids_out hd) fun _ => ?_
              refine WP.skip ?_
              refine PO.next ?_
              refine WP.seq ?_
              refine WP.reg ?_
              refine WL.e e_move <| WL.e e_move <| WL.e e_nil <| WL.e (e_fa f63_0) ?_
              refine WL.h' (h_store s22 ?_)
              refine WL.next ?_
              refine WP.seq ?_
              refine WP.reg ?_
              refine WL.e e_assign ?_
              refine WL.next ?_
              refine WP.seq ?_
              refine WP.block ?_
              refine WP.loopK (fun (k : Nat) => [(12, .int .i64 k)]) (fun (k : Nat) => Bs p dp s9 :: TxsU TPB s9.txs :: Mp eU32 om kvs :: cl z.p 63 [.int .u32 nm.toNat, z.os.v, z.ls.v] :: Sl 36 4 OpM.c z.os.v z.ops :: Sl 31 1 resC z.ls.v z.l :: ResR z.l :: Dids (delD F x.tx) :: Sl 63 3 didC av.v all :: Coms all :: cl b1 58 (ActM.c x) :: A :: R) [(0, _), (4, _), (5, _), (6, _), (7, _), (8, _), (9, _), (10, _), (11, _), (29, _), (30, _), (31, _), (32, _), (35, _), (36, _), (37, _), (38, _), (39, _), (40, _), (41, _), (42, _), (43, _), (44, _), (45, _), (82, _), (83, _), (94, _), (97, _), (98, _), (99, _), (100, _), (101, _), (102, _), (103, _), (104, _), (105, _), (106, _), (107, _), (108, _), (109, _), (110, _), (111, _)] (fun (k : Nat) => k ≤ all.length ∧ ∀ a ∈ all.take k, a.num < nm) (fun (k : Nat) => all.length - k) 0 (⟨Nat.zero_le _, by simp⟩) ?_
              rintro k ⟨hk, hk1⟩
              refine WP.seq ?_
              refine WP.seq ?_
              refine WP.reg ?_
              refine WL.e e_move <| WL.e e_move ?_
              refine WL.e (el_len (xs := all) (enc := didC) sl55 sl_rl) <| WL.e e_lss <| WL.e e_move ?_
              refine WL.join 124 (.bool (decide (∃ a, all[k]? = some a ∧ a.num < nm))) (.c (.c (.c (.c (.c (.c (.c (.c .n)))))))) ?_ ?_
              · refine WL.bool 116 rfl (fun hg => ?_) (fun hg => ?_)
                · skip
                  refine WL.e e_move <| WL.e e_move ?_
                  refine WL.e (el_ia (j := k) (xs := all) (enc := didC) sl55 sl_rl (show k < all.length by simpa using hg)) ?_
                  refine WL.e (el_fa (z := 3) (j := k) (xs := all) (enc := didC) f63_0 sl_rl (show k < all.length by simpa using hg)) ?_
                  refine WL.e (el_load0 (j := k) (xs := all) (enc := didC) a22 didE sl_rl (List.getElem?_eq_getElem (show k < all.length by simpa using hg))) <| WL.e e_move <| WL.e (e_lss32) <| WL.e e_pick_t ?_
                  exact WL.nil (PO.joined rfl (by simp [List.getElem?_eq_getElem (show k < all.length by simpa using hg)]))
                · skip
                  refine WL.skip <| WL.skip <| WL.skip <| WL.skip <| WL.skip <| WL.skip <| WL.skip <| WL.e e_pick_f ?_
                  exact WL.nil (PO.joined rfl (by simp [List.getElem?_eq_none (show all.length ≤ k by simpa using hg)]))
              refine WL.next ?_
              refine WP.cond rfl (fun e3 => ?_) (fun e3 => ?_)
              · obtain ⟨a0, ha0, hlt0⟩ := of_decide_eq_true e3
                have hk2 := idx_lt ha0
                refine WP.skip ?_
                refine PO.next ?_
                refine WP.block ?_
                refine WP.reg ?_
                refine WL.e e_move <| WL.e (e_add (c := ((k + 1 : Nat) : Int)) rfl rfl (by have := hI.len; rw [w_i64 (by omega) (by omega)]; omega)) <| WL.e e_assign ?_
                refine WL.nil ?_
                refine PO.blockN ?_
                exact PO.againK (k + 1) ⟨by omega, fun a ha => by rw [take_snoc ha0] at ha; rcases List.mem_append.1 ha with h | h; exact hk1 a h; (obtain rfl := List.mem_singleton.1 h; exact hlt0)⟩ (by omega)
              · replace e3 := of_decide_eq_false e3
                replace hkl := hkl (k := k) hk
                refine WP.exit ?_
                refine PO.past nofun ?_
                refine PO.round nofun ?_
                refine PO.blockX ?_
                refine PO.next ?_
                refine WP.seq ?_
                refine WP.seq ?_
                refine WP.reg ?_
                refine WL.e e_move <| WL.e e_move ?_
                refine WL.e (el_len (xs := all) (enc := didC) sl55 sl_rl) <| WL.e e_lss <| WL.e e_move ?_
                refine WL.join 139 (.bool (false)) (.c (.c (.c (.c (.c (.c (.c (.c .n)))))))) ?_ ?_
                · refine WL.bool 131 rfl (fun hg => ?_) (fun hg => ?_)
                  · skip
                    refine WL.e e_move <| WL.e e_move ?_
                    refine WL.e (el_ia (j := k) (xs := all) (enc := didC) sl55 sl_rl (show k < all.length by simpa using hg)) ?_
                    refine WL.e (el_fa (z := 3) (j := k) (xs := all) (enc := didC) f63_0 sl_rl (show k < all.length by simpa using hg)) ?_
                    refine WL.e (el_load0 (j := k) (xs := all) (enc := didC) a22 didE sl_rl (List.getElem?_eq_getElem (show k < all.length by simpa using hg))) <| WL.e e_move <| WL.e (e_eql32) <| WL.e e_pick_t ?_
                    exact WL.nil (PO.joined rfl (by exact absurd (hkl e3) (by have := (show k < all.length by simpa using hg); omega)))
                  · skip
                    refine WL.skip <| WL.skip <| WL.skip <| WL.skip <| WL.skip <| WL.skip <| WL.skip <| WL.e e_pick_f ?_
                    exact WL.nil (PO.joined rfl (by simp))
                refine WL.next ?_
                refine WP.cond_f rfl ?_
                refine WP.nils 63 3 didC none ?_
                refine WP.skip ?_
                refine PO.next ?_
                refine WP.draws mixedOk 14 ?_
                refine RW.e 0 rfl e_move <| RW.e 1 rfl e_move ?_
                refine RW.e 2 rfl (el_to (hi := k) (xs := all) (enc := didC) sl55 sl_rl hk) <| RW.e 4 rfl e_move <| RW.e 5 rfl e_nil <| RW.e 6 rfl (e_loadN a63) <| RW.e 9 rfl e_move <| RW.e 10 rfl e_move ?_
                refine RW.e 11 rfl (el_from (lo := k) (xs := all) (enc := didC) sl55 sl_rl hk) ?_
                refine RW.any (is := [3, 7]) rfl ⟨?_, ?_, trivial⟩
                · skip
                  refine RWat.h rfl rfl rfl ?_
                  refine (hl_append (xs := []) (ys := all.take k) sl55 didE z63 (RL.to_ didE (sl_rl (E := 63) (u := av.v) (xs := all)) hk) (by have := hI.len; simp; omega) (fun a3 n3 c3 => ?_))
                  refine ⟨⟨⟨_, rfl, .inl ⟨rfl, (el_from (lo := k) (xs := all) (enc := didC) sl55 sl_rl hk)⟩⟩, ⟨_, rfl, .inl ⟨rfl, e_move⟩⟩, ⟨_, rfl, .inl ⟨rfl, e_move⟩⟩, ⟨_, rfl, .inl ⟨rfl, (e_loadN a63)⟩⟩, ⟨_, rfl, .inl ⟨rfl, e_nil⟩⟩, ⟨_, rfl, .inl ⟨rfl, e_move⟩⟩, trivial⟩, ?_⟩
                  refine RW.any (is := [7]) rfl ⟨?_, trivial⟩
                  refine RWat.h rfl rfl rfl ?_
                  refine (h_bs sl55 z63 (.a3 (.tmp 146) rfl <| .n) fun b3 => ?_)
                  refine ⟨⟨⟨_, rfl, .inl ⟨rfl, (el_from (lo := k) (xs := all) (enc := didC) sl55 sl_rl hk)⟩⟩, ⟨_, rfl, .inl ⟨rfl, e_move⟩⟩, ⟨_, rfl, .inl ⟨rfl, e_move⟩⟩, trivial⟩, ?_⟩
                  refine RW.any (is := [8]) rfl ⟨?_, trivial⟩
                  refine RWat.h rfl rfl rfl ?_
                  refine (hl_append (xs := [] ++ all.take k) (ys := [{ z with num := nm }]) sl55 didE z63 (lit_rl didE [{ z with num := nm }] rfl) (by have := hI.len; simp; omega) (fun a4 n4 c4 => ?_))
                  refine ⟨⟨⟨_, rfl, .inl ⟨rfl, (el_from (lo := k) (xs := all) (enc := didC) sl55 sl_rl hk)⟩⟩, ⟨_, rfl, .inl ⟨rfl, e_move⟩⟩, ⟨_, rfl, .inl ⟨rfl, e_move⟩⟩, trivial⟩, ?_⟩
                  refine RW.any (is := [12]) rfl ⟨?_, trivial⟩
                  refine RWat.h rfl rfl rfl ?_
                  refine (hl_append (xs := [] ++ all.take k ++ [{ z with num := nm }]) (ys := all.drop k) sl55 didE z63 (RL.from_ didE (sl_rl (E := 63) (u := av.v) (xs := all)) hk) (by have := hI.len; simp; omega) (fun a5 n5 c5 => ?_))
                  rw [show [] ++ all.take k ++ [{ z with num := nm }] ++ all.drop k = (all.take k ++ { z with num := nm } :: all.drop k) by simp]
                  refine ⟨trivial, ?_⟩
                  refine RW.any (is := [13]) rfl ⟨?_, trivial⟩
                  refine RWat.h rfl rfl rfl ?_
                  refine HO.of_eo e_assign ?_
                  refine ⟨trivial, ?_⟩
                  refine RW.done ?_
                  refine PO.next ?_
                  refine WP.reg ?_
                  refine WL.e e_move <| WL.e (e_fa f58_1) <| WL.e (e_load a22) ?_
                  refine WL.h' (h_mapUpdate (k := x.tx) (kvs := kvs) Tryz.underlying54 (key_u32 Tryz.underlying22) ?_)
                  refine WL.nil ?_
                  refine PO.blockN ?_
                  refine PO.blockN ?_
                  refine PO.next ?_
                  refine WP.reg ?_
                  refine WL.e e_move <| WL.e (e_add (c := ((i + 1 : Nat) : Int)) rfl rfl (by have := hI.len; rw [w_i64 (by omega) (by omega)]; omega)) <| WL.e e_assign ?_
                  refine WL.nil ?_
                  refine PO.cls (A := Coms (all.take k ++ { z with num := nm } :: all.drop k)) (B := [Sl 36 4 OpM.c z.os.v z.ops, Sl 31 1 resC z.ls.v z.l, ResR z.l, Coms all]) (fun S h => Coms_in (A := all.take k) (B := all.drop k) (d := { z with num := nm }) S (by rw [List.take_append_drop]; exact h)) ?_
                  exact PO.againK (i + 1, s9, delD F x.tx, (all.take k ++ { z with num := nm } :: all.drop k), ⟨a5, n5, c5⟩, (mset kvs x.tx (.pointer none))) ⟨by simp only; omega, by obtain rfl : k = all.length := hkl e3; rw [List.take_length, List.drop_length]; exact hI2⟩ (by simp only; omega)
                · skip
                  refine RWat.h rfl rfl rfl ?_
                  refine (h_bs sl55 z63 (.a3 (.tmp 146) rfl <| .n) fun b4 => ?_)
                  refine ⟨⟨⟨_, rfl, .inl ⟨rfl, (el_from (lo := k) (xs := all) (enc := didC) sl55 sl_rl hk)⟩⟩, ⟨_, rfl, .inl ⟨rfl, e_move⟩⟩, ⟨_, rfl, .inl ⟨rfl, e_move⟩⟩, ⟨_, rfl, .inl ⟨rfl, (el_to (hi := k) (xs := all) (enc := didC) sl55 sl_rl hk)⟩⟩, ⟨_, rfl, .inl ⟨rfl, e_move⟩⟩, ⟨_, rfl, .inl ⟨rfl, e_move⟩⟩, trivial⟩, ?_⟩
                  refine RW.any (is := [3]) rfl ⟨?_, trivial⟩
                  refine RWat.h rfl rfl rfl ?_
                  refine (hl_append (xs := []) (ys := all.take k) sl55 didE z63 (RL.to_ didE (sl_rl (E := 63) (u := av.v) (xs := all)) hk) (by have := hI.len; simp; omega) (fun a3 n3 c3 => ?_))
                  refine ⟨⟨⟨_, rfl, .inl ⟨rfl, (el_from (lo := k) (xs := all) (enc := didC) sl55 sl_rl hk)⟩⟩, ⟨_, rfl, .inl ⟨rfl, e_move⟩⟩, ⟨_, rfl, .inl ⟨rfl, e_move⟩⟩, trivial⟩, ?_⟩
                  refine RW.any (is := [8]) rfl ⟨?_, trivial⟩
                  refine RWat.h rfl rfl rfl ?_
                  refine (hl_append (xs := [] ++ all.take k) (ys := [{ z with num := nm }]) sl55 didE z63 (lit_rl didE [{ z with num := nm }] rfl) (by have := hI.len; simp; omega) (fun a4 n4 c4 => ?_))
                  refine ⟨⟨⟨_, rfl, .inl ⟨rfl, (el_from (lo := k) (xs := all) (enc := didC) sl55 sl_rl hk)⟩⟩, ⟨_, rfl, .inl ⟨rfl, e_move⟩⟩, ⟨_, rfl, .inl ⟨rfl, e_move⟩⟩, trivial⟩, ?_⟩
                  refine RW.any (is := [12]) rfl ⟨?_, trivial⟩
                  refine RWat.h rfl rfl rfl ?_
                  refine (hl_append (xs := [] ++ all.take k ++ [{ z with num := nm }]) (ys := all.drop k) sl55 didE z63 (RL.from_ didE (sl_rl (E := 63) (u := av.v) (xs := all)) hk) (by have := hI.len; simp; omega) (fun a5 n5 c5 => ?_))
                  rw [show [] ++ all.take k ++ [{ z with num := nm }] ++ all.drop k = (all.take k ++ { z with num := nm } :: all.drop k) by simp]
                  refine ⟨trivial, ?_⟩
                  refine RW.any (is := [13]) rfl ⟨?_, trivial⟩
                  refine RWat.h rfl rfl rfl ?_
                  refine HO.of_eo e_assign ?_
                  refine ⟨trivial, ?_⟩
                  refine RW.done ?_
                  refine PO.next ?_
                  refine WP.reg ?_
                  refine WL.e e_move <| WL.e (e_fa f58_1) <| WL.e (e_load a22) ?_
                  refine WL.h' (h_mapUpdate (k := x.tx) (kvs := kvs) Tryz.underlying54 (key_u32 Tryz.underlying22) ?_)
                  refine WL.nil ?_
                  refine PO.blockN ?_
                  refine PO.blockN ?_
                  refine PO.next ?_
                  refine WP.reg ?_
                  refine WL.e e_move <| WL.e (e_add (c := ((i + 1 : Nat) : Int)) rfl rfl (by have := hI.len; rw [w_i64 (by omega) (by omega)]; omega)) <| WL.e e_assign ?_
                  refine WL.nil ?_
                  refine PO.cls (A := Coms (all.take k ++ { z with num := nm } :: all.drop k)) (B := [Sl 36 4 OpM.c z.os.v z.ops, Sl 31 1 resC z.ls.v z.l, ResR z.l, Coms all]) (fun S h => Coms_in (A := all.take k) (B := all.drop k) (d := { z with num := nm }) S (by rw [List.take_append_drop]; exact h)) ?_
                  exact PO.againK (i + 1, s9, delD F x.tx, (all.take k ++ { z with num := nm } :: all.drop k), ⟨a5, n5, c5⟩, (mset kvs x.tx (.pointer none))) ⟨by simp only; omega, by obtain rfl : k = all.length := hkl e3; rw [List.take_length, List.drop_length]; exact hI2⟩ (by simp only; omega)
            · have hE : comE betaI s x.tx ≠ 0 := by simpa using e2
              refine WP.skip ?_
              refine PO.next ?_
              refine WP.reg ?_
              refine WL.e e_move <| WL.e (e_fa f58_1) <| WL.e (e_load a22) ?_
              refine WL.h' (h_mapUpdate (k := x.tx) (kvs := kvs) Tryz.underlying54 (key_u32 Tryz.underlying22) ?_)
              refine WL.nil ?_
              refine PO.blockN ?_
              refine PO.blockN ?_
              refine PO.next ?_
              refine WP.reg ?_
              refine WL.e e_move <| WL.e (e_add (c := ((i + 1 : Nat) : Int)) rfl rfl (by have := hI.len; rw [w_i64 (by omega) (by omega)]; omega)) <| WL.e e_assign ?_
              refine WL.nil ?_
              refine PO.cls (A := Dids (delD F x.tx)) (B := [Dids F]) Dids_drop ?_
              exact PO.againK (i + 1, comS betaI s x.tx, delD F x.tx, all, av, (mset kvs x.tx (.pointer none))) ⟨by simp only; omega, hI.comF (by omega) hE⟩ (by simp only; omega)
          · skip
            refine WP.seq ?_
            refine WP.reg ?_
            refine WL.e e_eql <| WL.e e_assign ?_
            refine WL.next ?_
            refine WP.cond rfl (fun c10 => ?_) (fun c10 => ?_)
            · skip
              refine WP.seq ?_
              refine WP.reg ?_
              refine WL.e e_move <| WL.e (e_fa f58_1) <| WL.e (e_load a22) ?_
              refine WL.h (h_call (BAbort_spec (s := s) x.tx hI.ok) k31 ?_)
              refine WL.next ?_
              refine WP.reg ?_
              refine WL.e e_move <| WL.e (e_fa f58_1) <| WL.e (e_load a22) ?_
              refine WL.h' (h_mapUpdate (k := x.tx) (kvs := kvs) Tryz.underlying54 (key_u32 Tryz.underlying22) ?_)
              refine WL.nil ?_
              refine PO.blockN ?_
              refine PO.blockN ?_
              refine PO.next ?_
              refine WP.reg ?_
              refine WL.e e_move <| WL.e (e_add (c := ((i + 1 : Nat) : Int)) rfl rfl (by have := hI.len; rw [w_i64 (by omega) (by omega)]; omega)) <| WL.e e_assign ?_
              refine WL.nil ?_
              refine PO.cls (A := Dids (delD F x.tx)) (B := [Dids F]) Dids_drop ?_
              exact PO.againK (i + 1, aboS betaI s x.tx, delD F x.tx, all, av, (mset kvs x.tx (.pointer none))) ⟨by simp only; omega, hI.abo (by omega) x.tx⟩ (by simp only; omega)
            · skip
              refine WP.seq ?_
              refine WP.reg ?_
              refine WL.e e_move <| WL.e (e_fa f58_1) <| WL.e (e_load a22) <| WL.e (e_fa f58_2) <| WL.e (e_loadN a36) ?_
              refine WL.h (h_call (BDo_spec (s := s) x.tx x.op hI.ok) k16 ?_)
              rcases hdo : doB s x.tx x.op with ⟨s', e⟩ | ⟨s'⟩ | ⟨s', rws⟩
              · dsimp only
                have he := hI.err (by omega) hdo
                refine WL.e e_move <| WL.e e_extract <| WL.e e_extract ?_
                refine WL.h (h_alloc z31 fun b5 => ?_)
                refine WL.h' (h_store s31 ?_)
                refine WL.e e_assign ?_
                refine WL.next ?_
                refine WP.seq ?_
                refine WP.reg ?_
                refine WL.e e_move <| WL.e e_eql <| WL.e e_move ?_
                refine WL.bool 57 rfl (fun g1 => ?_) (fun g1 => ?_)
                · exact absurd (by simpa using g1) he.1 -- end
                · skip
                  refine WL.skip <| WL.skip <| WL.e e_pick_f ?_
                  refine WL.next ?_
                  refine WP.cond_f rfl ?_
                  refine WP.skip ?_
                  refine PO.blockN ?_
                  refine PO.blockN ?_
                  refine PO.next ?_
                  refine WP.reg ?_
                  refine WL.e e_move <| WL.e (e_add (c := ((i + 1 : Nat) : Int)) rfl rfl (by have := hI.len; rw [w_i64 (by omega) (by omega)]; omega)) <| WL.e e_assign ?_
                  refine WL.nil ?_
                  exact PO.againK (i + 1, s', F, all, av, kvs) ⟨by simp only; omega, he.2⟩ (by simp only; omega)
              · dsimp only
                obtain ⟨z, hz, hI2⟩ := hI.put (by omega) hdo
                rw [hz, Option.map_some]
                refine WL.e e_move <| WL.e e_extract <| WL.e e_extract ?_
                refine WL.h (h_alloc z31 fun b6 => ?_)
                refine WL.h' (h_store s31 ?_)
                refine WL.e e_assign ?_
                refine WL.next ?_
                refine WP.seq ?_
                refine WP.reg ?_
                refine WL.e e_move <| WL.e e_eql <| WL.e e_move ?_
                refine WL.bool 57 rfl (fun g1 => ?_) (fun g1 => ?_)
                · skip
                  refine WL.e e_move <| WL.e (e_pne pt59) <| WL.e e_pick_t ?_
                  refine WL.next ?_
                  refine WP.cond_t rfl ?_
                  refine WP.opn (Dids_out hz) fun _ => ?_
                  refine WP.seq ?_
                  refine WP.draws mixedOk 12 ?_
                  refine RW.e 0 rfl e_move <| RW.e 1 rfl e_move <| RW.e 2 rfl e_nil <| RW.e 3 rfl (e_fa f63_1) <| RW.e 4 rfl (e_load a60) <| RW.e 5 rfl (e_fa f58_2) <| RW.e 6 rfl (e_loadN a36) ?_
                  refine RW.any (is := [7]) rfl ⟨?_, trivial⟩
                  refine RWat.h rfl rfl rfl ?_
                  refine (h_bs sl60 z36 (.a4 (.tmp 67) rfl <| .n) fun b7 => ?_)
                  refine ⟨⟨⟨_, rfl, .inl ⟨rfl, (e_load a60)⟩⟩, ⟨_, rfl, .inl ⟨rfl, (e_fa f63_1)⟩⟩, ⟨_, rfl, .inl ⟨rfl, e_nil⟩⟩, ⟨_, rfl, .inl ⟨rfl, e_move⟩⟩, ⟨_, rfl, .inl ⟨rfl, e_move⟩⟩, trivial⟩, ?_⟩
                  refine RW.any (is := [8]) rfl ⟨?_, trivial⟩
                  refine RWat.h rfl rfl rfl ?_
                  refine (hl_append (xs := z.ops) (ys := [x.op]) sl60 opE z36 (lit_rl opE [x.op] rfl) (by have := hI.lenF z (findD_id hz).1; simp; omega) (fun a3 n3 c3 => ?_))
                  refine ⟨⟨⟨_, rfl, .inl ⟨rfl, e_move⟩⟩, trivial⟩, ?_⟩
                  refine RW.e 9 rfl e_nil <| RW.e 10 rfl (e_fa f63_1) ?_
                  refine RW.any (is := [11]) rfl ⟨?_, trivial⟩
                  refine RWat.h' rfl rfl rfl ?_
                  refine (h_store s60 ?_)
                  refine ⟨trivial, ?_⟩
                  refine RW.done ?_
                  refine PO.next ?_
                  refine WP.draws mixedOk 11 ?_
                  refine RW.e 0 rfl e_move <| RW.e 1 rfl e_move <| RW.e 2 rfl e_nil <| RW.e 3 rfl (e_fa f63_2) <| RW.e 4 rfl (e_load a61) <| RW.e 5 rfl (e_loadN a31) ?_
                  refine RW.any (is := [6]) rfl ⟨?_, trivial⟩
                  refine RWat.h rfl rfl rfl ?_
                  refine (h_bs sl61 z31 (.a1 (.tmp 77) rfl <| .n) fun b8 => ?_)
                  refine ⟨⟨⟨_, rfl, .inl ⟨rfl, (e_load a61)⟩⟩, ⟨_, rfl, .inl ⟨rfl, (e_fa f63_2)⟩⟩, ⟨_, rfl, .inl ⟨rfl, e_nil⟩⟩, ⟨_, rfl, .inl ⟨rfl, e_move⟩⟩, ⟨_, rfl, .inl ⟨rfl, e_move⟩⟩, trivial⟩, ?_⟩
                  refine RW.any (is := [7]) rfl ⟨?_, trivial⟩
                  refine RWat.h rfl rfl rfl ?_
                  refine (hl_append (xs := z.l) (ys := [((⟨none, 0, 0⟩ : SV), ([] : List RowM))]) sl61 resE z31 (lit_rl resE [((⟨none, 0, 0⟩ : SV), ([] : List RowM))] rfl) (by have := hI.lenF z (findD_id hz).1; simp; omega) (fun a4 n4 c4 => ?_))
                  refine ⟨⟨⟨_, rfl, .inl ⟨rfl, e_move⟩⟩, trivial⟩, ?_⟩
                  refine RW.e 8 rfl e_nil <| RW.e 9 rfl (e_fa f63_2) ?_
                  refine RW.any (is := [10]) rfl ⟨?_, trivial⟩
                  refine RWat.h' rfl rfl rfl ?_
                  refine (h_store s61 ?_)
                  refine ⟨trivial, ?_⟩
                  refine RW.done ?_
                  refine PO.blockN ?_
                  refine PO.blockN ?_
                  refine PO.next ?_
                  refine WP.reg ?_
                  refine WL.e e_move <| WL.e (e_add (c := ((i + 1 : Nat) : Int)) rfl rfl (by have := hI.len; rw [w_i64 (by omega) (by omega)]; omega)) <| WL.e e_assign ?_
                  refine WL.nil ?_
                  refine PO.nils 40 2 RowM.c none ?_
                  refine PO.cls (A := ResR (z.l ++ [((⟨none, 0, 0⟩ : SV), ([] : List RowM))])) (B := [ResR z.l, Sl 40 2 RowM.c (.slice none 0 0) (([] : List RowM))]) (ResR_snoc (l := z.l) (x := ((⟨none, 0, 0⟩ : SV), ([] : List RowM)))) ?_
                  refine PO.cls (A := Dids ({ z with os := ⟨a3, n3, c3⟩, ops := z.ops ++ [x.op], ls := ⟨a4, n4, c4⟩, l := z.l ++ [((⟨none, 0, 0⟩ : SV), ([] : List RowM))] } :: delD F x.tx)) (B := [cl z.p 63 [.int .u32 z.num.toNat, .slice a3 n3 c3, .slice a4 n4 c4], Sl 36 4 OpM.c (.slice a3 n3 c3) (z.ops ++ [x.op]), Sl 31 1 resC (.slice a4 n4 c4) (z.l ++ [((⟨none, 0, 0⟩ : SV), ([] : List RowM))]), ResR (z.l ++ [((⟨none, 0, 0⟩ : SV), ([] : List RowM))]), Dids (delD F x.tx)]) (Dids_in (d := { z with os := ⟨a3, n3, c3⟩, ops := z.ops ++ [x.op], ls := ⟨a4, n4, c4⟩, l := z.l ++ [((⟨none, 0, 0⟩ : SV), ([] : List RowM))] })) ?_
                  exact PO.againK (i + 1, s', { z with os := ⟨a3, n3, c3⟩, ops := z.ops ++ [x.op], ls := ⟨a4, n4, c4⟩, l := z.l ++ [((⟨none, 0, 0⟩ : SV), ([] : List RowM))] } :: delD F x.tx, all, av, kvs) ⟨by simp only; omega, hI2 ⟨a3, n3, c3⟩ ⟨a4, n4, c4⟩⟩ (by simp only; omega)
                · exact absurd g1 (by decide) -- end
              · dsimp only
                intro a7 m7 c7
                obtain ⟨z, hz, hI2⟩ := hI.look (by omega) hdo ⟨a7, m7, c7⟩
                rw [hz, Option.map_some]
                refine WL.e e_move <| WL.e e_extract <| WL.e e_extract ?_
                refine WL.h (h_alloc z31 fun b9 => ?_)
                refine WL.h' (h_store s31 ?_)
                refine WL.e e_assign ?_
                refine WL.next ?_
                refine WP.seq ?_
                refine WP.reg ?_
                refine WL.e e_move <| WL.e e_eql <| WL.e e_move ?_
                refine WL.bool 57 rfl (fun g1 => ?_) (fun g1 => ?_)
                · skip
                  refine WL.e e_move <| WL.e (e_pne pt59) <| WL.e e_pick_t ?_
                  refine WL.next ?_
                  refine WP.cond_t rfl ?_
                  refine WP.opn (Dids_out hz) fun _ => ?_
                  refine WP.seq ?_
                  refine WP.draws mixedOk 12 ?_
                  refine RW.e 0 rfl e_move <| RW.e 1 rfl e_move <| RW.e 2 rfl e_nil <| RW.e 3 rfl (e_fa f63_1) <| RW.e 4 rfl (e_load a60) <| RW.e 5 rfl (e_fa f58_2) <| RW.e 6 rfl (e_loadN a36) ?_
                  refine RW.any (is := [7]) rfl ⟨?_, trivial⟩
                  refine RWat.h rfl rfl rfl ?_
                  refine (h_bs sl60 z36 (.a4 (.tmp 67) rfl <| .n) fun b10 => ?_)
                  refine ⟨⟨⟨_, rfl, .inl ⟨rfl, (e_load a60)⟩⟩, ⟨_, rfl, .inl ⟨rfl, (e_fa f63_1)⟩⟩, ⟨_, rfl, .inl ⟨rfl, e_nil⟩⟩, ⟨_, rfl, .inl ⟨rfl, e_move⟩⟩, ⟨_, rfl, .inl ⟨rfl, e_move⟩⟩, trivial⟩, ?_⟩
                  refine RW.any (is := [8]) rfl ⟨?_, trivial⟩
                  refine RWat.h rfl rfl rfl ?_
                  refine (hl_append (xs := z.ops) (ys := [x.op]) sl60 opE z36 (lit_rl opE [x.op] rfl) (by have := hI.lenF z (findD_id hz).1; simp; omega) (fun a3 n3 c3 => ?_))
                  refine ⟨⟨⟨_, rfl, .inl ⟨rfl, e_move⟩⟩, trivial⟩, ?_⟩
                  refine RW.e 9 rfl e_nil <| RW.e 10 rfl (e_fa f63_1) ?_
                  refine RW.any (is := [11]) rfl ⟨?_, trivial⟩
                  refine RWat.h' rfl rfl rfl ?_
                  refine (h_store s60 ?_)
                  refine ⟨trivial, ?_⟩
                  refine RW.done ?_
                  refine PO.next ?_
                  refine WP.draws mixedOk 11 ?_
                  refine RW.e 0 rfl e_move <| RW.e 1 rfl e_move <| RW.e 2 rfl e_nil <| RW.e 3 rfl (e_fa f63_2) <| RW.e 4 rfl (e_load a61) <| RW.e 5 rfl (e_loadN a31) ?_
                  refine RW.any (is := [6]) rfl ⟨?_, trivial⟩
                  refine RWat.h rfl rfl rfl ?_
                  refine (h_bs sl61 z31 (.a1 (.tmp 77) rfl <| .n) fun b11 => ?_)
                  refine ⟨⟨⟨_, rfl, .inl ⟨rfl, (e_load a61)⟩⟩, ⟨_, rfl, .inl ⟨rfl, (e_fa f63_2)⟩⟩, ⟨_, rfl, .inl ⟨rfl, e_nil⟩⟩, ⟨_, rfl, .inl ⟨rfl, e_move⟩⟩, ⟨_, rfl, .inl ⟨rfl, e_move⟩⟩, trivial⟩, ?_⟩
                  refine RW.any (is := [7]) rfl ⟨?_, trivial⟩
                  refine RWat.h rfl rfl rfl ?_
                  refine (hl_append (xs := z.l) (ys := [((⟨a7, m7, c7⟩ : SV), rws)]) sl61 resE z31 (lit_rl resE [((⟨a7, m7, c7⟩ : SV), rws)] rfl) (by have := hI.lenF z (findD_id hz).1; simp; omega) (fun a4 n4 c4 => ?_))
                  refine ⟨⟨⟨_, rfl, .inl ⟨rfl, e_move⟩⟩, trivial⟩, ?_⟩
                  refine RW.e 8 rfl e_nil <| RW.e 9 rfl (e_fa f63_2) ?_
                  refine RW.any (is := [10]) rfl ⟨?_, trivial⟩
                  refine RWat.h' rfl rfl rfl ?_
                  refine (h_store s61 ?_)
                  refine ⟨trivial, ?_⟩
                  refine RW.done ?_
                  refine PO.blockN ?_
                  refine PO.blockN ?_
                  refine PO.next ?_
                  refine WP.reg ?_
                  refine WL.e e_move <| WL.e (e_add (c := ((i + 1 : Nat) : Int)) rfl rfl (by have := hI.len; rw [w_i64 (by omega) (by omega)]; omega)) <| WL.e e_assign ?_
                  refine WL.nil ?_
                  refine PO.cls (A := ResR (z.l ++ [((⟨a7, m7, c7⟩ : SV), rws)])) (B := [ResR z.l, Sl 40 2 RowM.c (.slice a7 m7 c7) (rws)]) (ResR_snoc (l := z.l) (x := ((⟨a7, m7, c7⟩ : SV), rws))) ?_
                  refine PO.cls (A := Dids ({ z with os := ⟨a3, n3, c3⟩, ops := z.ops ++ [x.op], ls := ⟨a4, n4, c4⟩, l := z.l ++ [((⟨a7, m7, c7⟩ : SV), rws)] } :: delD F x.tx)) (B := [cl z.p 63 [.int .u32 z.num.toNat, .slice a3 n3 c3, .slice a4 n4 c4], Sl 36 4 OpM.c (.slice a3 n3 c3) (z.ops ++ [x.op]), Sl 31 1 resC (.slice a4 n4 c4) (z.l ++ [((⟨a7, m7, c7⟩ : SV), rws)]), ResR (z.l ++ [((⟨a7, m7, c7⟩ : SV), rws)]), Dids (delD F x.tx)]) (Dids_in (d := { z with os := ⟨a3, n3, c3⟩, ops := z.ops ++ [x.op], ls := ⟨a4, n4, c4⟩, l := z.l ++ [((⟨a7, m7, c7⟩ : SV), rws)] })) ?_
                  exact PO.againK (i + 1, s', { z with os := ⟨a3, n3, c3⟩, ops := z.ops ++ [x.op], ls := ⟨a4, n4, c4⟩, l := z.l ++ [((⟨a7, m7, c7⟩ : SV), rws)] } :: delD F x.tx, all, av, kvs) ⟨by simp only; omega, hI2 ⟨a3, n3, c3⟩ ⟨a4, n4, c4⟩⟩ (by simp only; omega)
                · exact absurd g1 (by decide) -- end
    · skip
      refine WP.exit ?_
      refine PO.past nofun ?_
      refine PO.round nofun ?_
      refine PO.blockX ?_
      refine PO.next ?_
      refine WP.seq ?_
      refine WP.reg ?_
      refine WL.e e_assign ?_
      refine WL.next ?_
      refine WP.seq ?_
      refine WP.seq ?_
      refine WP.reg ?_
      refine WL.e e_assign ?_
      refine WL.next ?_
      refine WP.block ?_
      refine WP.nils 40 2 RowM.c none ?_
      refine WP.loopK (fun (x : Nat × SV) => [(16, .int .i64 x.1), (15, x.2.v)]) (fun (x : Nat × SV) => Sl 40 2 RowM.c x.2.v (rowsC all x.1) :: Bs p dp (s) :: TxsU TPB (s).txs :: Mp eU32 om (kvs) :: Dids (F) :: Sl 63 3 didC (av.v) (all) :: Coms (all) :: A :: R) [(4, _), (6, _)] (fun (x : Nat × SV) => x.1 ≤ all.length ∧ (rowsC all x.1).length ≤ x.1 * 150) (fun (x : Nat × SV) => all.length - x.1) (0, ⟨none, 0, 0⟩) (⟨Nat.zero_le _, Nat.le_refl _⟩) ?_
      rintro ⟨k, w⟩ ⟨hk, hkl⟩
      simp only at hk hkl
      dsimp only
      refine WP.seq ?_
      refine WP.seq ?_
      refine WP.reg ?_
      refine WL.e e_move <| WL.e e_move ?_
      refine WL.e (el_len (xs := all) (enc := didC) sl55 sl_rl) <| WL.e e_lss ?_
      refine WL.next ?_
      refine WP.cond rfl (fun h2 => ?_) (fun h2 => ?_)
      · have hkt : k < all.length := by rw [decide_eq_true_eq] at h2; omega
        obtain ⟨a, ha⟩ : ∃ a, all[k]? = some a := ⟨_, List.getElem?_eq_getElem hkt⟩
        obtain ⟨r1, r2, r3, r4, r5, r6, r7, r8⟩ := hI.run ha
        obtain ⟨A1, B1, eAB⟩ := mem_mid (List.mem_of_getElem? ha)
        have hal := hI.len
        refine WP.opn (Coms_out eAB) fun _ => ?_
        refine WP.skip ?_
        refine PO.next ?_
        refine WP.seq ?_
        refine WP.block ?_
        refine WP.seq ?_
        refine WP.reg ?_
        refine WL.e e_move <| WL.e e_move <| WL.e e_move ?_
        refine WL.e (el_ia (j := k) (xs := all) (enc := didC) sl55 sl_rl hkt) ?_
        refine WL.e (el_fa (z := 3) (j := k) (xs := all) (enc := didC) f63_1 sl_rl hkt) ?_
        refine WL.e (el_load (j := k) (f := 1) (xs := all) (enc := didC) a60 didE sl_rl ha) ?_
        refine WL.h (h_call (Run_spec (sl_rl (xs := rowsC all k)) (sl_rl (xs := a.ops)) r4 r5 r3 (by omega)) k32 ?_)
        intro sv1 ts1 a4 n4 c4 ht1
        refine WL.e e_move <| WL.e e_extract <| WL.e e_extract <| WL.e e_assign <| WL.e e_assign ?_
        refine WL.next ?_
        refine WP.seq ?_
        refine WP.seq ?_
        refine WP.reg ?_
        refine WL.e e_move <| WL.e e_move <| WL.e e_move ?_
        refine WL.e (el_ia (j := k) (xs := all) (enc := didC) sl55 sl_rl hkt) ?_
        refine WL.e (el_fa (z := 3) (j := k) (xs := all) (enc := didC) f63_2 sl_rl hkt) ?_
        refine WL.e (el_load (j := k) (f := 2) (xs := all) (enc := didC) a61 didE sl_rl ha) ?_
        refine WL.h (h_call (SameResults_spec (sl_rl (xs := ts1)) (sl_rl (xs := a.l)) (by have := congrArg List.length (ht1.trans r1); simp at this; omega) (fun y hy => by have h4 := runM_told (rowsC all k) a.ops y.2 (by rw [← ht1]; exact List.mem_map.2 ⟨y, hy, rfl⟩); omega)) k33 ?_)
        rw [decide_eq_true (show ts1.map (·.2) = a.l.map (·.2) from ht1.trans r1)]
        refine WL.e e_not ?_
        refine WL.next ?_
        refine WP.cond_f rfl ?_
        refine WP.skip ?_
        refine PO.next ?_
        refine WP.reg ?_
        refine WL.e e_move <| WL.e e_assign ?_
        refine WL.nil ?_
        refine PO.blockN ?_
        refine PO.next ?_
        refine WP.reg ?_
        refine WL.e e_move <| WL.e (e_add (c := ((k + 1 : Nat) : Int)) rfl rfl (by have := hI.len; rw [w_i64 (by omega) (by omega)]; omega)) <| WL.e e_assign ?_
        refine WL.nil ?_
        rw [r2]
        refine PO.cls (A := Coms all) (B := [Sl 36 4 OpM.c a.os.v a.ops, Sl 31 1 resC a.ls.v a.l, ResR a.l, Coms (A1 ++ B1)]) (fun S h => eAB ▸ Coms_in S h) ?_
        exact PO.againK (k + 1, ⟨a4, n4, c4⟩) ⟨by simp only; omega, by simp only; omega⟩ (by simp only; omega)
      · obtain rfl : k = all.length := by rw [decide_eq_false_iff_not] at h2; omega
        have hal := hI.len
        refine WP.exit ?_
        refine PO.past nofun ?_
        refine PO.round nofun ?_
        refine PO.blockX ?_
        refine PO.next ?_
        refine WP.seq ?_
        refine WP.reg ?_
        refine WL.e e_move <| WL.e e_move ?_
        refine WL.h (h_call (BRows_spec (s := s) hI.ok) k20 ?_)
        intro a5 m5 c5
        refine WL.h (h_call (SameRows_spec (sl_rl (xs := rowsC all all.length)) (sl_rl (xs := s.rows)) (by omega)) k34 ?_)
        rw [decide_eq_true hI.done.symm]
        refine WL.e e_move ?_
        refine WL.bool 194 rfl (fun y1 => ?_) (fun y1 => ?_)
        · skip
          refine WL.h (h_call (lives_spec) k21 ?_)
          refine WL.e e_pick_t <| WL.e e_assign ?_
          refine WL.next ?_
          refine WP.ret ?_
          exact PO.finE Tryz.results5 (rv_tmp rv_nil) rfl hK
        · exact absurd y1 (by decide) -- end
end Go.SL
/- From the row to the walk: a slice of structs that came in is read as a list. -/
set_option linter.unusedSimpArgs false
set_option linter.unusedVariables false
set_option linter.unusedSectionVars false
namespace Go.SL
open Go Go.ChangeShapes Go.Deep
section
variable {H : Type} {enc : TypeId × Value → H} {P : Program} {W : World} {held : Bool}
theorem add_off (a : Addr) (n : Nat) (h : a.spot = none) : a.add n = ⟨a.block, a.off + n, none⟩ := by
  obtain ⟨b, o, s⟩ := a
  simp at h; subst h
  exact add_none b o n
theorem slice_rl {α : Type} {t e : TypeId} {fuel z : Nat} {cs : List Value} {x : DataW H × List MemPlace} {c : α → List Value} (ht : P.underlying t = some (.slice e)) (hz : P.cellsOf e = z) (h0 : 0 < z) (he : EncOk z c)
    (hel : ∀ n cs' y, DataW.trod enc P W 0 (fun _ => true) held n e cs' = some y → ∃ a : α, cs' = c a) (h : DataW.trod enc P W 0 (fun _ => true) held fuel t cs = some x) :
    ∃ (v : SV) (xs : List α), cs = [v.v] ∧ RL (Old W) z c v.v xs ∧ (xs = [] ∨ ∃ el sp, x.1 = .slice el sp ∧ el.length = xs.length) := by
  rcases open_slice ht h with ⟨hcs, _⟩ | ⟨a, len, cap, m, n, D, Pl, hcs, _, hl, hm, hmm, hxx, hi⟩
  · exact ⟨⟨none, 0, 0⟩, [], hcs, nil_rl, .inl rfl⟩
  simp only [if_true] at hmm
  subst hmm
  rw [hz] at hi
  have hi' : ∀ i : Fin m, ∃ y : α, ∀ j, j < z → W.cell? ((a.add (i * z)).add j) = (c y)[j]? := fun i => by
    obtain ⟨cs', h1, h2⟩ := hi i i.2
    obtain ⟨y, rfl⟩ := hel _ _ _ h2
    exact ⟨y, (World.cells?_some h1).2.2⟩
  by_cases hc0 : m = 0
  · have : len = 0 := by omega
    subst this
    exact ⟨⟨some a, 0, m⟩, [], hcs, nil_rl, .inl rfl⟩
  let Y : Fin m → α := fun i => Classical.choose (hi' i)
  have hY : ∀ i : Fin m, ∀ j, j < z → W.cell? ((a.add (i * z)).add j) = (c (Y i))[j]? := fun i => Classical.choose_spec (hi' i)
  have hsp : a.spot = none := by
    have := hY ⟨0, by omega⟩ 0 h0
    have hlt : 0 < (c (Y ⟨0, by omega⟩)).length := by rw [he.len]; exact h0
    rw [List.getElem?_eq_getElem hlt] at this
    have h2 := World.cell?_spot this
    cases hs : a.spot with
    | none => rfl
    | some s => simp [Addr.add, hs] at h2
  have hcell : ∀ k (hk : k < m * z), W.cell? ⟨a.block, a.off + k, none⟩ = (c (Y ⟨k / z, (Nat.div_lt_iff_lt_mul h0).2 hk⟩))[k % z]? := fun k hk => by
    have := hY ⟨k / z, (Nat.div_lt_iff_lt_mul h0).2 hk⟩ (k % z) (Nat.mod_lt _ h0)
    rw [add_off a _ hsp, add_none] at this
    have e : a.off + k / z * z + k % z = a.off + k := by have := Nat.div_add_mod k z; rw [Nat.mul_comm] at this; omega
    simp only [e] at this
    exact this
  have hmz : 0 < m * z := Nat.mul_pos (by omega) h0
  obtain ⟨arr, t', fr, hb⟩ : ∃ arr t' fr, W.heap[a.block]? = some (.cells arr t' fr) := by
    have := hcell 0 hmz
    rw [List.getElem?_eq_getElem (by rw [he.len]; exact Nat.mod_lt _ h0)] at this
    unfold World.cell? at this
    cases hh : W.heap[a.block]? with
    | none => rw [hh] at this; cases this
    | some o => rw [hh] at this; cases o <;> first | exact ⟨_, _, _, rfl⟩ | cases this
  have hval : ∀ k (hk : k < m * z), arr.toList[a.off + k]? = (c (Y ⟨k / z, (Nat.div_lt_iff_lt_mul h0).2 hk⟩))[k % z]? := fun k hk => by
    have := hcell k hk
    unfold World.cell? at this
    rw [hb] at this
    simpa using this
  have hlen : a.off + m * z ≤ arr.toList.length := by
    have := hval (m * z - 1) (by omega)
    have hlt : (m * z - 1) % z < (c (Y ⟨(m * z - 1) / z, (Nat.div_lt_iff_lt_mul h0).2 (by omega)⟩)).length := by rw [he.len]; exact Nat.mod_lt _ h0
    rw [List.getElem?_eq_getElem hlt] at this
    have := idx_lt this
    omega
  refine ⟨⟨some a, len, m⟩, List.ofFn fun i : Fin len => Y ⟨i, by omega⟩, hcs, fun S hS => ?_, .inr ⟨_, _, by rw [hxx], by simp⟩⟩
  refine .inr ⟨a.block, a.off, m, arr.toList, (t', fr), ?_, by simpa using hl, ?_, hlen, ?_⟩
  · obtain ⟨b, o, s⟩ := a
    simp at hsp; subst hsp
    simp
  · exact hS _ _ (by simpa [heapOf] using hb)
  · apply List.ext_getElem?
    intro k
    rw [td_get, List.length_ofFn]
    by_cases hk : k < len * z
    · rw [if_pos hk]
      have hkm : k < m * z := Nat.lt_of_lt_of_le hk (Nat.mul_le_mul_right _ hl)
      rw [hval k hkm]
      have hd : k / z < len := (Nat.div_lt_iff_lt_mul h0).2 hk
      have hx : (List.ofFn fun i : Fin len => Y ⟨i, by omega⟩)[k / z]? = some (Y ⟨k / z, by omega⟩) := by simp [hd]
      have := flat_at he hx (k % z) (Nat.mod_lt _ h0)
      rw [show k / z * z + k % z = k by have := Nat.div_add_mod k z; rw [Nat.mul_comm] at this; omega] at this
      exact this
    · rw [if_neg hk]
      apply List.getElem?_eq_none
      rw [flat_len he, List.length_ofFn]; omega
theorem sized_len {α : Type} {ts : List TypeId} {ds : List (DataW H)} {j : Nat} {t e : TypeId} {d : DataW H} {xs : List α} (h : (DataW.weightsEach P ts ds).all (· ≤ reachBytes) = true) (ht : ts[j]? = some t) (hd : ds[j]? = some d) (hu : P.underlying t = some (.slice e)) (hb : (P.bytesOf e == 0) = false)
    (hx : xs = [] ∨ ∃ el sp, d = .slice el sp ∧ el.length = xs.length) : xs.length ≤ 140737488351232 := by
  rcases hx with rfl | ⟨el, sp, rfl, he⟩
  · simp
  · have := sized_slice h ht hd hu
    have hp : 1 ≤ P.bytesOf e := by simp at hb; omega
    have : xs.length * 1 ≤ (el.length + sp.length) * P.bytesOf e := Nat.mul_le_mul (by omega) hp
    rw [show reachBytes = 140737488351232 from rfl] at *
    omega
theorem below_of_spec1 {P : Program} {w : World} {f : FuncId} {args : List Value} (h : Spec P w f args [Old w] fun K R => K (.bool true) (Old w :: R)) : Calls P f args.toArray w fun e w' => e = .returned (.bool true) ∧ Go.RowKit.Below w.heap.size w w' := by
  refine (h [] (fun v M => v = .bool true ∧ M = [Old w]) w (sat_old w) ⟨rfl, rfl⟩).mono ?_
  rintro e w' ⟨v, M, rfl, ⟨rfl, rfl⟩, hs⟩
  exact ⟨rfl, old_below hs⟩
theorem op_cells {t k s u : TypeId} {b0 b1 b2 b3 : Nat} {n0 n1 n2 n3 : String} {fuel : Nat} {cs : List Value} {y : DataW H × List MemPlace} (ht : P.underlying t = some (.struct #[⟨n0, k, 0, false, "", "", b0⟩, ⟨n1, s, 1, false, "", "", b1⟩, ⟨n2, s, 2, false, "", "", b2⟩, ⟨n3, u, 3, false, "", "", b3⟩]))
    (hk : P.underlying k = some (.int .u8)) (hs : P.underlying s = some .string) (hu : P.underlying u = some (.int .u32)) (ct : P.cellsOf t = 4) (ck : P.cellsOf k = 1) (c1 : P.cellsOf s = 1) (cu : P.cellsOf u = 1)
    (h : DataW.trod enc P W 0 (fun _ => true) held fuel t cs = some y) : ∃ x : OpM, cs = x.c := by
  obtain ⟨y0, y1, y2, y3, m, hx, hl, h0, h1, h2, h3⟩ := Go.Joins.trod_struct4 ht h
  rw [ct] at hl
  match cs, hl with
  | [a, b, c, d], _ =>
    simp only [ck, c1, cu] at h0 h1 h2 h3
    obtain ⟨n, e0, _, w0⟩ := DataW.trod_int hk h0
    obtain ⟨s1, e1, _, _⟩ := DataW.trod_string hs h1
    obtain ⟨s2, e2, _, _⟩ := DataW.trod_string hs h2
    obtain ⟨v, e3, _, w3⟩ := DataW.trod_int hu h3
    simp at e0 e1 e2 e3
    subst e0 e1 e2 e3
    refine ⟨⟨UInt8.ofNat n.toNat, s1, s2, UInt32.ofNat v.toNat⟩, ?_⟩
    simp only [OpM.c]
    rw [← u8_wf w0, ← u32_wf w3]
end
end Go.SL
