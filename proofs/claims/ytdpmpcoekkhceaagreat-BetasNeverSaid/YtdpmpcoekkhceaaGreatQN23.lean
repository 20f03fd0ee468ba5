/- VF VP SLv: rules and walks, several texts in one. -/
import Derived.Test.YtdpmpcoekkhceaaGreatQN22
import Derived.Test.YtdpmpcoekkhceaaGreatProg
import Derived.KernelRfl
import Derived.Deep.Slices
import Derived.ChangeSame
import Derived.SizedLaws
set_option linter.unusedSimpArgs false
set_option linter.unusedVariables false
namespace Go.SL.VF
open Go Go.Proofs Go.SL
theorem a29 : aggOf Tryz.prog 29 = some none := by kernel_rfl
theorem a36 : aggOf Tryz.prog 36 = some (some 4) := by kernel_rfl
theorem f31_0 : fldOf Tryz.prog 31 0 = some 0 := by kernel_rfl
theorem k14 : callable Tryz.prog 14 = true := by kernel_rfl
theorem k15 : callable Tryz.prog 15 = true := by kernel_rfl
theorem k16 : callable Tryz.prog 16 = true := by kernel_rfl
theorem k17 : callable Tryz.prog 17 = true := by kernel_rfl
theorem k18 : callable Tryz.prog 18 = true := by kernel_rfl
theorem k19 : callable Tryz.prog 19 = true := by kernel_rfl
theorem k20 : callable Tryz.prog 20 = true := by kernel_rfl
theorem k31 : callable Tryz.prog 31 = true := by kernel_rfl
theorem k44 : callable Tryz.prog 44 = true := by kernel_rfl
theorem k45 : callable Tryz.prog 45 = true := by kernel_rfl
theorem k46 : callable Tryz.prog 46 = true := by kernel_rfl
theorem p36 : placesOf Tryz.prog 36 = some [(0, 1), (1, 1), (2, 1), (3, 1)] := by kernel_rfl
theorem pt24 : isPtr Tryz.prog 24 = true := by kernel_rfl
theorem s31 : szOf Tryz.prog 31 = some 1 := by kernel_rfl
theorem s36 : szOf Tryz.prog 36 = some 4 := by kernel_rfl
theorem sl29 : slOf Tryz.prog 29 = some (40, 2, 24) := by kernel_rfl
theorem sl52 : slOf Tryz.prog 52 = some (58, 8, 72) := by kernel_rfl
theorem z31 : zeroOf Tryz.prog 31 = some [.slice none 0 0] := by kernel_rfl
theorem z36 : zeroOf Tryz.prog 36 = some [.int .u8 0, .string .empty, .string .empty, .int .u32 0] := by kernel_rfl
end Go.SL.VF
namespace Go.SL
open Go Go.Proofs VF
theorem opened_spec {g : World} : Spec Tryz.prog g 14 [] [] fun K R => ∀ dp p, K (.tuple #[.pointer (some ⟨dp, 0, none⟩), .pointer (some ⟨p, 0, none⟩)]) (Bs p dp stF :: TxsU TPB [] :: R) := by
  refine Spec.intro Tryz.func14 rfl Tryz.ntmps14 rfl fun R K hK => ?_
  refine WP.seq ?_
  refine WP.reg ?_
  refine WL.e e_assign <| WL.e e_assign ?_
  refine WL.next ?_
  refine WP.seq ?_
  refine WP.reg ?_
  refine WL.h (h_call (New_spec 4096 (by decide)) k45 ?_)
  refine ⟨fun h => absurd h (by omega), fun _ _ dp => ?_⟩
  refine WL.e e_move <| WL.e e_extract <| WL.e e_extract <| WL.e e_assign <| WL.e e_assign ?_
  refine WL.next ?_
  refine WP.seq ?_
  refine WP.reg ?_
  refine WL.e e_move ?_
  refine WL.h (h_call (BNew_spec (d := newDisk 4096) (at0 := 0) [] DiskLogB.first (by simp)) k44 ?_)
  intro p
  refine WL.e e_move <| WL.e e_extract <| WL.e e_extract <| WL.e e_assign <| WL.e e_assign ?_
  refine WL.next ?_
  refine WP.seq ?_
  refine WP.seq ?_
  refine WP.reg ?_
  refine WL.e e_move <| WL.e e_neq <| WL.e e_move ?_
  refine WL.bool 17 rfl (fun hg => ?_) (fun hg => ?_)
  · exact absurd hg (by decide) -- end
  · skip
    refine WL.e e_move <| WL.e e_neq <| WL.e e_pick_f ?_
    refine WL.next ?_
    refine WP.cond_f rfl ?_
    refine WP.skip ?_
    refine PO.next ?_
    refine WP.seq ?_
    refine WP.reg ?_
    refine WL.e e_move <| WL.e e_move <| WL.e e_assign <| WL.e e_assign ?_
    refine WL.next ?_
    refine WP.ret ?_
    exact PO.fin Tryz.results14 (rv_tmp (rv_tmp rv_nil)) (hK dp p)
theorem lput_spec {g : World} (k : ByteArray) (v : UInt32) : Spec Tryz.prog g 18 [.string k, .int .u32 v.toNat] [] fun K R => K (opPut k v).v R := by
  refine Spec.intro Tryz.func18 rfl Tryz.ntmps18 rfl fun R K hK => ?_
  refine WP.seq ?_
  refine WP.reg ?_
  refine WL.h (h_alloc z36 fun b1 => ?_)
  refine WL.next ?_
  refine WP.seq ?_
  refine WP.reg ?_
  refine WL.e e_move <| WL.e e_move <| WL.e (e_build z36 p36 (.o (.const (.int .u8 2)) rfl <| .o (.tmp 5) rfl <| .z (.string .empty) <| .o (.tmp 6) rfl <| .n)) ?_
  refine WL.h' (h_store s36 ?_)
  refine WL.next ?_
  refine WP.ret ?_
  exact PO.fin Tryz.results18 (rv_cellN a36 rv_nil) hK
theorem lget_spec {g : World} (k : ByteArray) : Spec Tryz.prog g 17 [.string k] [] fun K R => K (opGet k).v R := by
  refine Spec.intro Tryz.func17 rfl Tryz.ntmps17 rfl fun R K hK => ?_
  refine WP.seq ?_
  refine WP.reg ?_
  refine WL.h (h_alloc z36 fun b1 => ?_)
  refine WL.next ?_
  refine WP.seq ?_
  refine WP.reg ?_
  refine WL.e e_move <| WL.e (e_build z36 p36 (.o (.const (.int .u8 1)) rfl <| .o (.tmp 3) rfl <| .z (.string .empty) <| .z (.int .u32 0) <| .n)) ?_
  refine WL.h' (h_store s36 ?_)
  refine WL.next ?_
  refine WP.ret ?_
  exact PO.fin Tryz.results17 (rv_cellN a36 rv_nil) hK
theorem there_nil {g : World} : Spec Tryz.prog g 46 [.pointer none] [] fun K R => K (.bool false) R := by
  refine Spec.intro Tryz.func46 rfl Tryz.ntmps46 rfl fun R K hK => ?_
  refine WP.seq ?_
  refine WP.reg ?_
  refine WL.e e_assign ?_
  refine WL.next ?_
  refine WP.seq ?_
  refine WP.reg ?_
  refine WL.e e_move <| WL.e (e_pne pt24) <| WL.e e_move ?_
  refine WL.bool 5 rfl (fun h => ?_) (fun h => ?_)
  · cases h -- end
  · skip
    refine WL.skip <| WL.skip <| WL.skip <| WL.skip <| WL.skip <| WL.e e_pick_f <| WL.e e_assign ?_
    refine WL.next ?_
    refine WP.ret ?_
    exact PO.fin Tryz.results46 (rv_tmp rv_nil) hK
theorem Begin_nil {g : World} (n : UInt32) : Spec Tryz.prog g 15 [.pointer none, .int .u32 n.toNat] [] fun K R => K (.int .i64 2) R := by
  refine Spec.intro Tryz.func15 rfl Tryz.ntmps15 rfl fun R K hK => ?_
  refine WP.seq ?_
  refine WP.reg ?_
  refine WL.e e_assign ?_
  refine WL.next ?_
  refine WP.seq ?_
  refine WP.block ?_
  refine WP.seq ?_
  refine WP.reg ?_
  refine WL.e e_move ?_
  refine WL.h (h_call (there_nil) k46 ?_)
  refine WL.e e_not <| WL.e e_assign ?_
  refine WL.next ?_
  refine WP.cond_t rfl ?_
  refine WP.seq ?_
  refine WP.reg ?_
  refine WL.e e_assign ?_
  refine WL.next ?_
  refine WP.ret ?_
  refine PO.blockR ?_
  refine PO.past nofun ?_
  exact PO.fin Tryz.results15 (rv_tmp rv_nil) hK
theorem great_spec {g : World} {A : HP} {u : Value} {xs : List ActM} (hA : RL A 8 ActM.c u xs) : Spec Tryz.prog g 30 [u] [A] fun K R => K (.bool (decide (150 < xs.length))) (A :: R) := by
  refine Spec.intro Tryz.func30 rfl Tryz.ntmps30 rfl fun R K hK => ?_
  refine WP.seq ?_
  refine WP.reg ?_
  refine WL.e e_assign ?_
  refine WL.next ?_
  refine WP.seq ?_
  refine WP.reg ?_
  refine WL.e e_move ?_
  refine WL.e (el_len (xs := xs) sl52 hA) <| WL.e e_gtr <| WL.e e_assign ?_
  refine WL.next ?_
  refine WP.ret ?_
  exact PO.finE Tryz.results30 (rv_tmp rv_nil) (by simp; omega) hK
set_option maxHeartbeats 4000000 in
theorem lives_spec {g : World} : Spec Tryz.prog g 21 [] [] fun K R => K (.bool true) R := by
  refine Spec.intro Tryz.func21 rfl Tryz.ntmps21 rfl fun R K hK => ?_
  refine WP.seq ?_
  refine WP.reg ?_
  refine WL.e e_assign ?_
  refine WL.next ?_
  refine WP.seq ?_
  refine WP.reg ?_
  refine WL.h (h_call (opened_spec) k14 ?_)
  intro dp p
  have h0 : AtS betaG stF [] [] 0 := AtS.first bet_first
  refine WL.e e_move <| WL.e e_extract <| WL.e e_extract <| WL.e e_assign <| WL.e e_assign ?_
  refine WL.next ?_
  refine WP.seq ?_
  refine WP.seq ?_
  refine WP.reg ?_
  refine WL.e e_move <| WL.e (e_peq pt24) <| WL.e e_move ?_
  refine WL.bool 18 rfl (fun hg => ?_) (fun hg => ?_)
  · cases hg -- end
  · skip
    refine WL.e e_move ?_
    refine WL.h (h_call (BBegin_spec (s := stF) 1) k15 ?_)
    intro q1
    obtain ⟨e0, h1⟩ := h0.beg 1 q1 (by decide) (by rfl) (by simp)
    rw [e0]
    generalize begS stF 1 q1 = s1 at h1 ⊢
    simp only [List.nil_append, List.cons_append] at h1
    refine WL.e e_neq <| WL.e e_pick_f <| WL.e e_move ?_
    refine WL.bool 23 rfl (fun hg2 => ?_) (fun hg2 => ?_)
    · exact absurd hg2 (by decide) -- end
    · skip
      refine WL.e e_move ?_
      refine WL.h (h_call (BBegin_spec (s := s1) 2) k15 ?_)
      intro q2
      obtain ⟨e0, h2⟩ := h1.beg 2 q2 (by decide) (by rfl) (by simp)
      rw [e0]
      generalize begS s1 2 q2 = s2 at h2 ⊢
      simp only [List.nil_append, List.cons_append] at h2
      refine WL.e e_neq <| WL.e e_pick_f ?_
      refine WL.next ?_
      refine WP.cond_f rfl ?_
      refine WP.skip ?_
      refine PO.next ?_
      refine WP.seq ?_
      refine WP.reg ?_
      refine WL.e e_move ?_
      refine WL.h (h_call (lget_spec kA) k17 ?_)
      refine WL.h (h_call (BDo_spec (s := s2) 1 (opGet kA) h2.ok) k16 ?_)
      obtain ⟨s3, e0, h3⟩ := h2.get (n := 1) rfl keyA (by decide)
      rw [e0]
      try simp only [setU, List.map_cons, List.map_nil, List.nil_append, List.cons_append] at h3
      try simp (config := { decide := true }) only [if_true, if_false] at h3
      intro a1 m1 c1
      refine WL.next ?_
      refine WP.seq ?_
      refine WP.reg ?_
      refine WL.e e_move ?_
      refine WL.h (h_call (lput_spec kA 5) k18 ?_)
      refine WL.h (h_call (BDo_spec (s := s3) 2 (opPut kA 5) h3.ok) k16 ?_)
      obtain ⟨s4, e0, h4⟩ := h3.put (n := 2) rfl keyA 5 (by decide)
      rw [e0]
      try simp only [setU, List.map_cons, List.map_nil, List.nil_append, List.cons_append] at h4
      try simp (config := { decide := true }) only [if_true, if_false] at h4
      refine WL.e e_move <| WL.e e_extract <| WL.e e_extract ?_
      refine WL.h (h_alloc z31 fun b1 => ?_)
      refine WL.h' (h_store s31 ?_)
      refine WL.e e_assign ?_
      refine WL.next ?_
      refine WP.seq ?_
      refine WP.reg ?_
      refine WL.e e_move ?_
      refine WL.h (h_call (BCommit_spec (s := s4) 2 h4.ok (by decide)) k19 ?_)
      obtain ⟨e0, e1, h5⟩ := h4.com (n := 2) rfl (by rw [h4.chk]; rfl) (by simp) (by simp) (by decide)
      rw [e0, e1]
      generalize comS betaI s4 2 = s5 at h5 ⊢
      refine WL.e e_move <| WL.e e_extract <| WL.e e_extract <| WL.e e_assign <| WL.e e_assign ?_
      refine WL.next ?_
      refine WP.seq ?_
      refine WP.reg ?_
      refine WL.e e_move ?_
      refine WL.h (h_call (lget_spec kA) k17 ?_)
      refine WL.h (h_call (BDo_spec (s := s5) 1 (opGet kA) h5.ok) k16 ?_)
      obtain ⟨s6, e0, h6⟩ := h5.get (n := 1) rfl keyA (by decide)
      rw [e0]
      try simp only [setU, List.map_cons, List.map_nil, List.nil_append, List.cons_append] at h6
      try simp (config := { decide := true }) only [if_true, if_false] at h6
      intro a2 m2 c2
      refine WL.e e_move <| WL.e e_extract <| WL.e e_extract ?_
      refine WL.h (h_alloc z31 fun b2 => ?_)
      refine WL.h' (h_store s31 ?_)
      refine WL.e e_assign ?_
      refine WL.next ?_
      refine WP.seq ?_
      refine WP.reg ?_
      refine WL.e e_move ?_
      refine WL.h (h_call (BCommit_spec (s := s6) 1 h6.ok (by decide)) k19 ?_)
      obtain ⟨e0, e1, h7⟩ := h6.comX (n := 1) rfl (by rw [h6.chk]; exact Bool.or_eq_true_iff.2 (.inl (since_one _ _))) (by decide)
      rw [e0, e1]
      generalize comS betaI s6 1 = s7 at h7 ⊢
      refine WL.e e_move <| WL.e e_extract <| WL.e e_extract <| WL.e e_assign <| WL.e e_assign ?_
      refine WL.next ?_
      refine WP.seq ?_
      refine WP.reg ?_
      refine WL.e e_assign ?_
      refine WL.next ?_
      refine WP.seq ?_
      refine WP.reg ?_
      refine WL.e e_move <| WL.e e_eql <| WL.e e_move ?_
      refine WL.bool 55 rfl (fun y1 => ?_) (fun y1 => ?_)
      · skip
        refine WL.e e_move <| WL.e (e_eql32 (b := 1)) <| WL.e e_pick_t <| WL.e e_move ?_
        refine WL.bool 59 rfl (fun y2 => ?_) (fun y2 => ?_)
        · skip
          refine WL.e e_move <| WL.e e_eql <| WL.e e_pick_t <| WL.e e_move ?_
          refine WL.bool 63 rfl (fun y3 => ?_) (fun y3 => ?_)
          · skip
            refine WL.e e_move <| WL.e e_eql <| WL.e e_pick_t <| WL.e e_move ?_
            refine WL.bool 67 rfl (fun y4 => ?_) (fun y4 => ?_)
            · skip
              refine WL.e (e_fa f31_0) <| WL.e (e_load a29) ?_
              refine WL.e (el_len (xs := ([] : List RowM)) sl29 sl_rl) <| WL.e e_eql <| WL.e e_pick_t <| WL.e e_move ?_
              refine WL.bool 73 rfl (fun y5 => ?_) (fun y5 => ?_)
              · skip
                refine WL.e e_move <| WL.e e_eql <| WL.e e_pick_t <| WL.e e_move ?_
                refine WL.bool 77 rfl (fun y6 => ?_) (fun y6 => ?_)
                · skip
                  refine WL.e e_move ?_
                  refine WL.h (h_call (BRows_spec (s := s7) h7.ok) k20 ?_)
                  intro a9 m9 c9
                  rw [show s7.rows = [(⟨kA, 5⟩ : RowM)] from h7.rows]
                  refine WL.e (el_len (xs := [(⟨kA, 5⟩ : RowM)]) sl29 sl_rl) <| WL.e e_eql <| WL.e e_pick_t <| WL.e e_move ?_
                  refine WL.bool 83 rfl (fun y7 => ?_) (fun y7 => ?_)
                  · skip
                    refine WL.e e_move ?_
                    refine WL.h (h_call (BBegin_spec (s := s7) 0) k15 ?_)
                    intro q9
                    rw [(beg_zero s7 q9).1, (beg_zero s7 q9).2]
                    refine WL.e e_eql <| WL.e e_pick_t <| WL.e e_move ?_
                    refine WL.bool 88 rfl (fun y8 => ?_) (fun y8 => ?_)
                    · skip
                      refine WL.e e_move ?_
                      refine WL.h (h_call (BAbort_spec (s := s7) 9 h7.ok) k31 ?_)
                      obtain ⟨e0, e1⟩ := h7.abo0 (n := 9) rfl
                      rw [e0, e1]
                      refine WL.e e_eql <| WL.e e_pick_t <| WL.e e_move ?_
                      refine WL.bool 93 rfl (fun y9 => ?_) (fun y9 => ?_)
                      · skip
                        refine WL.e e_move ?_
                        refine WL.h (h_call (Begin_nil 1) k15 ?_)
                        refine WL.e e_eql <| WL.e e_pick_t <| WL.e e_assign ?_
                        refine WL.next ?_
                        refine WP.ret ?_
                        exact PO.finE Tryz.results21 (rv_tmp rv_nil) rfl hK
                      · exact absurd y9 (by decide) -- end
                    · exact absurd y8 (by decide) -- end
                  · exact absurd y7 (by decide) -- end
                · exact absurd y6 (by decide) -- end
              · exact absurd y5 (by decide) -- end
            · exact absurd y4 (by decide) -- end
          · exact absurd y3 (by decide) -- end
        · exact absurd y2 (by decide) -- end
      · exact absurd y1 (by decide) -- end
end Go.SL
set_option linter.unusedSimpArgs false
set_option linter.unusedVariables false
namespace Go.SL.VP
open Go Go.Proofs Go.SL
theorem a22 : aggOf Tryz.prog 22 = some none := by kernel_rfl
theorem a36 : aggOf Tryz.prog 36 = some (some 4) := by kernel_rfl
theorem a5 : aggOf Tryz.prog 5 = some none := by kernel_rfl
theorem a58 : aggOf Tryz.prog 58 = some (some 8) := by kernel_rfl
theorem a82 : aggOf Tryz.prog 82 = some none := by kernel_rfl
theorem a98 : aggOf Tryz.prog 98 = some none := by kernel_rfl
theorem f100_2 : fldOf Tryz.prog 100 2 = some 2 := by kernel_rfl
theorem f58_0 : fldOf Tryz.prog 58 0 = some 0 := by kernel_rfl
theorem f58_1 : fldOf Tryz.prog 58 1 = some 1 := by kernel_rfl
theorem f58_2 : fldOf Tryz.prog 58 2 = some 2 := by kernel_rfl
theorem k128 : callable Tryz.prog 128 = true := by kernel_rfl
theorem k129 : callable Tryz.prog 129 = true := by kernel_rfl
theorem k138 : callable Tryz.prog 138 = true := by kernel_rfl
theorem k14 : callable Tryz.prog 14 = true := by kernel_rfl
theorem k15 : callable Tryz.prog 15 = true := by kernel_rfl
theorem k16 : callable Tryz.prog 16 = true := by kernel_rfl
theorem k161 : callable Tryz.prog 161 = true := by kernel_rfl
theorem k19 : callable Tryz.prog 19 = true := by kernel_rfl
theorem k21 : callable Tryz.prog 21 = true := by kernel_rfl
theorem k30 : callable Tryz.prog 30 = true := by kernel_rfl
theorem k31 : callable Tryz.prog 31 = true := by kernel_rfl
theorem k42 : callable Tryz.prog 42 = true := by kernel_rfl
theorem k43 : callable Tryz.prog 43 = true := by kernel_rfl
theorem k46 : callable Tryz.prog 46 = true := by kernel_rfl
theorem k75 : callable Tryz.prog 75 = true := by kernel_rfl
theorem k76 : callable Tryz.prog 76 = true := by kernel_rfl
theorem k83 : callable Tryz.prog 83 = true := by kernel_rfl
theorem pt24 : isPtr Tryz.prog 24 = true := by kernel_rfl
theorem s31 : szOf Tryz.prog 31 = some 1 := by kernel_rfl
theorem s58 : szOf Tryz.prog 58 = some 8 := by kernel_rfl
theorem s82 : szOf Tryz.prog 82 = some 1 := by kernel_rfl
theorem sl52 : slOf Tryz.prog 52 = some (58, 8, 72) := by kernel_rfl
theorem sl82 : slOf Tryz.prog 82 = some (22, 1, 4) := by kernel_rfl
theorem z22 : zeroOf Tryz.prog 22 = some [.int .u32 0] := by kernel_rfl
theorem z31 : zeroOf Tryz.prog 31 = some [.slice none 0 0] := by kernel_rfl
theorem z58 : zeroOf Tryz.prog 58 = some [.int .u8 0, .int .u32 0, .int .u8 0, .string .empty, .string .empty, .int .u32 0, .int .u64 0, .int .i64 0] := by kernel_rfl
end Go.SL.VP
namespace Go.SL
open Go Go.Proofs VP
theorem BKeys_spec {g : World} {m : Nat} : Spec Tryz.prog g 83 [.map (some m)] [] fun K R => ∀ b, K (.func (.func 138) #[] #[.pointer (some ⟨b, 0, none⟩)]) (cl b 98 [.map (some m)] :: R) := by
  refine Spec.intro Tryz.func83 rfl Tryz.ntmps83 rfl fun R K hK => ?_
  refine WP.seq ?_
  refine WP.reg ?_
  refine WL.h (h_box fun b1 => ?_)
  refine WL.e e_assign ?_
  refine WL.next ?_
  refine WP.seq ?_
  refine WP.reg ?_
  refine WL.e e_makeFunc <| WL.e e_assign ?_
  refine WL.next ?_
  refine WP.ret ?_
  exact PO.fin Tryz.results83 (rv_tmp rv_nil) (hK b1)
theorem BKeys_iter {g : World} {b m : Nat} {ts : List (TxT)} : Iter Tryz.prog g 138 (fun y => [] ++ [y] ++ [.pointer (some ⟨b, 0, none⟩)]) [cl b 98 [.map (some m)], Mp eU32 (.map (some m)) (List.map kvU ts)] idC (fun _ => pu True) (fun xs => xs.Perm ts) (fun pre => ∃ r, (pre ++ r).Perm ts) [cl b 98 [.map (some m)], Mp eU32 (.map (some m)) (List.map kvU ts)] := by
  intro y J X cont hy
  refine Spec.intro Tryz.func138 rfl Tryz.ntmps138 rfl fun R K hK => ?_
  refine WP.seq ?_
  refine WP.reg ?_
  refine WL.e (e_load a98) ?_
  refine WL.h (h_range (kvs := List.map kvU ts) Tryz.underlying98 fun it => ?_)
  refine WL.next ?_
  refine WP.block ?_
  refine WP.loopK (fun (x : List (TxT) × List (TxT) × Option (UInt32 × Value)) => []) (fun (x : List (TxT) × List (TxT) × Option (UInt32 × Value)) => J x.2.1 :: MpIt eU32 (.map (some m)) it (List.map kvU ts) (List.map kvU x.1) x.2.2 :: cl b 98 [.map (some m)] :: R) [(0, _), (5, _)] (fun (x : List (TxT) × List (TxT) × Option (UInt32 × Value)) => (x.2.1 ++ x.1).Perm ts ∧ Hist cont x.2.1) (fun (x : List (TxT) × List (TxT) × Option (UInt32 × Value)) => x.1.length) (ts, [], none) (⟨.refl _, Hist.nil⟩) ?_
  rintro ⟨left, pre, cur⟩ ⟨hx1, hx2⟩
  simp only at hx1 hx2
  dsimp only
  refine WP.seq ?_
  refine WP.reg ?_
  refine WL.h (h_next (fun h0 => ?_) (fun a y0 b0 hx => ?_))
  · have hl0 : left = [] := by simpa using h0
    subst hl0
    refine WL.e e_extract ?_
    refine WL.next ?_
    refine WP.seq ?_
    refine WP.cond_f rfl ?_
    refine WP.exit ?_
    refine PO.past nofun ?_
    refine PO.round nofun ?_
    refine PO.blockX ?_
    exact PO.fin Tryz.results138 rv_nil (hK.1 pre (by simpa using hx1) hx2)
  · obtain ⟨A1, y, B1, hl, rfl, rfl, rfl⟩ := map_mid hx
    have hpp : (pre ++ ([y] ++ (A1 ++ B1))).Perm ts := by refine List.Perm.trans ?_ hx1; rw [hl]; exact List.Perm.append_left _ (List.perm_middle (a := y) (l₁ := A1) (l₂ := B1)).symm
    refine WL.e e_extract ?_
    refine WL.next ?_
    refine WP.seq ?_
    refine WP.cond_t rfl ?_
    refine WP.skip ?_
    refine PO.next ?_
    refine WP.block ?_
    refine WP.seq ?_
    refine WP.reg ?_
    refine WL.e e_entry <| WL.e e_extract <| WL.e e_assign ?_
    refine WL.next ?_
    refine WP.seq ?_
    refine WP.reg ?_
    refine WL.e e_move <| WL.e e_move ?_
    refine WL.h (HO.conv (fun S h => pu_stars trivial h) (h_cally (hy pre y ⟨_, by rw [List.append_assoc]; exact hpp⟩ hx2) ?_))
    refine ⟨fun hc => ?_, fun hc => ?_⟩
    · skip
      refine WL.e e_not ?_
      refine WL.next ?_
      refine WP.cond_f rfl ?_
      refine WP.skip ?_
      refine PO.blockN ?_
      rw [← List.map_append]
      exact PO.againK (A1 ++ B1, pre ++ [y], _) ⟨by simp only; rw [List.append_assoc]; exact hpp, hx2.snoc hc⟩ (by simp only [hl, List.length_append, List.length_cons]; omega)
    · skip
      refine WL.e e_not ?_
      refine WL.next ?_
      refine WP.cond_t rfl ?_
      refine WP.ret ?_
      refine PO.blockR ?_
      refine PO.round nofun ?_
      refine PO.blockR ?_
      refine PO.conv (conv1 (A := MpIt eU32 (.map (some m)) it (List.map kvU ts) _ _) (B := Mp eU32 (.map (some m)) (List.map kvU ts)) MpIt_Mp (by repeat first | exact .z | apply Put.s)) ?_
      exact PO.fin Tryz.results138 rv_nil (hK.2 pre y ⟨_, by rw [List.append_assoc]; exact hpp⟩ hx2 hc)
def BKJ (b : Nat) (pre : List (TxT)) : HP := fun S => ∃ sv : SV, stars [cl b 82 [sv.v], Sl 22 1 idC sv.v pre] S
theorem BKA_spec {g : World} {b m : Nat} {ts : List (TxT)} (hn : ts.length ≤ 68719476736) : Spec Tryz.prog g 161 [.slice none 0 0, .func (.func 138) #[] #[.pointer (some ⟨b, 0, none⟩)]] [cl b 98 [.map (some m)], Mp eU32 (.map (some m)) (List.map kvU ts)] fun K R => ∀ a n c xs, xs.Perm ts → K (.slice a n c) (Sl 22 1 idC (.slice a n c) xs :: cl b 98 [.map (some m)] :: Mp eU32 (.map (some m)) (List.map kvU ts) :: R) := by
  refine Spec.intro Tryz.func161 rfl Tryz.ntmps161 rfl fun R K hK => ?_
  refine WP.seq ?_
  refine WP.reg ?_
  refine WL.h (h_box fun b1 => ?_)
  refine WL.e e_assign ?_
  refine WL.next ?_
  refine WP.seq ?_
  refine WP.seq ?_
  refine WP.reg ?_
  refine WL.e e_move ?_
  refine WL.next ?_
  refine WP.block ?_
  refine WP.nils 22 1 idC none ?_
  refine WP.cls (A := BKJ b1 []) (B := [cl b1 82 [.slice none 0 0], Sl 22 1 idC (.slice none 0 0) ([])]) (fun S h => ⟨⟨none, 0, 0⟩, h⟩) ?_
  refine WP.range (R := ?RR) (f := 138) (fs := []) (cs := [.pointer (some ⟨b, 0, none⟩)]) (BKJ b1) (fun _ _ _ => pu True) (fun _ _ => True) (BKeys_iter (b := b) (m := m) (ts := ts)) k138 ?hLL ?_ ?_ ?_ (fun _ => rfl)
  case hLL => repeat first | exact .nil | exact Pick.z | apply Pick.s | apply Split.cons
  · rintro lb db fn tmps pre x R2 hp hh
    refine WP.opn (B := fun sv : SV => [cl b1 82 [sv.v], Sl 22 1 idC (sv.v) (pre)]) (fun _ h => h) fun sv => ?_
    have hlen : pre.length + 1 ≤ 68719476736 := by obtain ⟨r, hr⟩ := hp; have := hr.length_eq; simp only [List.length_append, List.length_cons, List.length_nil] at this; omega
    refine WP.reg ?_
    refine WL.e e_assign ?_
    refine WL.nil ?_
    refine PO.asg rfl (by repeat first | exact .z | apply Put.s) ?_
    refine WP.block ?_
    refine WP.reg ?_
    refine WL.e (e_load a82) <| WL.e e_move ?_
    refine WL.h (h_bs sl82 z22 (.o (.tmp 9) rfl <| .n) fun b2 => ?_)
    refine WL.h (hl_append (xs := pre) (ys := [x]) sl82 idE z22 (lit_rl idE [x] rfl) (by simp; omega) (fun a5 n5 c5 => ?_))
    refine WL.h' (h_store s82 ?_)
    refine WL.nil ?_
    refine PO.blockN ?_
    refine PO.cls (A := BKJ b1 (pre ++ [x])) (B := [cl b1 82 [.slice a5 n5 c5], Sl 22 1 idC (.slice a5 n5 c5) (pre ++ [x])]) (fun S h => ⟨⟨a5, n5, c5⟩, h⟩) ?_
    exact PO.rnd trivial (by repeat first | exact .refl | exact Pick.z | apply Pick.s | apply Sub.cons | apply Sub.drop)
  · rintro db xs hp hh
    refine PO.opn (B := fun sv : SV => [cl b1 82 [sv.v], Sl 22 1 idC (sv.v) (xs)]) (fun _ h => h) fun sv => ?_
    obtain ⟨a9, n9, c9⟩ := sv
    refine PO.blockN ?_
    refine PO.next ?_
    refine WP.seq ?_
    refine WP.reg ?_
    refine WL.e (e_load a82) <| WL.e e_assign ?_
    refine WL.next ?_
    refine WP.ret ?_
    exact PO.finM (by repeat first | exact .z | apply Put.s) Tryz.results161 (rv_tmp rv_nil) (hK a9 n9 c9 xs hp)
  · exact fun _ _ _ _ _ _ hc => absurd trivial hc
theorem BKC_spec {g : World} {b m : Nat} {ts : List (TxT)} (hn : ts.length ≤ 68719476736) : Spec Tryz.prog g 128 [.func (.func 138) #[] #[.pointer (some ⟨b, 0, none⟩)]] [cl b 98 [.map (some m)], Mp eU32 (.map (some m)) (List.map kvU ts)] fun K R => ∀ a n c xs, xs.Perm ts → K (.slice a n c) (Sl 22 1 idC (.slice a n c) xs :: cl b 98 [.map (some m)] :: Mp eU32 (.map (some m)) (List.map kvU ts) :: R) := by
  refine Spec.intro Tryz.func128 rfl Tryz.ntmps128 rfl fun R K hK => ?_
  refine WP.seq ?_
  refine WP.reg ?_
  refine WL.e e_assign ?_
  refine WL.next ?_
  refine WP.seq ?_
  refine WP.reg ?_
  refine WL.e e_move ?_
  refine WL.h (h_call (BKA_spec hn) k161 ?_)
  intro a n c xs hp
  refine WL.e e_assign ?_
  refine WL.next ?_
  refine WP.ret ?_
  exact PO.fin Tryz.results128 (rv_tmp rv_nil) (hK a n c xs hp)
theorem BSortedU_spec {g : World} {b m : Nat} {ts : List TxT} (hn : ts.length ≤ 68719476736) : Spec Tryz.prog g 76 [.func (.func 138) #[] #[.pointer (some ⟨b, 0, none⟩)]] [cl b 98 [.map (some m)], Mp eU32 (.map (some m)) (List.map kvU ts)] fun K R => ∀ a n c ys, ys.Perm (ts.map (·.id)) → (ys.Pairwise fun x y => x ≤ y) → K (.slice a n c) (Sl 22 1 u32C (.slice a n c) (ys) :: cl b 98 [.map (some m)] :: Mp eU32 (.map (some m)) (List.map kvU ts) :: R) := by
  refine Spec.intro Tryz.func76 rfl Tryz.ntmps76 rfl fun R K hK => ?_
  refine WP.seq ?_
  refine WP.reg ?_
  refine WL.e e_assign ?_
  refine WL.next ?_
  refine WP.seq ?_
  refine WP.reg ?_
  refine WL.e e_move ?_
  refine WL.h (h_call (BKC_spec hn) k128 ?_)
  intro a n c xs hp
  refine WL.e e_assign ?_
  refine WL.next ?_
  refine WP.seq ?_
  refine WP.reg ?_
  refine WL.e e_move ?_
  refine WL.conv (conv1 (A := Sl 22 1 idC (.slice a n c) xs) (B := Sl 22 1 u32C (.slice a n c) (xs.map (·.id))) (fun S h => sl_map (enc := u32C) (f := fun t : TxT => t.id) h) (by repeat first | exact .z | apply Put.s)) ?_
  refine WL.h (h_call (Sort32_spec (xs.map (·.id)) (by rw [List.length_map, hp.length_eq]; exact hn)) k129 ?_)
  intro ys h1 h2
  refine WL.next ?_
  refine WP.seq ?_
  refine WP.reg ?_
  refine WL.e e_move <| WL.e e_assign ?_
  refine WL.next ?_
  refine WP.ret ?_
  exact PO.fin Tryz.results76 (rv_tmp rv_nil) (hK a n c ys (h1.trans (hp.map _)) h2)
theorem BOpen_spec {g : World} {p dp : Nat} {s : StV} (hn : s.txs.length ≤ 68719476736) : Spec Tryz.prog g 42 [.pointer (some ⟨p, 0, none⟩)] [Bs p dp s] fun K R => ∀ a n c ys, ys.Perm (s.txs.map (·.id)) → (ys.Pairwise fun x y => x ≤ y) → K (.slice a n c) (Sl 22 1 u32C (.slice a n c) (ys) :: Bs p dp s :: R) := by
  refine Spec.intro Tryz.func42 rfl Tryz.ntmps42 rfl fun R K hK => ?_
  refine WP.seq ?_
  refine WP.reg ?_
  refine WL.e e_assign ?_
  refine WL.next ?_
  refine WP.seq ?_
  refine WP.seq ?_
  refine WP.reg ?_
  refine WL.e e_move ?_
  refine WL.h (h_call (Bthere_spec) k46 ?_)
  refine WL.e e_not ?_
  refine WL.next ?_
  refine WP.cond_f rfl ?_
  refine WP.opn (Bs_op (p := p) (dp := dp) (s := s)) fun x => ?_
  obtain ⟨lp, pp, mb⟩ := x
  dsimp only
  refine WP.skip ?_
  refine PO.next ?_
  refine WP.seq ?_
  refine WP.reg ?_
  refine WL.e e_move <| WL.e e_nil <| WL.e (e_fa f100_2) <| WL.e (e_load a98) ?_
  refine WL.h (h_call (BKeys_spec (m := mb)) k83 ?_)
  intro b
  refine WL.h (h_call (BSortedU_spec (b := b) (m := mb) (ts := s.txs) hn) k76 ?_)
  intro a1 n1 c1 ys h1 h2
  refine WL.h (h_call (ClipU_spec) k75 ?_)
  intro a2 n2 c2
  refine WL.e e_assign ?_
  refine WL.next ?_
  refine WP.ret ?_
  refine PO.cls (A := Bs p dp (s)) (B := [cl p 100 [.pointer (some ⟨lp, 0, none⟩), .pointer (some ⟨pp, 0, none⟩), .map (some mb)], cl lp 193 [.pointer (some ⟨dp, 0, none⟩), .int .i64 s.at_], Dk dp s.d, Pa pp s.H s.trim, Mp eU32 (.map (some mb)) (List.map kvU s.txs)]) (fun S h => ⟨(lp, pp, mb), h⟩) ?_
  exact PO.fin Tryz.results42 (rv_tmp rv_nil) (hK a2 n2 c2 ys h1 h2)
set_option maxHeartbeats 4000000 in
theorem Never_spec {g : World} {A : HP} {u : Value} {xs : List ActM} (hA : RL A 8 ActM.c u xs) : Spec Tryz.prog g 12 [u] [A] fun K R => K (.bool true) (A :: R) := by
  refine Spec.intro Tryz.func12 rfl Tryz.ntmps12 rfl fun R K hK => ?_
  refine WP.seq ?_
  refine WP.reg ?_
  refine WL.e e_assign ?_
  refine WL.next ?_
  refine WP.seq ?_
  refine WP.seq ?_
  refine WP.reg ?_
  refine WL.e e_move ?_
  refine WL.h (h_call (great_spec hA) k30 ?_)
  refine WL.next ?_
  refine WP.cond rfl (fun h0 => ?_) (fun h0 => ?_)
  · skip
    refine WP.seq ?_
    refine WP.reg ?_
    refine WL.h (h_call (lives_spec) k21 ?_)
    refine WL.e e_assign ?_
    refine WL.next ?_
    refine WP.ret ?_
    refine PO.past nofun ?_
    exact PO.finE Tryz.results12 (rv_tmp rv_nil) rfl hK
  · replace h0 : xs.length ≤ 150 := by simp at h0; omega
    refine WP.skip ?_
    refine PO.next ?_
    refine WP.seq ?_
    refine WP.reg ?_
    refine WL.h (h_call (opened_spec) k14 ?_)
    intro dp p
    refine WL.e e_move <| WL.e e_extract <| WL.e e_extract <| WL.e e_assign <| WL.e e_assign ?_
    refine WL.next ?_
    refine WP.seq ?_
    refine WP.seq ?_
    refine WP.reg ?_
    refine WL.e e_move <| WL.e (e_peq pt24) ?_
    refine WL.next ?_
    refine WP.cond_f rfl ?_
    refine WP.skip ?_
    refine PO.next ?_
    refine WP.seq ?_
    refine WP.seq ?_
    refine WP.reg ?_
    refine WL.e e_assign ?_
    refine WL.next ?_
    refine WP.block ?_
    refine WP.loopK (fun (x : Nat × StV) => [(5, .int .i64 x.1)]) (fun (x : Nat × StV) => Bs p dp x.2 :: TxsU TPB x.2.txs :: A :: R) [(0, _), (4, _)] (fun (x : Nat × StV) => x.1 ≤ xs.length ∧ BetOk x.2 x.1) (fun (x : Nat × StV) => xs.length - x.1) (0, stF) (⟨Nat.zero_le _, bet_first⟩) ?_
    rintro ⟨i, s⟩ ⟨hi, hI⟩
    simp only at hi hI
    dsimp only
    refine WP.seq ?_
    refine WP.seq ?_
    refine WP.reg ?_
    refine WL.e e_move <| WL.e e_move ?_
    refine WL.e (el_len (xs := xs) sl52 hA) <| WL.e e_lss ?_
    refine WL.next ?_
    refine WP.cond rfl (fun h1 => ?_) (fun h1 => ?_)
    · have hlt : i < xs.length := by rw [decide_eq_true_eq] at h1; omega
      obtain ⟨x, hx⟩ : ∃ x, xs[i]? = some x := ⟨_, List.getElem?_eq_getElem hlt⟩
      refine WP.skip ?_
      refine PO.next ?_
      refine WP.seq ?_
      refine WP.block ?_
      refine WP.seq ?_
      refine WP.reg ?_
      refine WL.e e_move <| WL.e e_move ?_
      refine WL.e (el_ia (j := i) (xs := xs) sl52 hA hlt) ?_
      refine WL.e (el_loadN (a := x) a58 actE hA hx) ?_
      refine WL.h (h_alloc z58 fun b1 => ?_)
      refine WL.h' (h_store s58 ?_)
      refine WL.next ?_
      refine WP.seq ?_
      refine WP.reg ?_
      refine WL.e (e_fa f58_0) <| WL.e (e_load a5) <| WL.e (e_rem (c := ((x.kind.toNat % 12 : Nat) : Int)) rfl rfl (by decide) (by rw [Int.tmod_eq_emod_of_nonneg (by omega)]; omega)) ?_
      refine WL.next ?_
      refine WP.block ?_
      refine WP.seq ?_
      refine WP.reg ?_
      refine WL.e e_eql <| WL.e e_assign ?_
      refine WL.next ?_
      refine WP.cond rfl (fun c0 => ?_) (fun c0 => ?_)
      · skip
        refine WP.reg ?_
        refine WL.e e_move <| WL.e (e_fa f58_1) <| WL.e (e_load a22) ?_
        refine WL.h (h_call (BBegin_spec (s := s) x.tx) k15 ?_)
        intro q
        refine WL.nil ?_
        refine PO.blockN ?_
        refine PO.blockN ?_
        refine PO.next ?_
        refine WP.reg ?_
        refine WL.e e_move <| WL.e (e_add (c := ((i + 1 : Nat) : Int)) rfl rfl (by rw [w_i64 (by omega) (by omega)]; omega)) <| WL.e e_assign ?_
        refine WL.nil ?_
        exact PO.againK (i + 1, begS s x.tx q) ⟨by simp only; omega, betaG.mono (betaG.beg hI x.tx q) (Nat.le_succ i) (by omega)⟩ (by simp only; omega)
      · skip
        refine WP.cutL (fun (q : Bool) => [(66, .bool q)]) (fun (q : Bool) => Bs p dp s :: TxsU TPB s.txs :: cl b1 58 (ActM.c x) :: A :: R) (fun (q : Bool) => True) ?_ ?_
        · skip
          refine WP.seq ?_
          refine WP.reg ?_
          refine WL.e e_eql <| WL.e e_assign ?_
          refine WL.next ?_
          refine WP.cond rfl (fun c8 => ?_) (fun c8 => ?_)
          · skip
            refine WP.skip ?_
            exact PO.meetK _ trivial
          · skip
            refine WP.reg ?_
            refine WL.e e_eql <| WL.e e_assign ?_
            refine WL.nil ?_
            exact PO.meetK _ trivial
        · intro q _
          refine WP.cond rfl (fun c9 => ?_) (fun c9 => ?_)
          · skip
            refine WP.reg ?_
            refine WL.e e_move <| WL.e (e_fa f58_1) <| WL.e (e_load a22) ?_
            refine WL.h (h_call (BCommit_spec (s := s) x.tx hI (by omega)) k19 ?_)
            refine WL.nil ?_
            refine PO.blockN ?_
            refine PO.blockN ?_
            refine PO.next ?_
            refine WP.reg ?_
            refine WL.e e_move <| WL.e (e_add (c := ((i + 1 : Nat) : Int)) rfl rfl (by rw [w_i64 (by omega) (by omega)]; omega)) <| WL.e e_assign ?_
            refine WL.nil ?_
            exact PO.againK (i + 1, comS betaI s x.tx) ⟨by simp only; omega, betaG.com hI (by omega) x.tx⟩ (by simp only; omega)
          · skip
            refine WP.seq ?_
            refine WP.reg ?_
            refine WL.e e_eql <| WL.e e_assign ?_
            refine WL.next ?_
            refine WP.cond rfl (fun c10 => ?_) (fun c10 => ?_)
            · skip
              refine WP.reg ?_
              refine WL.e e_move <| WL.e (e_fa f58_1) <| WL.e (e_load a22) ?_
              refine WL.h (h_call (BAbort_spec (s := s) x.tx hI) k31 ?_)
              refine WL.nil ?_
              refine PO.blockN ?_
              refine PO.blockN ?_
              refine PO.next ?_
              refine WP.reg ?_
              refine WL.e e_move <| WL.e (e_add (c := ((i + 1 : Nat) : Int)) rfl rfl (by rw [w_i64 (by omega) (by omega)]; omega)) <| WL.e e_assign ?_
              refine WL.nil ?_
              exact PO.againK (i + 1, aboS betaI s x.tx) ⟨by simp only; omega, betaG.mono (abo_ok betaG hI x.tx) (Nat.le_succ i) (by omega)⟩ (by simp only; omega)
            · skip
              refine WP.seq ?_
              refine WP.reg ?_
              refine WL.e e_move ?_
              refine WL.h (h_call (BOpen_spec (s := s) (by have := hI.st.tl; omega)) k42 ?_)
              intro a5 n5 c5 ys y1 y2
              refine WL.e e_assign ?_
              refine WL.next ?_
              refine WP.seq ?_
              refine WP.reg ?_
              refine WL.e e_move <| WL.e (e_fa f58_1) <| WL.e (e_load a22) <| WL.e (e_fa f58_2) <| WL.e (e_loadN a36) ?_
              refine WL.h (h_call (BDo_spec (s := s) x.tx x.op hI) k16 ?_)
              have hD := SureC_do betaG hI (by omega) x.tx x.op
              have hN := never_do s x.tx x.op
              rw [show betaI.doS s x.tx x.op = doB s x.tx x.op from rfl] at hD
              rcases hdo : doB s x.tx x.op with ⟨s', e⟩ | ⟨s'⟩ | ⟨s', rws⟩ <;> rw [hdo] at hD hN
              · dsimp only at hD hN ⊢
                obtain ⟨hN1, rfl⟩ := hN
                have hOk := (betaG.ok hD)
                have he1 : ((e : Int) != 0) = true := by rcases hN1 with rfl | rfl <;> decide
                refine WL.e e_move <| WL.e e_extract <| WL.e e_extract ?_
                refine WL.h (h_alloc z31 fun b2 => ?_)
                refine WL.h' (h_store s31 ?_)
                refine WL.e e_assign ?_
                refine WL.next ?_
                refine WP.seq ?_
                refine WP.reg ?_
                refine WL.e e_move <| WL.e e_neq <| WL.e e_move ?_
                refine WL.bool 45 rfl (fun k1 => ?_) (fun k1 => ?_)
                · skip
                  refine WL.e e_move <| WL.e e_neq <| WL.e e_pick_t <| WL.e e_move ?_
                  refine WL.bool 49 rfl (fun k2 => ?_) (fun k2 => ?_)
                  · obtain rfl : e = 6 := by rcases hN1 with rfl | rfl; exact absurd k2 (by decide); rfl
                    refine WL.e e_move <| WL.e e_neq <| WL.e e_pick_t <| WL.e e_move ?_
                    refine WL.bool 53 rfl (fun k3 => ?_) (fun k3 => ?_)
                    · exact absurd k3 (by decide) -- end
                    · skip
                      refine WL.e e_move <| WL.e e_move ?_
                      refine WL.h (h_call (BOpen_spec (s := s') (by have := hOk.tl; omega)) k42 ?_)
                      intro a6 n6 c6 zs z1 z2
                      obtain rfl : zs = ys := sorted_eq (z1.trans (by exact y1.symm)) z2 y2
                      refine WL.h (h_call (SameIds_spec (sl_rl (xs := zs)) (sl_rl (xs := zs)) (by rw [z1.length_eq, List.length_map]; have := hOk.tl; omega)) k43 ?_)
                      rw [decide_eq_true rfl]
                      refine WL.e e_not <| WL.e e_pick_f ?_
                      refine WL.next ?_
                      refine WP.cond_f rfl ?_
                      refine WP.skip ?_
                      refine PO.blockN ?_
                      refine PO.blockN ?_
                      refine PO.next ?_
                      refine WP.reg ?_
                      refine WL.e e_move <| WL.e (e_add (c := ((i + 1 : Nat) : Int)) rfl rfl (by rw [w_i64 (by omega) (by omega)]; omega)) <| WL.e e_assign ?_
                      refine WL.nil ?_
                      exact PO.againK (i + 1, s') ⟨by simp only; omega, hD⟩ (by simp only; omega)
                  · skip
                    refine WL.skip <| WL.skip <| WL.e e_pick_f <| WL.e e_move <| WL.e e_move <| WL.e e_move ?_
                    refine WL.h (h_call (BOpen_spec (s := s') (by have := hOk.tl; omega)) k42 ?_)
                    intro a6 n6 c6 zs z1 z2
                    obtain rfl : zs = ys := sorted_eq (z1.trans (by exact y1.symm)) z2 y2
                    refine WL.h (h_call (SameIds_spec (sl_rl (xs := zs)) (sl_rl (xs := zs)) (by rw [z1.length_eq, List.length_map]; have := hOk.tl; omega)) k43 ?_)
                    rw [decide_eq_true rfl]
                    refine WL.e e_not <| WL.e e_pick_f ?_
                    refine WL.next ?_
                    refine WP.cond_f rfl ?_
                    refine WP.skip ?_
                    refine PO.blockN ?_
                    refine PO.blockN ?_
                    refine PO.next ?_
                    refine WP.reg ?_
                    refine WL.e e_move <| WL.e (e_add (c := ((i + 1 : Nat) : Int)) rfl rfl (by rw [w_i64 (by omega) (by omega)]; omega)) <| WL.e e_assign ?_
                    refine WL.nil ?_
                    exact PO.againK (i + 1, s') ⟨by simp only; omega, hD⟩ (by simp only; omega)
                · exact absurd (he1.symm.trans k1) (by decide) -- end
              · dsimp only at hD hN ⊢
                have hOk := (betaG.ok hD)
                refine WL.e e_move <| WL.e e_extract <| WL.e e_extract ?_
                refine WL.h (h_alloc z31 fun b3 => ?_)
                refine WL.h' (h_store s31 ?_)
                refine WL.e e_assign ?_
                refine WL.next ?_
                refine WP.seq ?_
                refine WP.reg ?_
                refine WL.e e_move <| WL.e e_neq <| WL.e e_move ?_
                refine WL.bool 45 rfl (fun k1 => ?_) (fun k1 => ?_)
                · exact absurd k1 (by decide) -- end
                · skip
                  refine WL.skip <| WL.skip <| WL.e e_pick_f <| WL.e e_move <| WL.skip <| WL.skip <| WL.e e_pick_f <| WL.e e_move <| WL.e e_move <| WL.e e_move ?_
                  refine WL.h (h_call (BOpen_spec (s := s') (by have := hOk.tl; omega)) k42 ?_)
                  intro a6 n6 c6 zs z1 z2
                  obtain rfl : zs = ys := sorted_eq (z1.trans (by rw [hN]; exact y1.symm)) z2 y2
                  refine WL.h (h_call (SameIds_spec (sl_rl (xs := zs)) (sl_rl (xs := zs)) (by rw [z1.length_eq, List.length_map]; have := hOk.tl; omega)) k43 ?_)
                  rw [decide_eq_true rfl]
                  refine WL.e e_not <| WL.e e_pick_f ?_
                  refine WL.next ?_
                  refine WP.cond_f rfl ?_
                  refine WP.skip ?_
                  refine PO.blockN ?_
                  refine PO.blockN ?_
                  refine PO.next ?_
                  refine WP.reg ?_
                  refine WL.e e_move <| WL.e (e_add (c := ((i + 1 : Nat) : Int)) rfl rfl (by rw [w_i64 (by omega) (by omega)]; omega)) <| WL.e e_assign ?_
                  refine WL.nil ?_
                  exact PO.againK (i + 1, s') ⟨by simp only; omega, hD⟩ (by simp only; omega)
              · dsimp only at hD hN ⊢
                intro a7 m7 c7
                have hOk := (betaG.ok hD.1)
                refine WL.e e_move <| WL.e e_extract <| WL.e e_extract ?_
                refine WL.h (h_alloc z31 fun b4 => ?_)
                refine WL.h' (h_store s31 ?_)
                refine WL.e e_assign ?_
                refine WL.next ?_
                refine WP.seq ?_
                refine WP.reg ?_
                refine WL.e e_move <| WL.e e_neq <| WL.e e_move ?_
                refine WL.bool 45 rfl (fun k1 => ?_) (fun k1 => ?_)
                · exact absurd k1 (by decide) -- end
                · skip
                  refine WL.skip <| WL.skip <| WL.e e_pick_f <| WL.e e_move <| WL.skip <| WL.skip <| WL.e e_pick_f <| WL.e e_move <| WL.e e_move <| WL.e e_move ?_
                  refine WL.h (h_call (BOpen_spec (s := s') (by have := hOk.tl; omega)) k42 ?_)
                  intro a6 n6 c6 zs z1 z2
                  obtain rfl : zs = ys := sorted_eq (z1.trans (by rw [hN]; exact y1.symm)) z2 y2
                  refine WL.h (h_call (SameIds_spec (sl_rl (xs := zs)) (sl_rl (xs := zs)) (by rw [z1.length_eq, List.length_map]; have := hOk.tl; omega)) k43 ?_)
                  rw [decide_eq_true rfl]
                  refine WL.e e_not <| WL.e e_pick_f ?_
                  refine WL.next ?_
                  refine WP.cond_f rfl ?_
                  refine WP.skip ?_
                  refine PO.blockN ?_
                  refine PO.blockN ?_
                  refine PO.next ?_
                  refine WP.reg ?_
                  refine WL.e e_move <| WL.e (e_add (c := ((i + 1 : Nat) : Int)) rfl rfl (by rw [w_i64 (by omega) (by omega)]; omega)) <| WL.e e_assign ?_
                  refine WL.nil ?_
                  exact PO.againK (i + 1, s') ⟨by simp only; omega, hD.1⟩ (by simp only; omega)
    · skip
      refine WP.exit ?_
      refine PO.past nofun ?_
      refine PO.round nofun ?_
      refine PO.blockX ?_
      refine PO.next ?_
      refine WP.seq ?_
      refine WP.reg ?_
      refine WL.h (h_call (lives_spec) k21 ?_)
      refine WL.e e_assign ?_
      refine WL.next ?_
      refine WP.ret ?_
      exact PO.finE Tryz.results12 (rv_tmp rv_nil) rfl hK
end Go.SL
/- From the row to the walk: a slice of structs that came in is read as a list. -/
set_option linter.unusedSimpArgs false
set_option linter.unusedVariables false
set_option linter.unusedSectionVars false
namespace Go.SL
open Go Go.ChangeShapes Go.Deep
section
variable {H : Type} {enc : TypeId × Value → H} {P : Program} {W : World} {held : Bool}
theorem add_off (a : Addr) (n : Nat) (h : a.spot = none) : a.add n = ⟨a.block, a.off + n, none⟩ := by
  obtain ⟨b, o, s⟩ := a
  simp at h; subst h
  exact add_none b o n
theorem slice_rl {α : Type} {t e : TypeId} {fuel z : Nat} {cs : List Value} {x : DataW H × List MemPlace} {c : α → List Value} (ht : P.underlying t = some (.slice e)) (hz : P.cellsOf e = z) (h0 : 0 < z) (he : EncOk z c)
    (hel : ∀ n cs' y, DataW.trod enc P W 0 (fun _ => true) held n e cs' = some y → ∃ a : α, cs' = c a) (h : DataW.trod enc P W 0 (fun _ => true) held fuel t cs = some x) :
    ∃ (v : SV) (xs : List α), cs = [v.v] ∧ RL (Old W) z c v.v xs ∧ (xs = [] ∨ ∃ el sp, x.1 = .slice el sp ∧ el.length = xs.length) := by
  rcases open_slice ht h with ⟨hcs, _⟩ | ⟨a, len, cap, m, n, D, Pl, hcs, _, hl, hm, hmm, hxx, hi⟩
  · exact ⟨⟨none, 0, 0⟩, [], hcs, nil_rl, .inl rfl⟩
  simp only [if_true] at hmm
  subst hmm
  rw [hz] at hi
  have hi' : ∀ i : Fin m, ∃ y : α, ∀ j, j < z → W.cell? ((a.add (i * z)).add j) = (c y)[j]? := fun i => by
    obtain ⟨cs', h1, h2⟩ := hi i i.2
    obtain ⟨y, rfl⟩ := hel _ _ _ h2
    exact ⟨y, (World.cells?_some h1).2.2⟩
  by_cases hc0 : m = 0
  · have : len = 0 := by omega
    subst this
    exact ⟨⟨some a, 0, m⟩, [], hcs, nil_rl, .inl rfl⟩
  let Y : Fin m → α := fun i => Classical.choose (hi' i)
  have hY : ∀ i : Fin m, ∀ j, j < z → W.cell? ((a.add (i * z)).add j) = (c (Y i))[j]? := fun i => Classical.choose_spec (hi' i)
  have hsp : a.spot = none := by
    have := hY ⟨0, by omega⟩ 0 h0
    have hlt : 0 < (c (Y ⟨0, by omega⟩)).length := by rw [he.len]; exact h0
    rw [List.getElem?_eq_getElem hlt] at this
    have h2 := World.cell?_spot this
    cases hs : a.spot with
    | none => rfl
    | some s => simp [Addr.add, hs] at h2
  have hcell : ∀ k (hk : k < m * z), W.cell? ⟨a.block, a.off + k, none⟩ = (c (Y ⟨k / z, (Nat.div_lt_iff_lt_mul h0).2 hk⟩))[k % z]? := fun k hk => by
    have := hY ⟨k / z, (Nat.div_lt_iff_lt_mul h0).2 hk⟩ (k % z) (Nat.mod_lt _ h0)
    rw [add_off a _ hsp, add_none] at this
    have e : a.off + k / z * z + k % z = a.off + k := by have := Nat.div_add_mod k z; rw [Nat.mul_comm] at this; omega
    simp only [e] at this
    exact this
  have hmz : 0 < m * z := Nat.mul_pos (by omega) h0
  obtain ⟨arr, t', fr, hb⟩ : ∃ arr t' fr, W.heap[a.block]? = some (.cells arr t' fr) := by
    have := hcell 0 hmz
    rw [List.getElem?_eq_getElem (by rw [he.len]; exact Nat.mod_lt _ h0)] at this
    unfold World.cell? at this
    cases hh : W.heap[a.block]? with
    | none => rw [hh] at this; cases this
    | some o => rw [hh] at this; cases o <;> first | exact ⟨_, _, _, rfl⟩ | cases this
  have hval : ∀ k (hk : k < m * z), arr.toList[a.off + k]? = (c (Y ⟨k / z, (Nat.div_lt_iff_lt_mul h0).2 hk⟩))[k % z]? := fun k hk => by
    have := hcell k hk
    unfold World.cell? at this
    rw [hb] at this
    simpa using this
  have hlen : a.off + m * z ≤ arr.toList.length := by
    have := hval (m * z - 1) (by omega)
    have hlt : (m * z - 1) % z < (c (Y ⟨(m * z - 1) / z, (Nat.div_lt_iff_lt_mul h0).2 (by omega)⟩)).length := by rw [he.len]; exact Nat.mod_lt _ h0
    rw [List.getElem?_eq_getElem hlt] at this
    have := idx_lt this
    omega
  refine ⟨⟨some a, len, m⟩, List.ofFn fun i : Fin len => Y ⟨i, by omega⟩, hcs, fun S hS => ?_, .inr ⟨_, _, by rw [hxx], by simp⟩⟩
  refine .inr ⟨a.block, a.off, m, arr.toList, (t', fr), ?_, by simpa using hl, ?_, hlen, ?_⟩
  · obtain ⟨b, o, s⟩ := a
    simp at hsp; subst hsp
    simp
  · exact hS _ _ (by simpa [heapOf] using hb)
  · apply List.ext_getElem?
    intro k
    rw [td_get, List.length_ofFn]
    by_cases hk : k < len * z
    · rw [if_pos hk]
      have hkm : k < m * z := Nat.lt_of_lt_of_le hk (Nat.mul_le_mul_right _ hl)
      rw [hval k hkm]
      have hd : k / z < len := (Nat.div_lt_iff_lt_mul h0).2 hk
      have hx : (List.ofFn fun i : Fin len => Y ⟨i, by omega⟩)[k / z]? = some (Y ⟨k / z, by omega⟩) := by simp [hd]
      have := flat_at he hx (k % z) (Nat.mod_lt _ h0)
      rw [show k / z * z + k % z = k by have := Nat.div_add_mod k z; rw [Nat.mul_comm] at this; omega] at this
      exact this
    · rw [if_neg hk]
      apply List.getElem?_eq_none
      rw [flat_len he, List.length_ofFn]; omega
theorem sized_len {α : Type} {ts : List TypeId} {ds : List (DataW H)} {j : Nat} {t e : TypeId} {d : DataW H} {xs : List α} (h : (DataW.weightsEach P ts ds).all (· ≤ reachBytes) = true) (ht : ts[j]? = some t) (hd : ds[j]? = some d) (hu : P.underlying t = some (.slice e)) (hb : (P.bytesOf e == 0) = false)
    (hx : xs = [] ∨ ∃ el sp, d = .slice el sp ∧ el.length = xs.length) : xs.length ≤ 140737488351232 := by
  rcases hx with rfl | ⟨el, sp, rfl, he⟩
  · simp
  · have := sized_slice h ht hd hu
    have hp : 1 ≤ P.bytesOf e := by simp at hb; omega
    have : xs.length * 1 ≤ (el.length + sp.length) * P.bytesOf e := Nat.mul_le_mul (by omega) hp
    rw [show reachBytes = 140737488351232 from rfl] at *
    omega
theorem below_of_spec1 {P : Program} {w : World} {f : FuncId} {args : List Value} (h : Spec P w f args [Old w] fun K R => K (.bool true) (Old w :: R)) : Calls P f args.toArray w fun e w' => e = .returned (.bool true) ∧ Go.RowKit.Below w.heap.size w w' := by
  refine (h [] (fun v M => v = .bool true ∧ M = [Old w]) w (sat_old w) ⟨rfl, rfl⟩).mono ?_
  rintro e w' ⟨v, M, rfl, ⟨rfl, rfl⟩, hs⟩
  exact ⟨rfl, old_below hs⟩
theorem op_cells {t k s u : TypeId} {b0 b1 b2 b3 : Nat} {n0 n1 n2 n3 : String} {fuel : Nat} {cs : List Value} {y : DataW H × List MemPlace} (ht : P.underlying t = some (.struct #[⟨n0, k, 0, false, "", "", b0⟩, ⟨n1, s, 1, false, "", "", b1⟩, ⟨n2, s, 2, false, "", "", b2⟩, ⟨n3, u, 3, false, "", "", b3⟩]))
    (hk : P.underlying k = some (.int .u8)) (hs : P.underlying s = some .string) (hu : P.underlying u = some (.int .u32)) (ct : P.cellsOf t = 4) (ck : P.cellsOf k = 1) (c1 : P.cellsOf s = 1) (cu : P.cellsOf u = 1)
    (h : DataW.trod enc P W 0 (fun _ => true) held fuel t cs = some y) : ∃ x : OpM, cs = x.c := by
  obtain ⟨y0, y1, y2, y3, m, hx, hl, h0, h1, h2, h3⟩ := Go.Joins.trod_struct4 ht h
  rw [ct] at hl
  match cs, hl with
  | [a, b, c, d], _ =>
    simp only [ck, c1, cu] at h0 h1 h2 h3
    obtain ⟨n, e0, _, w0⟩ := DataW.trod_int hk h0
    obtain ⟨s1, e1, _, _⟩ := DataW.trod_string hs h1
    obtain ⟨s2, e2, _, _⟩ := DataW.trod_string hs h2
    obtain ⟨v, e3, _, w3⟩ := DataW.trod_int hu h3
    simp at e0 e1 e2 e3
    subst e0 e1 e2 e3
    refine ⟨⟨UInt8.ofNat n.toNat, s1, s2, UInt32.ofNat v.toNat⟩, ?_⟩
    simp only [OpM.c]
    rw [← u8_wf w0, ← u32_wf w3]
end
end Go.SL
