/- VF VK SLv: rules and walks, several texts in one. -/
import Derived.Test.YtdpmpcoekkhceaaGreatQM19
import Derived.Test.YtdpmpcoekkhceaaGreatProg
import Derived.KernelRfl
import Derived.Deep.Slices
import Derived.ChangeSame
import Derived.SizedLaws
set_option linter.unusedSimpArgs false
set_option linter.unusedVariables false
namespace Go.SL.VF
open Go Go.Proofs Go.SL
theorem a29 : aggOf Tryz.prog 29 = some none := by kernel_rfl
theorem a36 : aggOf Tryz.prog 36 = some (some 4) := by kernel_rfl
theorem f31_0 : fldOf Tryz.prog 31 0 = some 0 := by kernel_rfl
theorem k14 : callable Tryz.prog 14 = true := by kernel_rfl
theorem k15 : callable Tryz.prog 15 = true := by kernel_rfl
theorem k16 : callable Tryz.prog 16 = true := by kernel_rfl
theorem k17 : callable Tryz.prog 17 = true := by kernel_rfl
theorem k18 : callable Tryz.prog 18 = true := by kernel_rfl
theorem k19 : callable Tryz.prog 19 = true := by kernel_rfl
theorem k20 : callable Tryz.prog 20 = true := by kernel_rfl
theorem k31 : callable Tryz.prog 31 = true := by kernel_rfl
theorem k44 : callable Tryz.prog 44 = true := by kernel_rfl
theorem k45 : callable Tryz.prog 45 = true := by kernel_rfl
theorem k46 : callable Tryz.prog 46 = true := by kernel_rfl
theorem p36 : placesOf Tryz.prog 36 = some [(0, 1), (1, 1), (2, 1), (3, 1)] := by kernel_rfl
theorem pt24 : isPtr Tryz.prog 24 = true := by kernel_rfl
theorem s31 : szOf Tryz.prog 31 = some 1 := by kernel_rfl
theorem s36 : szOf Tryz.prog 36 = some 4 := by kernel_rfl
theorem sl29 : slOf Tryz.prog 29 = some (40, 2, 24) := by kernel_rfl
theorem sl52 : slOf Tryz.prog 52 = some (58, 8, 72) := by kernel_rfl
theorem z31 : zeroOf Tryz.prog 31 = some [.slice none 0 0] := by kernel_rfl
theorem z36 : zeroOf Tryz.prog 36 = some [.int .u8 0, .string .empty, .string .empty, .int .u32 0] := by kernel_rfl
end Go.SL.VF
namespace Go.SL
open Go Go.Proofs VF
theorem opened_spec {g : World} : Spec Tryz.prog g 14 [] [] fun K R => ∀ dp p, K (.tuple #[.pointer (some ⟨dp, 0, none⟩), .pointer (some ⟨p, 0, none⟩)]) (Bs p dp stF :: TxsU TPB [] :: R) := by
  refine Spec.intro Tryz.func14 rfl Tryz.ntmps14 rfl fun R K hK => ?_
  refine WP.seq ?_
  refine WP.reg ?_
  refine WL.e e_assign <| WL.e e_assign ?_
  refine WL.next ?_
  refine WP.seq ?_
  refine WP.reg ?_
  refine WL.h (h_call (New_spec 4096 (by decide)) k45 ?_)
  refine ⟨fun h => absurd h (by omega), fun _ _ dp => ?_⟩
  refine WL.e e_move <| WL.e e_extract <| WL.e e_extract <| WL.e e_assign <| WL.e e_assign ?_
  refine WL.next ?_
  refine WP.seq ?_
  refine WP.reg ?_
  refine WL.e e_move ?_
  refine WL.h (h_call (BNew_spec (d := newDisk 4096) (at0 := 0) [] DiskLogB.first (by simp)) k44 ?_)
  intro p
  refine WL.e e_move <| WL.e e_extract <| WL.e e_extract <| WL.e e_assign <| WL.e e_assign ?_
  refine WL.next ?_
  refine WP.seq ?_
  refine WP.seq ?_
  refine WP.reg ?_
  refine WL.e e_move <| WL.e e_neq <| WL.e e_move ?_
  refine WL.bool 17 rfl (fun hg => ?_) (fun hg => ?_)
  · exact absurd hg (by decide) -- end
  · skip
    refine WL.e e_move <| WL.e e_neq <| WL.e e_pick_f ?_
    refine WL.next ?_
    refine WP.cond_f rfl ?_
    refine WP.skip ?_
    refine PO.next ?_
    refine WP.seq ?_
    refine WP.reg ?_
    refine WL.e e_move <| WL.e e_move <| WL.e e_assign <| WL.e e_assign ?_
    refine WL.next ?_
    refine WP.ret ?_
    exact PO.fin Tryz.results14 (rv_tmp (rv_tmp rv_nil)) (hK dp p)
theorem lput_spec {g : World} (k : ByteArray) (v : UInt32) : Spec Tryz.prog g 18 [.string k, .int .u32 v.toNat] [] fun K R => K (opPut k v).v R := by
  refine Spec.intro Tryz.func18 rfl Tryz.ntmps18 rfl fun R K hK => ?_
  refine WP.seq ?_
  refine WP.reg ?_
  refine WL.h (h_alloc z36 fun b1 => ?_)
  refine WL.next ?_
  refine WP.seq ?_
  refine WP.reg ?_
  refine WL.e e_move <| WL.e e_move <| WL.e (e_build z36 p36 (.o (.const (.int .u8 2)) rfl <| .o (.tmp 5) rfl <| .z (.string .empty) <| .o (.tmp 6) rfl <| .n)) ?_
  refine WL.h' (h_store s36 ?_)
  refine WL.next ?_
  refine WP.ret ?_
  exact PO.fin Tryz.results18 (rv_cellN a36 rv_nil) hK
theorem lget_spec {g : World} (k : ByteArray) : Spec Tryz.prog g 17 [.string k] [] fun K R => K (opGet k).v R := by
  refine Spec.intro Tryz.func17 rfl Tryz.ntmps17 rfl fun R K hK => ?_
  refine WP.seq ?_
  refine WP.reg ?_
  refine WL.h (h_alloc z36 fun b1 => ?_)
  refine WL.next ?_
  refine WP.seq ?_
  refine WP.reg ?_
  refine WL.e e_move <| WL.e (e_build z36 p36 (.o (.const (.int .u8 1)) rfl <| .o (.tmp 3) rfl <| .z (.string .empty) <| .z (.int .u32 0) <| .n)) ?_
  refine WL.h' (h_store s36 ?_)
  refine WL.next ?_
  refine WP.ret ?_
  exact PO.fin Tryz.results17 (rv_cellN a36 rv_nil) hK
theorem there_nil {g : World} : Spec Tryz.prog g 46 [.pointer none] [] fun K R => K (.bool false) R := by
  refine Spec.intro Tryz.func46 rfl Tryz.ntmps46 rfl fun R K hK => ?_
  refine WP.seq ?_
  refine WP.reg ?_
  refine WL.e e_assign ?_
  refine WL.next ?_
  refine WP.seq ?_
  refine WP.reg ?_
  refine WL.e e_move <| WL.e (e_pne pt24) <| WL.e e_move ?_
  refine WL.bool 5 rfl (fun h => ?_) (fun h => ?_)
  · cases h -- end
  · skip
    refine WL.skip <| WL.skip <| WL.skip <| WL.skip <| WL.skip <| WL.e e_pick_f <| WL.e e_assign ?_
    refine WL.next ?_
    refine WP.ret ?_
    exact PO.fin Tryz.results46 (rv_tmp rv_nil) hK
theorem Begin_nil {g : World} (n : UInt32) : Spec Tryz.prog g 15 [.pointer none, .int .u32 n.toNat] [] fun K R => K (.int .i64 2) R := by
  refine Spec.intro Tryz.func15 rfl Tryz.ntmps15 rfl fun R K hK => ?_
  refine WP.seq ?_
  refine WP.reg ?_
  refine WL.e e_assign ?_
  refine WL.next ?_
  refine WP.seq ?_
  refine WP.block ?_
  refine WP.seq ?_
  refine WP.reg ?_
  refine WL.e e_move ?_
  refine WL.h (h_call (there_nil) k46 ?_)
  refine WL.e e_not <| WL.e e_assign ?_
  refine WL.next ?_
  refine WP.cond_t rfl ?_
  refine WP.seq ?_
  refine WP.reg ?_
  refine WL.e e_assign ?_
  refine WL.next ?_
  refine WP.ret ?_
  refine PO.blockR ?_
  refine PO.past nofun ?_
  exact PO.fin Tryz.results15 (rv_tmp rv_nil) hK
theorem great_spec {g : World} {A : HP} {u : Value} {xs : List ActM} (hA : RL A 8 ActM.c u xs) : Spec Tryz.prog g 30 [u] [A] fun K R => K (.bool (decide (150 < xs.length))) (A :: R) := by
  refine Spec.intro Tryz.func30 rfl Tryz.ntmps30 rfl fun R K hK => ?_
  refine WP.seq ?_
  refine WP.reg ?_
  refine WL.e e_assign ?_
  refine WL.next ?_
  refine WP.seq ?_
  refine WP.reg ?_
  refine WL.e e_move ?_
  refine WL.e (el_len (xs := xs) sl52 hA) <| WL.e e_gtr <| WL.e e_assign ?_
  refine WL.next ?_
  refine WP.ret ?_
  exact PO.finE Tryz.results30 (rv_tmp rv_nil) (by simp; omega) hK
set_option maxHeartbeats 4000000 in
theorem lives_spec {g : World} : Spec Tryz.prog g 21 [] [] fun K R => K (.bool true) R := by
  refine Spec.intro Tryz.func21 rfl Tryz.ntmps21 rfl fun R K hK => ?_
  refine WP.seq ?_
  refine WP.reg ?_
  refine WL.e e_assign ?_
  refine WL.next ?_
  refine WP.seq ?_
  refine WP.reg ?_
  refine WL.h (h_call (opened_spec) k14 ?_)
  intro dp p
  have h0 : AtS betaG stF [] [] 0 := AtS.first bet_first
  refine WL.e e_move <| WL.e e_extract <| WL.e e_extract <| WL.e e_assign <| WL.e e_assign ?_
  refine WL.next ?_
  refine WP.seq ?_
  refine WP.seq ?_
  refine WP.reg ?_
  refine WL.e e_move <| WL.e (e_peq pt24) <| WL.e e_move ?_
  refine WL.bool 18 rfl (fun hg => ?_) (fun hg => ?_)
  · cases hg -- end
  · skip
    refine WL.e e_move ?_
    refine WL.h (h_call (BBegin_spec (s := stF) 1) k15 ?_)
    intro q1
    obtain ⟨e0, h1⟩ := h0.beg 1 q1 (by decide) (by rfl) (by simp)
    rw [e0]
    generalize begS stF 1 q1 = s1 at h1 ⊢
    simp only [List.nil_append, List.cons_append] at h1
    refine WL.e e_neq <| WL.e e_pick_f <| WL.e e_move ?_
    refine WL.bool 23 rfl (fun hg2 => ?_) (fun hg2 => ?_)
    · exact absurd hg2 (by decide) -- end
    · skip
      refine WL.e e_move ?_
      refine WL.h (h_call (BBegin_spec (s := s1) 2) k15 ?_)
      intro q2
      obtain ⟨e0, h2⟩ := h1.beg 2 q2 (by decide) (by rfl) (by simp)
      rw [e0]
      generalize begS s1 2 q2 = s2 at h2 ⊢
      simp only [List.nil_append, List.cons_append] at h2
      refine WL.e e_neq <| WL.e e_pick_f ?_
      refine WL.next ?_
      refine WP.cond_f rfl ?_
      refine WP.skip ?_
      refine PO.next ?_
      refine WP.seq ?_
      refine WP.reg ?_
      refine WL.e e_move ?_
      refine WL.h (h_call (lget_spec kA) k17 ?_)
      refine WL.h (h_call (BDo_spec (s := s2) 1 (opGet kA) h2.ok) k16 ?_)
      obtain ⟨s3, e0, h3⟩ := h2.get (n := 1) rfl keyA (by decide)
      rw [e0]
      try simp only [setU, List.map_cons, List.map_nil, List.nil_append, List.cons_append] at h3
      try simp (config := { decide := true }) only [if_true, if_false] at h3
      intro a1 m1 c1
      refine WL.next ?_
      refine WP.seq ?_
      refine WP.reg ?_
      refine WL.e e_move ?_
      refine WL.h (h_call (lput_spec kA 5) k18 ?_)
      refine WL.h (h_call (BDo_spec (s := s3) 2 (opPut kA 5) h3.ok) k16 ?_)
      obtain ⟨s4, e0, h4⟩ := h3.put (n := 2) rfl keyA 5 (by decide)
      rw [e0]
      try simp only [setU, List.map_cons, List.map_nil, List.nil_append, List.cons_append] at h4
      try simp (config := { decide := true }) only [if_true, if_false] at h4
      refine WL.e e_move <| WL.e e_extract <| WL.e e_extract ?_
      refine WL.h (h_alloc z31 fun b1 => ?_)
      refine WL.h' (h_store s31 ?_)
      refine WL.e e_assign ?_
      refine WL.next ?_
      refine WP.seq ?_
      refine WP.reg ?_
      refine WL.e e_move ?_
      refine WL.h (h_call (BCommit_spec (s := s4) 2 h4.ok (by decide)) k19 ?_)
      obtain ⟨e0, e1, h5⟩ := h4.com (n := 2) rfl (by rw [h4.chk]; rfl) (by simp) (by simp) (by decide)
      rw [e0, e1]
      generalize comS betaI s4 2 = s5 at h5 ⊢
      refine WL.e e_move <| WL.e e_extract <| WL.e e_extract <| WL.e e_assign <| WL.e e_assign ?_
      refine WL.next ?_
      refine WP.seq ?_
      refine WP.reg ?_
      refine WL.e e_move ?_
      refine WL.h (h_call (lget_spec kA) k17 ?_)
      refine WL.h (h_call (BDo_spec (s := s5) 1 (opGet kA) h5.ok) k16 ?_)
      obtain ⟨s6, e0, h6⟩ := h5.get (n := 1) rfl keyA (by decide)
      rw [e0]
      try simp only [setU, List.map_cons, List.map_nil, List.nil_append, List.cons_append] at h6
      try simp (config := { decide := true }) only [if_true, if_false] at h6
      intro a2 m2 c2
      refine WL.e e_move <| WL.e e_extract <| WL.e e_extract ?_
      refine WL.h (h_alloc z31 fun b2 => ?_)
      refine WL.h' (h_store s31 ?_)
      refine WL.e e_assign ?_
      refine WL.next ?_
      refine WP.seq ?_
      refine WP.reg ?_
      refine WL.e e_move ?_
      refine WL.h (h_call (BCommit_spec (s := s6) 1 h6.ok (by decide)) k19 ?_)
      obtain ⟨e0, e1, h7⟩ := h6.comX (n := 1) rfl (by rw [h6.chk]; exact Bool.or_eq_true_iff.2 (.inl (since_one _ _))) (by decide)
      rw [e0, e1]
      generalize comS betaI s6 1 = s7 at h7 ⊢
      refine WL.e e_move <| WL.e e_extract <| WL.e e_extract <| WL.e e_assign <| WL.e e_assign ?_
      refine WL.next ?_
      refine WP.seq ?_
      refine WP.reg ?_
      refine WL.e e_assign ?_
      refine WL.next ?_
      refine WP.seq ?_
      refine WP.reg ?_
      refine WL.e e_move <| WL.e e_eql <| WL.e e_move ?_
      refine WL.bool 55 rfl (fun y1 => ?_) (fun y1 => ?_)
      · skip
        refine WL.e e_move <| WL.e (e_eql32 (b := 1)) <| WL.e e_pick_t <| WL.e e_move ?_
        refine WL.bool 59 rfl (fun y2 => ?_) (fun y2 => ?_)
        · skip
          refine WL.e e_move <| WL.e e_eql <| WL.e e_pick_t <| WL.e e_move ?_
          refine WL.bool 63 rfl (fun y3 => ?_) (fun y3 => ?_)
          · skip
            refine WL.e e_move <| WL.e e_eql <| WL.e e_pick_t <| WL.e e_move ?_
            refine WL.bool 67 rfl (fun y4 => ?_) (fun y4 => ?_)
            · skip
              refine WL.e (e_fa f31_0) <| WL.e (e_load a29) ?_
              refine WL.e (el_len (xs := ([] : List RowM)) sl29 sl_rl) <| WL.e e_eql <| WL.e e_pick_t <| WL.e e_move ?_
              refine WL.bool 73 rfl (fun y5 => ?_) (fun y5 => ?_)
              · skip
                refine WL.e e_move <| WL.e e_eql <| WL.e e_pick_t <| WL.e e_move ?_
                refine WL.bool 77 rfl (fun y6 => ?_) (fun y6 => ?_)
                · skip
                  refine WL.e e_move ?_
                  refine WL.h (h_call (BRows_spec (s := s7) h7.ok) k20 ?_)
                  intro a9 m9 c9
                  rw [show s7.rows = [(⟨kA, 5⟩ : RowM)] from h7.rows]
                  refine WL.e (el_len (xs := [(⟨kA, 5⟩ : RowM)]) sl29 sl_rl) <| WL.e e_eql <| WL.e e_pick_t <| WL.e e_move ?_
                  refine WL.bool 83 rfl (fun y7 => ?_) (fun y7 => ?_)
                  · skip
                    refine WL.e e_move ?_
                    refine WL.h (h_call (BBegin_spec (s := s7) 0) k15 ?_)
                    intro q9
                    rw [(beg_zero s7 q9).1, (beg_zero s7 q9).2]
                    refine WL.e e_eql <| WL.e e_pick_t <| WL.e e_move ?_
                    refine WL.bool 88 rfl (fun y8 => ?_) (fun y8 => ?_)
                    · skip
                      refine WL.e e_move ?_
                      refine WL.h (h_call (BAbort_spec (s := s7) 9 h7.ok) k31 ?_)
                      obtain ⟨e0, e1⟩ := h7.abo0 (n := 9) rfl
                      rw [e0, e1]
                      refine WL.e e_eql <| WL.e e_pick_t <| WL.e e_move ?_
                      refine WL.bool 93 rfl (fun y9 => ?_) (fun y9 => ?_)
                      · skip
                        refine WL.e e_move ?_
                        refine WL.h (h_call (Begin_nil 1) k15 ?_)
                        refine WL.e e_eql <| WL.e e_pick_t <| WL.e e_assign ?_
                        refine WL.next ?_
                        refine WP.ret ?_
                        exact PO.finE Tryz.results21 (rv_tmp rv_nil) rfl hK
                      · exact absurd y9 (by decide) -- end
                    · exact absurd y8 (by decide) -- end
                  · exact absurd y7 (by decide) -- end
                · exact absurd y6 (by decide) -- end
              · exact absurd y5 (by decide) -- end
            · exact absurd y4 (by decide) -- end
          · exact absurd y3 (by decide) -- end
        · exact absurd y2 (by decide) -- end
      · exact absurd y1 (by decide) -- end
end Go.SL
set_option linter.unusedSimpArgs false
set_option linter.unusedVariables false
namespace Go.SL.VK
open Go Go.Proofs Go.SL
theorem a31 : aggOf Tryz.prog 31 = some (some 1) := by kernel_rfl
theorem a36 : aggOf Tryz.prog 36 = some (some 4) := by kernel_rfl
theorem a9 : aggOf Tryz.prog 9 = some none := by kernel_rfl
theorem f69_0 : fldOf Tryz.prog 69 0 = some 0 := by kernel_rfl
theorem f69_1 : fldOf Tryz.prog 69 1 = some 1 := by kernel_rfl
theorem k14 : callable Tryz.prog 14 = true := by kernel_rfl
theorem k15 : callable Tryz.prog 15 = true := by kernel_rfl
theorem k16 : callable Tryz.prog 16 = true := by kernel_rfl
theorem k19 : callable Tryz.prog 19 = true := by kernel_rfl
theorem k20 : callable Tryz.prog 20 = true := by kernel_rfl
theorem k21 : callable Tryz.prog 21 = true := by kernel_rfl
theorem k32 : callable Tryz.prog 32 = true := by kernel_rfl
theorem k33 : callable Tryz.prog 33 = true := by kernel_rfl
theorem k35 : callable Tryz.prog 35 = true := by kernel_rfl
theorem p36 : placesOf Tryz.prog 36 = some [(0, 1), (1, 1), (2, 1), (3, 1)] := by kernel_rfl
theorem pt24 : isPtr Tryz.prog 24 = true := by kernel_rfl
theorem s31 : szOf Tryz.prog 31 = some 1 := by kernel_rfl
theorem s36 : szOf Tryz.prog 36 = some 4 := by kernel_rfl
theorem sl60 : slOf Tryz.prog 60 = some (36, 4, 48) := by kernel_rfl
theorem z31 : zeroOf Tryz.prog 31 = some [.slice none 0 0] := by kernel_rfl
theorem z36 : zeroOf Tryz.prog 36 = some [.int .u8 0, .string .empty, .string .empty, .int .u32 0] := by kernel_rfl
end Go.SL.VK
namespace Go.SL
open Go Go.Proofs VK
set_option maxHeartbeats 4000000 in
theorem Same_spec {g : World} {A : HP} {u v : Value} {first others : List OpM} (sp : SpanM) (hA : RL A 4 OpM.c u first) (hB : RL A 4 OpM.c v others) (hn1 : first.length ≤ 140737488351232) (hn2 : others.length ≤ 140737488351232) : Spec Tryz.prog g 6 [u, v, sp.v] [A] fun K R => K (.bool true) (A :: R) := by
  refine Spec.intro Tryz.func6 rfl Tryz.ntmps6 rfl fun R K hK => ?_
  refine WP.seq ?_
  refine WP.reg ?_
  refine WL.h (h_box fun b1 => ?_)
  refine WL.e e_assign ?_
  refine WL.next ?_
  refine WP.seq ?_
  refine WP.reg ?_
  refine WL.h (h_call (opened_spec) k14 ?_)
  intro dp p
  have h0 : AtS betaG stF [] [] 0 := AtS.first bet_first
  refine WL.e e_move <| WL.e e_extract <| WL.e e_extract <| WL.e e_assign <| WL.e e_assign ?_
  refine WL.next ?_
  refine WP.seq ?_
  refine WP.seq ?_
  refine WP.reg ?_
  refine WL.e e_move <| WL.e (e_peq pt24) <| WL.e e_move ?_
  refine WL.bool 32 rfl (fun hg => ?_) (fun hg => ?_)
  · cases hg -- end
  · skip
    refine WL.e e_move ?_
    refine WL.e (el_len (xs := first) sl60 hA) <| WL.e e_move ?_
    refine WL.e (el_len (xs := others) sl60 hB) <| WL.e (e_add (c := ((first.length + others.length : Nat) : Int)) rfl rfl (by rw [w_i64 (by omega) (by omega)]; omega)) <| WL.e e_gtr <| WL.e e_pick_f <| WL.e e_move ?_
    refine WL.bool 40 rfl (fun hl => ?_) (fun hl => ?_)
    · skip
      refine WL.skip <| WL.skip <| WL.skip <| WL.e e_pick_t ?_
      refine WL.next ?_
      refine WP.cond_t rfl ?_
      refine WP.seq ?_
      refine WP.reg ?_
      refine WL.e e_move <| WL.e (e_pne pt24) <| WL.e e_move ?_
      refine WL.bool 47 rfl (fun hk => ?_) (fun hk => ?_)
      · skip
        refine WL.h (h_call (lives_spec) k21 ?_)
        refine WL.e e_pick_t <| WL.e e_assign ?_
        refine WL.next ?_
        refine WP.ret ?_
        refine PO.past nofun ?_
        exact PO.finE Tryz.results6 (rv_tmp rv_nil) rfl hK
      · cases hk -- end
    · have hl2 : first.length + others.length ≤ 60 := by simp at hl; omega
      refine WL.e e_move ?_
      refine WL.h (h_call (BBegin_spec (s := stF) 1) k15 ?_)
      intro q1
      obtain ⟨e0, h1⟩ := h0.beg 1 q1 (by decide) (by rfl) (by simp)
      rw [e0]
      generalize begS stF 1 q1 = s1 at h1 ⊢
      simp only [List.nil_append, List.cons_append] at h1
      refine WL.e e_neq <| WL.e e_pick_f ?_
      refine WL.next ?_
      refine WP.cond_f rfl ?_
      refine WP.skip ?_
      refine PO.next ?_
      refine WP.seq ?_
      refine WP.seq ?_
      refine WP.reg ?_
      refine WL.e e_assign ?_
      refine WL.next ?_
      refine WP.block ?_
      refine WP.loopK (fun (x : Nat × StV) => [(9, .int .i64 x.1)]) (fun (x : Nat × StV) => Bs p dp x.2 :: TxsU TPB x.2.txs :: cl b1 69 (SpanM.c sp) :: A :: R) [(0, _), (1, _), (5, _), (6, _), (8, _)] (fun (x : Nat × StV) => x.1 ≤ first.length ∧ ∃ L O1, O1.length ≤ x.1 ∧ AtS betaG x.2 ([tS 1 q1 0 L O1]) [] (0 + x.1)) (fun (x : Nat × StV) => first.length - x.1) (0, s1) (⟨Nat.zero_le _, [], [], Nat.le_refl _, h1⟩) ?_
      rintro ⟨i, s⟩ ⟨hi, L, O1, hOl, hI⟩
      simp only at hi hOl hI
      dsimp only
      refine WP.seq ?_
      refine WP.seq ?_
      refine WP.reg ?_
      refine WL.e e_move <| WL.e e_move ?_
      refine WL.e (el_len (xs := first) sl60 hA) <| WL.e e_lss ?_
      refine WL.next ?_
      refine WP.cond rfl (fun h1 => ?_) (fun h1 => ?_)
      · have hlt : i < first.length := by rw [decide_eq_true_eq] at h1; omega
        obtain ⟨x, hx⟩ : ∃ x, first[i]? = some x := ⟨_, List.getElem?_eq_getElem hlt⟩
        refine WP.skip ?_
        refine PO.next ?_
        refine WP.seq ?_
        refine WP.block ?_
        refine WP.reg ?_
        refine WL.e e_move <| WL.e e_move <| WL.e e_move ?_
        refine WL.e (el_ia (j := i) (xs := first) sl60 hA hlt) ?_
        refine WL.e (el_loadN (a := x) a36 opE hA hx) ?_
        refine WL.h (h_call (BDo_spec (s := s) 1 x hI.ok) k16 ?_)
        rcases hI.step (n := 1) rfl (by omega) x with ⟨_, e1⟩ | ⟨_, _, s', e1, hI2⟩ | ⟨_, _, s', e1, hI2⟩
        · rw [e1]
          refine WL.nil ?_
          refine PO.blockN ?_
          refine PO.next ?_
          refine WP.reg ?_
          refine WL.e e_move <| WL.e (e_add (c := ((i + 1 : Nat) : Int)) rfl rfl (by rw [w_i64 (by omega) (by omega)]; omega)) <| WL.e e_assign ?_
          refine WL.nil ?_
          exact PO.againK (i + 1, s) ⟨by simp only; omega, L, O1, by simp only; omega, betaG.mono hI.ok (by omega) (by omega), hI.txs, hI.his, hI.at_⟩ (by simp only; omega)
        · rw [e1]
          try simp only [setU, List.map_cons, List.map_nil] at hI2
          try simp (config := { decide := true }) only [if_true, if_false] at hI2
          dsimp only
          refine WL.nil ?_
          refine PO.blockN ?_
          refine PO.next ?_
          refine WP.reg ?_
          refine WL.e e_move <| WL.e (e_add (c := ((i + 1 : Nat) : Int)) rfl rfl (by rw [w_i64 (by omega) (by omega)]; omega)) <| WL.e e_assign ?_
          refine WL.nil ?_
          exact PO.againK (i + 1, s') ⟨by simp only; omega, _, _, by first | (simp; omega) | (simp only; omega), hI2⟩ (by simp only; omega)
        · rw [e1]
          try simp only [setU, List.map_cons, List.map_nil] at hI2
          try simp (config := { decide := true }) only [if_true, if_false] at hI2
          intro a7 m7 c7
          refine WL.nil ?_
          refine PO.blockN ?_
          refine PO.next ?_
          refine WP.reg ?_
          refine WL.e e_move <| WL.e (e_add (c := ((i + 1 : Nat) : Int)) rfl rfl (by rw [w_i64 (by omega) (by omega)]; omega)) <| WL.e e_assign ?_
          refine WL.nil ?_
          exact PO.againK (i + 1, s') ⟨by simp only; omega, _, _, by first | (simp; omega) | (simp only; omega), hI2⟩ (by simp only; omega)
      · skip
        refine WP.exit ?_
        refine PO.past nofun ?_
        refine PO.round nofun ?_
        refine PO.blockX ?_
        refine PO.next ?_
        refine WP.seq ?_
        refine WP.reg ?_
        refine WL.e e_move ?_
        refine WL.h (h_call (BCommit_spec (s := s) 1 hI.ok (by omega)) k19 ?_)
        obtain ⟨e0, e1, h2⟩ := hI.com (n := 1) rfl (by rw [hI.chk]; simp [sinceH]) (show (tS 1 q1 0 L O1).x.own.length ≤ 80 from Nat.le_trans hOl (by omega)) (by simp) (by omega)
        rw [e0, e1]
        generalize comS betaI s 1 = s2 at h2 ⊢
        replace h2 : AtS betaG s2 [] [O1] _ := h2
        generalize hb : _ + 1 = b4 at h2
        have b4l : b4 ≤ 61 := by omega
        clear hb
        refine WL.e e_move <| WL.e e_extract <| WL.e e_extract <| WL.e e_assign <| WL.e e_assign ?_
        refine WL.next ?_
        refine WP.seq ?_
        refine WP.seq ?_
        refine WP.reg ?_
        refine WL.e e_move <| WL.e e_neq <| WL.e e_move ?_
        refine WL.bool 69 rfl (fun x1 => ?_) (fun x1 => ?_)
        · exact absurd x1 (by decide) -- end
        · skip
          refine WL.e e_move ?_
          refine WL.h (h_call (BBegin_spec (s := s2) 2) k15 ?_)
          intro q2
          obtain ⟨e0, h3⟩ := h2.beg 2 q2 (by decide) (by rfl) (by simp)
          rw [e0]
          generalize begS s2 2 q2 = s3 at h3 ⊢
          simp only [List.nil_append, List.cons_append] at h3
          refine WL.e e_neq <| WL.e e_pick_f <| WL.e e_move ?_
          refine WL.bool 74 rfl (fun x2 => ?_) (fun x2 => ?_)
          · exact absurd x2 (by decide) -- end
          · skip
            refine WL.e e_move ?_
            refine WL.h (h_call (BBegin_spec (s := s3) 3) k15 ?_)
            intro q3
            obtain ⟨e0, h4⟩ := h3.beg 3 q3 (by decide) (by rfl) (by simp)
            rw [e0]
            generalize begS s3 3 q3 = s4 at h4 ⊢
            simp only [List.nil_append, List.cons_append] at h4
            refine WL.e e_neq <| WL.e e_pick_f ?_
            refine WL.next ?_
            refine WP.cond_f rfl ?_
            refine WP.skip ?_
            refine PO.next ?_
            refine WP.seq ?_
            refine WP.reg ?_
            refine WL.e (e_fa f69_0) <| WL.e (e_load a9) <| WL.e (e_fa f69_1) <| WL.e (e_load a9) <| WL.e (e_build z36 p36 (.o (.const (.int .u8 4)) rfl <| .o (.tmp 80) rfl <| .o (.tmp 82) rfl <| .z (.int .u32 0) <| .n)) ?_
            refine WL.h (h_alloc z36 fun b2 => ?_)
            refine WL.h' (h_store s36 ?_)
            refine WL.next ?_
            refine WP.seq ?_
            refine WP.reg ?_
            refine WL.e e_move <| WL.e (e_loadN a36) ?_
            refine WL.h (h_call (BDo_spec (s := s4) 2 (opScan sp) h4.ok) k16 ?_)
            rcases Bool.eq_false_or_eq_true (opOk (opScan sp)) with hx1 | hx1
            · obtain ⟨s5, e5, h5⟩ : ∃ s5, doB s4 2 (opScan sp) = .look s5 (scanR (rowsN [O1] 1) sp 256) ∧ AtS betaG s5 [tS 2 q2 (UInt32.ofNat [O1].length) [sp] [], tS 3 q3 (UInt32.ofNat [O1].length) [] []] [O1] (b4 + 1) := by
                rcases h4.step (n := 2) rfl (by omega) (opScan sp) with ⟨h, _⟩ | ⟨_, h, _⟩ | ⟨_, _, s9, e9, h9⟩
                · rw [hx1] at h; cases h
                · cases h
                · exact ⟨s9, e9, h9⟩
              rw [e5]
              intro a5 m5 c5
              refine WL.e e_move <| WL.e e_extract <| WL.e e_extract ?_
              refine WL.h (h_alloc z31 fun b3 => ?_)
              refine WL.h' (h_store s31 ?_)
              refine WL.e e_assign ?_
              refine WL.next ?_
              refine WP.seq ?_
              refine WP.reg ?_
              refine WL.e e_move ?_
              refine WL.h (h_call (BRows_spec (s := s5) h5.ok) k20 ?_)
              intro a6 m6 c6
              have hw : s5.rows = (rowsN [O1] 1) := h5.rows
              have hwl := (betaG.ok h5.ok).rows_le
              have hwk : KeysOk (rowsN [O1] 1) := keys_rowsN (fun cs hcs => ((betaG.ok h5.ok).recs cs (h5.his ▸ hcs)).2) _
              rw [hw] at hwl
              rw [hw]
              refine WL.e e_assign ?_
              refine WL.next ?_
              refine WP.seq ?_
              refine WP.seq ?_
              refine WP.reg ?_
              refine WL.e e_assign ?_
              refine WL.next ?_
              refine WP.block ?_
              refine WP.loopK (fun (x : Nat × StV) => [(15, .int .i64 x.1)]) (fun (x : Nat × StV) => Bs p dp x.2 :: TxsU TPB x.2.txs :: Sl 40 2 RowM.c (.slice a6 m6 c6) (rowsN [O1] 1) :: cl b3 31 [.slice a5 m5 c5] :: Sl 40 2 RowM.c (.slice a5 m5 c5) (scanR (rowsN [O1] 1) sp 256) :: cl b2 36 (OpM.c (opScan sp)) :: cl b1 69 (SpanM.c sp) :: A :: R) [(1, _), (6, _), (8, _), (11, _), (12, _), (13, _), (14, _)] (fun (x : Nat × StV) => x.1 ≤ others.length ∧ ∃ L O, O.length ≤ x.1 ∧ AtS betaG x.2 ([tS 2 q2 (UInt32.ofNat [O1].length) [sp] [], tS 3 q3 (UInt32.ofNat [O1].length) L O]) [O1] ((b4 + 1) + x.1)) (fun (x : Nat × StV) => others.length - x.1) (0, s5) (⟨Nat.zero_le _, [], [], Nat.le_refl _, h5⟩) ?_
              rintro ⟨i, s⟩ ⟨hi, L, O, hOl, hI⟩
              simp only at hi hOl hI
              dsimp only
              refine WP.seq ?_
              refine WP.seq ?_
              refine WP.reg ?_
              refine WL.e e_move <| WL.e e_move ?_
              refine WL.e (el_len (xs := others) sl60 hB) <| WL.e e_lss ?_
              refine WL.next ?_
              refine WP.cond rfl (fun h1 => ?_) (fun h1 => ?_)
              · have hlt : i < others.length := by rw [decide_eq_true_eq] at h1; omega
                obtain ⟨x, hx⟩ : ∃ x, others[i]? = some x := ⟨_, List.getElem?_eq_getElem hlt⟩
                refine WP.skip ?_
                refine PO.next ?_
                refine WP.seq ?_
                refine WP.block ?_
                refine WP.reg ?_
                refine WL.e e_move <| WL.e e_move <| WL.e e_move ?_
                refine WL.e (el_ia (j := i) (xs := others) sl60 hB hlt) ?_
                refine WL.e (el_loadN (a := x) a36 opE hB hx) ?_
                refine WL.h (h_call (BDo_spec (s := s) 3 x hI.ok) k16 ?_)
                rcases hI.step (n := 3) rfl (by omega) x with ⟨_, e1⟩ | ⟨_, _, s', e1, hI2⟩ | ⟨_, _, s', e1, hI2⟩
                · rw [e1]
                  refine WL.nil ?_
                  refine PO.blockN ?_
                  refine PO.next ?_
                  refine WP.reg ?_
                  refine WL.e e_move <| WL.e (e_add (c := ((i + 1 : Nat) : Int)) rfl rfl (by rw [w_i64 (by omega) (by omega)]; omega)) <| WL.e e_assign ?_
                  refine WL.nil ?_
                  exact PO.againK (i + 1, s) ⟨by simp only; omega, L, O, by simp only; omega, betaG.mono hI.ok (by omega) (by omega), hI.txs, hI.his, hI.at_⟩ (by simp only; omega)
                · rw [e1]
                  try simp only [setU, List.map_cons, List.map_nil] at hI2
                  try simp (config := { decide := true }) only [if_true, if_false] at hI2
                  dsimp only
                  refine WL.nil ?_
                  refine PO.blockN ?_
                  refine PO.next ?_
                  refine WP.reg ?_
                  refine WL.e e_move <| WL.e (e_add (c := ((i + 1 : Nat) : Int)) rfl rfl (by rw [w_i64 (by omega) (by omega)]; omega)) <| WL.e e_assign ?_
                  refine WL.nil ?_
                  exact PO.againK (i + 1, s') ⟨by simp only; omega, _, _, by first | (simp; omega) | (simp only; omega), hI2⟩ (by simp only; omega)
                · rw [e1]
                  try simp only [setU, List.map_cons, List.map_nil] at hI2
                  try simp (config := { decide := true }) only [if_true, if_false] at hI2
                  intro a7 m7 c7
                  refine WL.nil ?_
                  refine PO.blockN ?_
                  refine PO.next ?_
                  refine WP.reg ?_
                  refine WL.e e_move <| WL.e (e_add (c := ((i + 1 : Nat) : Int)) rfl rfl (by rw [w_i64 (by omega) (by omega)]; omega)) <| WL.e e_assign ?_
                  refine WL.nil ?_
                  exact PO.againK (i + 1, s') ⟨by simp only; omega, _, _, by first | (simp; omega) | (simp only; omega), hI2⟩ (by simp only; omega)
              · skip
                refine WP.exit ?_
                refine PO.past nofun ?_
                refine PO.round nofun ?_
                refine PO.blockX ?_
                refine PO.next ?_
                refine WP.seq ?_
                refine WP.reg ?_
                refine WL.e e_move ?_
                refine WL.h (h_call (BCommit_spec (s := s) 3 hI.ok (by omega)) k19 ?_)
                obtain ⟨e0, e1, h6⟩ := hI.com (n := 3) rfl (by rw [hI.chk]; simp [sinceH]) (show (tS 3 q3 (UInt32.ofNat [O1].length) L O).x.own.length ≤ 80 from Nat.le_trans hOl (by omega)) (by simp) (by omega)
                rw [e0, e1]
                generalize comS betaI s 3 = s6 at h6 ⊢
                replace h6 : AtS betaG s6 [tS 2 q2 (UInt32.ofNat [O1].length) [sp] []] [O1, O] _ := h6
                generalize hb : _ + 1 = b6 at h6
                have b6l : b6 ≤ 200 := by omega
                clear hb
                refine WL.e e_move <| WL.e e_extract <| WL.e e_extract <| WL.e e_assign <| WL.e e_assign ?_
                refine WL.next ?_
                refine WP.seq ?_
                refine WP.seq ?_
                refine WP.reg ?_
                refine WL.e e_move <| WL.e e_neq ?_
                refine WL.next ?_
                refine WP.cond_f rfl ?_
                refine WP.skip ?_
                refine PO.next ?_
                refine WP.seq ?_
                refine WP.reg ?_
                refine WL.e e_move <| WL.e (e_loadN a36) ?_
                refine WL.h (h_call (BDo_spec (s := s6) 2 (opScan sp) h6.ok) k16 ?_)
                obtain ⟨s7, e7, h7⟩ : ∃ s7, doB s6 2 (opScan sp) = .look s7 (scanR (rowsN [O1] 1) sp 256) ∧ AtS betaG s7 [tS 2 q2 (UInt32.ofNat [O1].length) [sp, sp] []] [O1, O] (b6 + 1) := by
                  rcases h6.step (n := 2) rfl (by omega) (opScan sp) with ⟨h, _⟩ | ⟨_, h, _⟩ | ⟨_, _, s9, e9, h9⟩
                  · rw [hx1] at h; cases h
                  · cases h
                  · exact ⟨s9, e9, h9⟩
                rw [e7]
                intro a7 m7 c7
                refine WL.e e_move <| WL.e e_extract <| WL.e e_extract ?_
                refine WL.h (h_alloc z31 fun b4 => ?_)
                refine WL.h' (h_store s31 ?_)
                refine WL.e e_assign ?_
                refine WL.next ?_
                refine WP.seq ?_
                refine WP.seq ?_
                refine WP.reg ?_
                refine WL.e e_move <| WL.e e_move <| WL.e e_neq <| WL.e e_move ?_
                refine WL.bool 120 rfl (fun y0 => ?_) (fun y0 => ?_)
                · exact absurd y0 (by decide) -- end
                · skip
                  refine WL.e (e_loadN a31) <| WL.e (e_loadN a31) ?_
                  refine WL.h (h_call (SameResult_spec (u := ⟨a5, m5, c5⟩) (v := ⟨a7, m7, c7⟩) (sl_rl (E := 40) (xs := (scanR (rowsN [O1] 1) sp 256))) (sl_rl (E := 40) (xs := (scanR (rowsN [O1] 1) sp 256))) (by have : (scanR (rowsN [O1] 1) sp 256).length ≤ 256 := List.length_take_le _ _; omega)) k35 ?_)
                  rw [decide_eq_true rfl]
                  refine WL.e e_not <| WL.e e_pick_f ?_
                  refine WL.next ?_
                  refine WP.cond_f rfl ?_
                  refine WP.skip ?_
                  refine PO.next ?_
                  refine WP.seq ?_
                  refine WP.reg ?_
                  refine WL.e e_move ?_
                  refine WL.h (h_call (BRows_spec (s := s7) h7.ok) k20 ?_)
                  intro a8 m8 c8
                  have hn : s7.rows = (rowsN [O1, O] 2) := h7.rows
                  have hnl := (betaG.ok h7.ok).rows_le
                  have hnk : KeysOk (rowsN [O1, O] 2) := keys_rowsN (fun cs hcs => ((betaG.ok h7.ok).recs cs (h7.his ▸ hcs)).2) _
                  rw [hn] at hnl
                  rw [hn]
                  refine WL.e e_assign ?_
                  refine WL.next ?_
                  refine WP.seq ?_
                  refine WP.reg ?_
                  refine WL.e e_move ?_
                  refine WL.h (h_call (BCommit_spec (s := s7) 2 h7.ok (by omega)) k19 ?_)
                  have hck := h7.chk (tS 2 q2 (UInt32.ofNat [O1].length) [sp, sp] []).x
                  replace hck : betaI.chk s7 (tS 2 q2 (UInt32.ofNat [O1].length) [sp, sp] []).x = sinceH [O1, O] 1 sp := hck.trans (by show (sinceH [O1, O] 1 sp || (sinceH [O1, O] 1 sp || false)) = _; cases sinceH [O1, O] 1 sp <;> rfl)
                  rcases Bool.eq_false_or_eq_true (sinceH [O1, O] 1 sp) with hsi | hsi
                  · obtain ⟨e8, e9, h8⟩ := h7.comX (n := 2) rfl (hck.trans hsi) (by omega)
                    rw [e8, e9]
                    refine WL.e e_move <| WL.e e_extract <| WL.e e_extract <| WL.e e_assign <| WL.e e_assign ?_
                    refine WL.next ?_
                    refine WP.seq ?_
                    refine WP.seq ?_
                    refine WP.reg ?_
                    refine WL.e e_move <| WL.e e_eql <| WL.e e_move ?_
                    refine WL.bool 135 rfl (fun u1 => ?_) (fun u1 => ?_)
                    · exact absurd u1 (by decide) -- end
                    · skip
                      refine WL.skip <| WL.skip <| WL.e e_pick_f ?_
                      refine WL.next ?_
                      refine WP.cond_f rfl ?_
                      refine WP.skip ?_
                      refine PO.next ?_
                      refine WP.seq ?_
                      refine WP.reg ?_
                      refine WL.e e_move <| WL.e e_eql <| WL.e e_move ?_
                      refine WL.bool 159 rfl (fun z1 => ?_) (fun z1 => ?_)
                      · exact absurd z1 (by decide) -- end
                      · skip
                        refine WL.e e_move <| WL.e e_eql <| WL.e e_pick_f <| WL.e e_move ?_
                        refine WL.bool 163 rfl (fun z2 => ?_) (fun z2 => ?_)
                        · skip
                          refine WL.h (h_call (lives_spec) k21 ?_)
                          refine WL.e e_pick_t <| WL.e e_assign ?_
                          refine WL.next ?_
                          refine WP.ret ?_
                          exact PO.finE Tryz.results6 (rv_tmp rv_nil) rfl hK
                        · exact absurd z2 (by decide) -- end
                  · obtain ⟨e8, e9, h8⟩ := h7.com (n := 2) rfl (hck.trans hsi) (by simp) (by simp) (by omega)
                    rw [e8, e9]
                    have hscan := since_scan hsi 256
                    refine WL.e e_move <| WL.e e_extract <| WL.e e_extract <| WL.e e_assign <| WL.e e_assign ?_
                    refine WL.next ?_
                    refine WP.seq ?_
                    refine WP.seq ?_
                    refine WP.reg ?_
                    refine WL.e e_move <| WL.e e_eql <| WL.e e_move ?_
                    refine WL.bool 135 rfl (fun u1 => ?_) (fun u1 => ?_)
                    · skip
                      refine WL.e e_move <| WL.e e_eql <| WL.e e_pick_t ?_
                      refine WL.next ?_
                      refine WP.cond_t rfl ?_
                      refine WP.seq ?_
                      refine WP.reg ?_
                      refine WL.e e_move <| WL.e (e_loadN a36) ?_
                      refine WL.h (h_bs sl60 z36 (.a4 (.tmp 141) rfl <| .n) fun b5 => ?_)
                      refine WL.h (h_call (Run_spec (sl_rl (E := 40) (xs := (rowsN [O1] 1))) (lit_rl opE [opScan sp] rfl) (rowsN_rising _ _) hwk (by intro y hy; obtain rfl := List.mem_singleton.1 hy; exact hx1) (by simp only [List.length_singleton]; omega)) k32 ?_)
                      intro fv ft fa fm fc fh
                      rw [run_scan] at fh
                      refine WL.e e_move <| WL.e e_extract <| WL.e e_extract <| WL.e e_assign <| WL.e e_assign ?_
                      refine WL.next ?_
                      refine WP.seq ?_
                      refine WP.reg ?_
                      refine WL.e e_move <| WL.e (e_loadN a36) ?_
                      refine WL.h (h_bs sl60 z36 (.a4 (.tmp 148) rfl <| .n) fun b6 => ?_)
                      refine WL.h (h_call (Run_spec (sl_rl (E := 40) (xs := (rowsN [O1, O] 2))) (lit_rl opE [opScan sp] rfl) (rowsN_rising _ _) hnk (by intro y hy; obtain rfl := List.mem_singleton.1 hy; exact hx1) (by simp only [List.length_singleton]; omega)) k32 ?_)
                      intro nv nt na nm nc nh
                      rw [run_scan] at nh
                      refine WL.e e_move <| WL.e e_extract <| WL.e e_extract <| WL.e e_assign <| WL.e e_assign ?_
                      refine WL.next ?_
                      refine WP.seq ?_
                      refine WP.reg ?_
                      refine WL.e e_move <| WL.e e_move ?_
                      refine WL.h (h_call (SameResults_spec (sl_rl (xs := ft)) (sl_rl (xs := nt)) (by have := congrArg List.length fh; simp at this; omega) (fun y hy => by have h3 : y.2 ∈ ft.map (·.2) := List.mem_map.2 ⟨y, hy, rfl⟩; rw [fh, List.mem_singleton] at h3; rw [h3]; exact Nat.le_trans (List.length_take_le _ _) (by decide))) k33 ?_)
                      rw [decide_eq_true (show ft.map (·.2) = nt.map (·.2) by rw [fh, nh]; exact congrArg (fun r => [r]) hscan)]
                      refine WL.e e_not ?_
                      refine WL.next ?_
                      refine WP.cond_f rfl ?_
                      refine WP.skip ?_
                      refine PO.next ?_
                      refine WP.seq ?_
                      refine WP.reg ?_
                      refine WL.e e_move <| WL.e e_eql <| WL.e e_move ?_
                      refine WL.bool 159 rfl (fun z1 => ?_) (fun z1 => ?_)
                      · skip
                        refine WL.skip <| WL.skip <| WL.e e_pick_t <| WL.e e_move ?_
                        refine WL.h (h_call (lives_spec) k21 ?_)
                        refine WL.e e_pick_t <| WL.e e_assign ?_
                        refine WL.next ?_
                        refine WP.ret ?_
                        exact PO.finE Tryz.results6 (rv_tmp rv_nil) rfl hK
                      · exact absurd z1 (by decide) -- end
                    · exact absurd u1 (by decide) -- end
            · rw [show doB s4 2 (opScan sp) = .err s4 1 by unfold doB; rw [hx1]; rfl]
              dsimp only
              refine WL.e e_move <| WL.e e_extract <| WL.e e_extract ?_
              refine WL.h (h_alloc z31 fun b7 => ?_)
              refine WL.h' (h_store s31 ?_)
              refine WL.e e_assign ?_
              refine WL.next ?_
              refine WP.seq ?_
              refine WP.reg ?_
              refine WL.e e_move ?_
              refine WL.h (h_call (BRows_spec (s := s4) h4.ok) k20 ?_)
              intro a6 m6 c6
              have hw : s4.rows = (rowsN [O1] 1) := h4.rows
              have hwl := (betaG.ok h4.ok).rows_le
              have hwk : KeysOk (rowsN [O1] 1) := keys_rowsN (fun cs hcs => ((betaG.ok h4.ok).recs cs (h4.his ▸ hcs)).2) _
              rw [hw] at hwl
              rw [hw]
              refine WL.e e_assign ?_
              refine WL.next ?_
              refine WP.seq ?_
              refine WP.seq ?_
              refine WP.reg ?_
              refine WL.e e_assign ?_
              refine WL.next ?_
              refine WP.block ?_
              refine WP.loopK (fun (x : Nat × StV) => [(15, .int .i64 x.1)]) (fun (x : Nat × StV) => Bs p dp x.2 :: TxsU TPB x.2.txs :: Sl 40 2 RowM.c (.slice a6 m6 c6) (rowsN [O1] 1) :: cl b7 31 [.slice none 0 0] :: cl b2 36 (OpM.c (opScan sp)) :: cl b1 69 (SpanM.c sp) :: A :: R) [(1, _), (6, _), (8, _), (11, _), (12, _), (13, _), (14, _)] (fun (x : Nat × StV) => x.1 ≤ others.length ∧ ∃ L O, O.length ≤ x.1 ∧ AtS betaG x.2 ([tS 2 q2 (UInt32.ofNat [O1].length) [] [], tS 3 q3 (UInt32.ofNat [O1].length) L O]) [O1] ((b4) + x.1)) (fun (x : Nat × StV) => others.length - x.1) (0, s4) (⟨Nat.zero_le _, [], [], Nat.le_refl _, h4⟩) ?_
              rintro ⟨i, s⟩ ⟨hi, L, O, hOl, hI⟩
              simp only at hi hOl hI
              dsimp only
              refine WP.seq ?_
              refine WP.seq ?_
              refine WP.reg ?_
              refine WL.e e_move <| WL.e e_move ?_
              refine WL.e (el_len (xs := others) sl60 hB) <| WL.e e_lss ?_
              refine WL.next ?_
              refine WP.cond rfl (fun h1 => ?_) (fun h1 => ?_)
              · have hlt : i < others.length := by rw [decide_eq_true_eq] at h1; omega
                obtain ⟨x, hx⟩ : ∃ x, others[i]? = some x := ⟨_, List.getElem?_eq_getElem hlt⟩
                refine WP.skip ?_
                refine PO.next ?_
                refine WP.seq ?_
                refine WP.block ?_
                refine WP.reg ?_
                refine WL.e e_move <| WL.e e_move <| WL.e e_move ?_
                refine WL.e (el_ia (j := i) (xs := others) sl60 hB hlt) ?_
                refine WL.e (el_loadN (a := x) a36 opE hB hx) ?_
                refine WL.h (h_call (BDo_spec (s := s) 3 x hI.ok) k16 ?_)
                rcases hI.step (n := 3) rfl (by omega) x with ⟨_, e1⟩ | ⟨_, _, s', e1, hI2⟩ | ⟨_, _, s', e1, hI2⟩
                · rw [e1]
                  refine WL.nil ?_
                  refine PO.blockN ?_
                  refine PO.next ?_
                  refine WP.reg ?_
                  refine WL.e e_move <| WL.e (e_add (c := ((i + 1 : Nat) : Int)) rfl rfl (by rw [w_i64 (by omega) (by omega)]; omega)) <| WL.e e_assign ?_
                  refine WL.nil ?_
                  exact PO.againK (i + 1, s) ⟨by simp only; omega, L, O, by simp only; omega, betaG.mono hI.ok (by omega) (by omega), hI.txs, hI.his, hI.at_⟩ (by simp only; omega)
                · rw [e1]
                  try simp only [setU, List.map_cons, List.map_nil] at hI2
                  try simp (config := { decide := true }) only [if_true, if_false] at hI2
                  dsimp only
                  refine WL.nil ?_
                  refine PO.blockN ?_
                  refine PO.next ?_
                  refine WP.reg ?_
                  refine WL.e e_move <| WL.e (e_add (c := ((i + 1 : Nat) : Int)) rfl rfl (by rw [w_i64 (by omega) (by omega)]; omega)) <| WL.e e_assign ?_
                  refine WL.nil ?_
                  exact PO.againK (i + 1, s') ⟨by simp only; omega, _, _, by first | (simp; omega) | (simp only; omega), hI2⟩ (by simp only; omega)
                · rw [e1]
                  try simp only [setU, List.map_cons, List.map_nil] at hI2
                  try simp (config := { decide := true }) only [if_true, if_false] at hI2
                  intro a7 m7 c7
                  refine WL.nil ?_
                  refine PO.blockN ?_
                  refine PO.next ?_
                  refine WP.reg ?_
                  refine WL.e e_move <| WL.e (e_add (c := ((i + 1 : Nat) : Int)) rfl rfl (by rw [w_i64 (by omega) (by omega)]; omega)) <| WL.e e_assign ?_
                  refine WL.nil ?_
                  exact PO.againK (i + 1, s') ⟨by simp only; omega, _, _, by first | (simp; omega) | (simp only; omega), hI2⟩ (by simp only; omega)
              · skip
                refine WP.exit ?_
                refine PO.past nofun ?_
                refine PO.round nofun ?_
                refine PO.blockX ?_
                refine PO.next ?_
                refine WP.seq ?_
                refine WP.reg ?_
                refine WL.e e_move ?_
                refine WL.h (h_call (BCommit_spec (s := s) 3 hI.ok (by omega)) k19 ?_)
                obtain ⟨e0, e1, h6⟩ := hI.com (n := 3) rfl (by rw [hI.chk]; simp [sinceH]) (show (tS 3 q3 (UInt32.ofNat [O1].length) L O).x.own.length ≤ 80 from Nat.le_trans hOl (by omega)) (by simp) (by omega)
                rw [e0, e1]
                generalize comS betaI s 3 = s6 at h6 ⊢
                replace h6 : AtS betaG s6 [tS 2 q2 (UInt32.ofNat [O1].length) [] []] [O1, O] _ := h6
                generalize hb : _ + 1 = b6 at h6
                have b6l : b6 ≤ 200 := by omega
                clear hb
                refine WL.e e_move <| WL.e e_extract <| WL.e e_extract <| WL.e e_assign <| WL.e e_assign ?_
                refine WL.next ?_
                refine WP.seq ?_
                refine WP.seq ?_
                refine WP.reg ?_
                refine WL.e e_move <| WL.e e_neq ?_
                refine WL.next ?_
                refine WP.cond_f rfl ?_
                refine WP.skip ?_
                refine PO.next ?_
                refine WP.seq ?_
                refine WP.reg ?_
                refine WL.e e_move <| WL.e (e_loadN a36) ?_
                refine WL.h (h_call (BDo_spec (s := s6) 2 (opScan sp) h6.ok) k16 ?_)
                rw [show doB s6 2 (opScan sp) = .err s6 1 by unfold doB; rw [hx1]; rfl]
                dsimp only
                refine WL.conv (M := pu True :: _) (fun S h => pu_stars trivial h) ?_
                refine WL.e e_move <| WL.e e_extract <| WL.e e_extract ?_
                refine WL.h (h_alloc z31 fun b8 => ?_)
                refine WL.h' (h_store s31 ?_)
                refine WL.e e_assign ?_
                refine WL.next ?_
                refine WP.seq ?_
                refine WP.seq ?_
                refine WP.reg ?_
                refine WL.e e_move <| WL.e e_move <| WL.e e_neq <| WL.e e_move ?_
                refine WL.bool 120 rfl (fun y0 => ?_) (fun y0 => ?_)
                · exact absurd y0 (by decide) -- end
                · skip
                  refine WL.e (e_loadN a31) <| WL.e (e_loadN a31) ?_
                  refine WL.h (h_call (SameResult_spec (u := ⟨none, 0, 0⟩) (v := ⟨none, 0, 0⟩) (xs := []) (ys := []) (A := A) (B := pu True) nil_rl nil_rl (by simp)) k35 ?_)
                  rw [decide_eq_true rfl]
                  refine WL.e e_not <| WL.e e_pick_f ?_
                  refine WL.next ?_
                  refine WP.cond_f rfl ?_
                  refine WP.skip ?_
                  refine PO.next ?_
                  refine WP.seq ?_
                  refine WP.reg ?_
                  refine WL.e e_move ?_
                  refine WL.h (h_call (BRows_spec (s := s6) h6.ok) k20 ?_)
                  intro a8 m8 c8
                  have hn : s6.rows = (rowsN [O1, O] 2) := h6.rows
                  have hnl := (betaG.ok h6.ok).rows_le
                  have hnk : KeysOk (rowsN [O1, O] 2) := keys_rowsN (fun cs hcs => ((betaG.ok h6.ok).recs cs (h6.his ▸ hcs)).2) _
                  rw [hn] at hnl
                  rw [hn]
                  refine WL.e e_assign ?_
                  refine WL.next ?_
                  refine WP.seq ?_
                  refine WP.reg ?_
                  refine WL.e e_move ?_
                  refine WL.h (h_call (BCommit_spec (s := s6) 2 h6.ok (by omega)) k19 ?_)
                  obtain ⟨e8, e9, h8⟩ := h6.com (n := 2) rfl (by rw [h6.chk]; rfl) (by simp) (by simp) (by omega)
                  rw [e8, e9]
                  refine WL.e e_move <| WL.e e_extract <| WL.e e_extract <| WL.e e_assign <| WL.e e_assign ?_
                  refine WL.next ?_
                  refine WP.seq ?_
                  refine WP.seq ?_
                  refine WP.reg ?_
                  refine WL.e e_move <| WL.e e_eql <| WL.e e_move ?_
                  refine WL.bool 135 rfl (fun u1 => ?_) (fun u1 => ?_)
                  · skip
                    refine WL.e e_move <| WL.e e_eql <| WL.e e_pick_t ?_
                    refine WL.next ?_
                    refine WP.cond_f rfl ?_
                    refine WP.skip ?_
                    refine PO.next ?_
                    refine WP.seq ?_
                    refine WP.reg ?_
                    refine WL.e e_move <| WL.e e_eql <| WL.e e_move ?_
                    refine WL.bool 159 rfl (fun z1 => ?_) (fun z1 => ?_)
                    · skip
                      refine WL.skip <| WL.skip <| WL.e e_pick_t <| WL.e e_move ?_
                      refine WL.h (h_call (lives_spec) k21 ?_)
                      refine WL.e e_pick_t <| WL.e e_assign ?_
                      refine WL.next ?_
                      refine WP.ret ?_
                      exact PO.finE Tryz.results6 (rv_tmp rv_nil) rfl hK
                    · exact absurd z1 (by decide) -- end
                  · exact absurd u1 (by decide) -- end
end Go.SL
/- From the row to the walk: a slice of structs that came in is read as a list. -/
set_option linter.unusedSimpArgs false
set_option linter.unusedVariables false
set_option linter.unusedSectionVars false
namespace Go.SL
open Go Go.ChangeShapes Go.Deep
section
variable {H : Type} {enc : TypeId × Value → H} {P : Program} {W : World} {held : Bool}
theorem add_off (a : Addr) (n : Nat) (h : a.spot = none) : a.add n = ⟨a.block, a.off + n, none⟩ := by
  obtain ⟨b, o, s⟩ := a
  simp at h; subst h
  exact add_none b o n
theorem slice_rl {α : Type} {t e : TypeId} {fuel z : Nat} {cs : List Value} {x : DataW H × List MemPlace} {c : α → List Value} (ht : P.underlying t = some (.slice e)) (hz : P.cellsOf e = z) (h0 : 0 < z) (he : EncOk z c)
    (hel : ∀ n cs' y, DataW.trod enc P W 0 (fun _ => true) held n e cs' = some y → ∃ a : α, cs' = c a) (h : DataW.trod enc P W 0 (fun _ => true) held fuel t cs = some x) :
    ∃ (v : SV) (xs : List α), cs = [v.v] ∧ RL (Old W) z c v.v xs ∧ (xs = [] ∨ ∃ el sp, x.1 = .slice el sp ∧ el.length = xs.length) := by
  rcases open_slice ht h with ⟨hcs, _⟩ | ⟨a, len, cap, m, n, D, Pl, hcs, _, hl, hm, hmm, hxx, hi⟩
  · exact ⟨⟨none, 0, 0⟩, [], hcs, nil_rl, .inl rfl⟩
  simp only [if_true] at hmm
  subst hmm
  rw [hz] at hi
  have hi' : ∀ i : Fin m, ∃ y : α, ∀ j, j < z → W.cell? ((a.add (i * z)).add j) = (c y)[j]? := fun i => by
    obtain ⟨cs', h1, h2⟩ := hi i i.2
    obtain ⟨y, rfl⟩ := hel _ _ _ h2
    exact ⟨y, (World.cells?_some h1).2.2⟩
  by_cases hc0 : m = 0
  · have : len = 0 := by omega
    subst this
    exact ⟨⟨some a, 0, m⟩, [], hcs, nil_rl, .inl rfl⟩
  let Y : Fin m → α := fun i => Classical.choose (hi' i)
  have hY : ∀ i : Fin m, ∀ j, j < z → W.cell? ((a.add (i * z)).add j) = (c (Y i))[j]? := fun i => Classical.choose_spec (hi' i)
  have hsp : a.spot = none := by
    have := hY ⟨0, by omega⟩ 0 h0
    have hlt : 0 < (c (Y ⟨0, by omega⟩)).length := by rw [he.len]; exact h0
    rw [List.getElem?_eq_getElem hlt] at this
    have h2 := World.cell?_spot this
    cases hs : a.spot with
    | none => rfl
    | some s => simp [Addr.add, hs] at h2
  have hcell : ∀ k (hk : k < m * z), W.cell? ⟨a.block, a.off + k, none⟩ = (c (Y ⟨k / z, (Nat.div_lt_iff_lt_mul h0).2 hk⟩))[k % z]? := fun k hk => by
    have := hY ⟨k / z, (Nat.div_lt_iff_lt_mul h0).2 hk⟩ (k % z) (Nat.mod_lt _ h0)
    rw [add_off a _ hsp, add_none] at this
    have e : a.off + k / z * z + k % z = a.off + k := by have := Nat.div_add_mod k z; rw [Nat.mul_comm] at this; omega
    simp only [e] at this
    exact this
  have hmz : 0 < m * z := Nat.mul_pos (by omega) h0
  obtain ⟨arr, t', fr, hb⟩ : ∃ arr t' fr, W.heap[a.block]? = some (.cells arr t' fr) := by
    have := hcell 0 hmz
    rw [List.getElem?_eq_getElem (by rw [he.len]; exact Nat.mod_lt _ h0)] at this
    unfold World.cell? at this
    cases hh : W.heap[a.block]? with
    | none => rw [hh] at this; cases this
    | some o => rw [hh] at this; cases o <;> first | exact ⟨_, _, _, rfl⟩ | cases this
  have hval : ∀ k (hk : k < m * z), arr.toList[a.off + k]? = (c (Y ⟨k / z, (Nat.div_lt_iff_lt_mul h0).2 hk⟩))[k % z]? := fun k hk => by
    have := hcell k hk
    unfold World.cell? at this
    rw [hb] at this
    simpa using this
  have hlen : a.off + m * z ≤ arr.toList.length := by
    have := hval (m * z - 1) (by omega)
    have hlt : (m * z - 1) % z < (c (Y ⟨(m * z - 1) / z, (Nat.div_lt_iff_lt_mul h0).2 (by omega)⟩)).length := by rw [he.len]; exact Nat.mod_lt _ h0
    rw [List.getElem?_eq_getElem hlt] at this
    have := idx_lt this
    omega
  refine ⟨⟨some a, len, m⟩, List.ofFn fun i : Fin len => Y ⟨i, by omega⟩, hcs, fun S hS => ?_, .inr ⟨_, _, by rw [hxx], by simp⟩⟩
  refine .inr ⟨a.block, a.off, m, arr.toList, (t', fr), ?_, by simpa using hl, ?_, hlen, ?_⟩
  · obtain ⟨b, o, s⟩ := a
    simp at hsp; subst hsp
    simp
  · exact hS _ _ (by simpa [heapOf] using hb)
  · apply List.ext_getElem?
    intro k
    rw [td_get, List.length_ofFn]
    by_cases hk : k < len * z
    · rw [if_pos hk]
      have hkm : k < m * z := Nat.lt_of_lt_of_le hk (Nat.mul_le_mul_right _ hl)
      rw [hval k hkm]
      have hd : k / z < len := (Nat.div_lt_iff_lt_mul h0).2 hk
      have hx : (List.ofFn fun i : Fin len => Y ⟨i, by omega⟩)[k / z]? = some (Y ⟨k / z, by omega⟩) := by simp [hd]
      have := flat_at he hx (k % z) (Nat.mod_lt _ h0)
      rw [show k / z * z + k % z = k by have := Nat.div_add_mod k z; rw [Nat.mul_comm] at this; omega] at this
      exact this
    · rw [if_neg hk]
      apply List.getElem?_eq_none
      rw [flat_len he, List.length_ofFn]; omega
theorem sized_len {α : Type} {ts : List TypeId} {ds : List (DataW H)} {j : Nat} {t e : TypeId} {d : DataW H} {xs : List α} (h : (DataW.weightsEach P ts ds).all (· ≤ reachBytes) = true) (ht : ts[j]? = some t) (hd : ds[j]? = some d) (hu : P.underlying t = some (.slice e)) (hb : (P.bytesOf e == 0) = false)
    (hx : xs = [] ∨ ∃ el sp, d = .slice el sp ∧ el.length = xs.length) : xs.length ≤ 140737488351232 := by
  rcases hx with rfl | ⟨el, sp, rfl, he⟩
  · simp
  · have := sized_slice h ht hd hu
    have hp : 1 ≤ P.bytesOf e := by simp at hb; omega
    have : xs.length * 1 ≤ (el.length + sp.length) * P.bytesOf e := Nat.mul_le_mul (by omega) hp
    rw [show reachBytes = 140737488351232 from rfl] at *
    omega
theorem below_of_spec1 {P : Program} {w : World} {f : FuncId} {args : List Value} (h : Spec P w f args [Old w] fun K R => K (.bool true) (Old w :: R)) : Calls P f args.toArray w fun e w' => e = .returned (.bool true) ∧ Go.RowKit.Below w.heap.size w w' := by
  refine (h [] (fun v M => v = .bool true ∧ M = [Old w]) w (sat_old w) ⟨rfl, rfl⟩).mono ?_
  rintro e w' ⟨v, M, rfl, ⟨rfl, rfl⟩, hs⟩
  exact ⟨rfl, old_below hs⟩
theorem op_cells {t k s u : TypeId} {b0 b1 b2 b3 : Nat} {n0 n1 n2 n3 : String} {fuel : Nat} {cs : List Value} {y : DataW H × List MemPlace} (ht : P.underlying t = some (.struct #[⟨n0, k, 0, false, "", "", b0⟩, ⟨n1, s, 1, false, "", "", b1⟩, ⟨n2, s, 2, false, "", "", b2⟩, ⟨n3, u, 3, false, "", "", b3⟩]))
    (hk : P.underlying k = some (.int .u8)) (hs : P.underlying s = some .string) (hu : P.underlying u = some (.int .u32)) (ct : P.cellsOf t = 4) (ck : P.cellsOf k = 1) (c1 : P.cellsOf s = 1) (cu : P.cellsOf u = 1)
    (h : DataW.trod enc P W 0 (fun _ => true) held fuel t cs = some y) : ∃ x : OpM, cs = x.c := by
  obtain ⟨y0, y1, y2, y3, m, hx, hl, h0, h1, h2, h3⟩ := Go.Joins.trod_struct4 ht h
  rw [ct] at hl
  match cs, hl with
  | [a, b, c, d], _ =>
    simp only [ck, c1, cu] at h0 h1 h2 h3
    obtain ⟨n, e0, _, w0⟩ := DataW.trod_int hk h0
    obtain ⟨s1, e1, _, _⟩ := DataW.trod_string hs h1
    obtain ⟨s2, e2, _, _⟩ := DataW.trod_string hs h2
    obtain ⟨v, e3, _, w3⟩ := DataW.trod_int hu h3
    simp at e0 e1 e2 e3
    subst e0 e1 e2 e3
    refine ⟨⟨UInt8.ofNat n.toNat, s1, s2, UInt32.ofNat v.toNat⟩, ?_⟩
    simp only [OpM.c]
    rw [← u8_wf w0, ← u32_wf w3]
end
end Go.SL
