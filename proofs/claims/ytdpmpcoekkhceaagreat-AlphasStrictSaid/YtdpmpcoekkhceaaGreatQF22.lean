/- UF SLv: rules and walks, several texts in one. -/
import Derived.Test.YtdpmpcoekkhceaaGreatQF21
import Derived.Test.YtdpmpcoekkhceaaGreatProg
import Derived.KernelRfl
import Derived.Deep.Slices
import Derived.ChangeSame
import Derived.SizedLaws
set_option linter.unusedSimpArgs false
set_option linter.unusedVariables false
namespace Go.SL.UF
open Go Go.Proofs Go.SL
theorem a22 : aggOf Tryz.prog 22 = some none := by kernel_rfl
theorem a29 : aggOf Tryz.prog 29 = some none := by kernel_rfl
theorem a36 : aggOf Tryz.prog 36 = some (some 4) := by kernel_rfl
theorem a4 : aggOf Tryz.prog 4 = some none := by kernel_rfl
theorem f31_0 : fldOf Tryz.prog 31 0 = some 0 := by kernel_rfl
theorem f40_1 : fldOf Tryz.prog 40 1 = some 1 := by kernel_rfl
theorem f47_0 : fldOf Tryz.prog 47 0 = some 0 := by kernel_rfl
theorem f47_1 : fldOf Tryz.prog 47 1 = some 1 := by kernel_rfl
theorem f47_2 : fldOf Tryz.prog 47 2 = some 2 := by kernel_rfl
theorem f47_3 : fldOf Tryz.prog 47 3 = some 3 := by kernel_rfl
theorem k22 : callable Tryz.prog 22 = true := by kernel_rfl
theorem k23 : callable Tryz.prog 23 = true := by kernel_rfl
theorem k24 : callable Tryz.prog 24 = true := by kernel_rfl
theorem k25 : callable Tryz.prog 25 = true := by kernel_rfl
theorem k26 : callable Tryz.prog 26 = true := by kernel_rfl
theorem k27 : callable Tryz.prog 27 = true := by kernel_rfl
theorem k28 : callable Tryz.prog 28 = true := by kernel_rfl
theorem k29 : callable Tryz.prog 29 = true := by kernel_rfl
theorem pt48 : isPtr Tryz.prog 48 = true := by kernel_rfl
theorem s31 : szOf Tryz.prog 31 = some 1 := by kernel_rfl
theorem s36 : szOf Tryz.prog 36 = some 4 := by kernel_rfl
theorem sl29 : slOf Tryz.prog 29 = some (40, 2, 24) := by kernel_rfl
theorem z31 : zeroOf Tryz.prog 31 = some [.slice none 0 0] := by kernel_rfl
theorem z36 : zeroOf Tryz.prog 36 = some [.int .u8 0, .string .empty, .string .empty, .int .u32 0] := by kernel_rfl
end Go.SL.UF
namespace Go.SL
open Go Go.Proofs UF
set_option maxHeartbeats 4000000 in
theorem Strict_spec {g : World} (v w : UInt32) (wr co : Bool) : Spec Tryz.prog g 4 [.agg #[.int .u32 v.toNat, .int .u32 w.toNat, .bool wr, .bool co]] [] fun K R => K (.bool true) R := by
  refine Spec.intro Tryz.func4 rfl Tryz.ntmps4 rfl fun R K hK => ?_
  refine WP.seq ?_
  refine WP.reg ?_
  refine WL.h (h_box fun b1 => ?_)
  refine WL.e e_assign ?_
  refine WL.next ?_
  refine WP.seq ?_
  refine WP.reg ?_
  refine WL.e (e_fa f47_0) <| WL.e (e_load a22) <| WL.e e_assign ?_
  refine WL.next ?_
  refine WP.seq ?_
  refine WP.reg ?_
  refine WL.e (e_fa f47_1) <| WL.e (e_load a22) <| WL.e e_assign ?_
  refine WL.next ?_
  refine WP.seq ?_
  refine WP.reg ?_
  refine WL.e (e_fa f47_2) <| WL.e (e_load a4) <| WL.e e_assign ?_
  refine WL.next ?_
  refine WP.seq ?_
  refine WP.reg ?_
  refine WL.e (e_fa f47_3) <| WL.e (e_load a4) <| WL.e e_assign ?_
  refine WL.next ?_
  refine WP.seq ?_
  refine WP.reg ?_
  refine WL.h (h_call (opened_spec) k22 ?_)
  intro dp p
  have h0 := AtA.first
  refine WL.e e_move <| WL.e e_extract <| WL.e e_extract <| WL.e e_assign <| WL.e e_assign ?_
  refine WL.next ?_
  refine WP.seq ?_
  refine WP.seq ?_
  refine WP.reg ?_
  refine WL.e e_move <| WL.e (e_peq pt48) <| WL.e e_move ?_
  refine WL.bool 34 rfl (fun hg => ?_) (fun hg => ?_)
  · cases hg -- end
  · skip
    refine WL.e e_move ?_
    refine WL.h (h_call (ABegin_spec (s := stF) 1) k23 ?_)
    intro q1
    obtain ⟨e0, h1⟩ := h0.beg 1 q1 (by decide) (by rfl) (by simp)
    rw [e0]
    generalize begS stF 1 q1 = s1 at h1 ⊢
    simp only [List.nil_append, List.cons_append] at h1
    refine WL.e e_neq <| WL.e e_pick_f <| WL.e e_move ?_
    refine WL.bool 39 rfl (fun hg2 => ?_) (fun hg2 => ?_)
    · exact absurd hg2 (by decide) -- end
    · skip
      refine WL.e e_move ?_
      refine WL.h (h_call (ABegin_spec (s := s1) 2) k23 ?_)
      intro q2
      obtain ⟨e0, h2⟩ := h1.beg 2 q2 (by decide) (by rfl) (by simp)
      rw [e0]
      generalize begS s1 2 q2 = s2 at h2 ⊢
      simp only [List.nil_append, List.cons_append] at h2
      refine WL.e e_neq <| WL.e e_pick_f <| WL.e e_move ?_
      refine WL.bool 44 rfl (fun hg3 => ?_) (fun hg3 => ?_)
      · exact absurd hg3 (by decide) -- end
      · skip
        refine WL.e e_move ?_
        refine WL.h (h_call (ABegin_spec (s := s2) 3) k23 ?_)
        intro q3
        obtain ⟨e0, h3⟩ := h2.beg 3 q3 (by decide) (by rfl) (by simp)
        rw [e0]
        generalize begS s2 3 q3 = s3 at h3 ⊢
        simp only [List.nil_append, List.cons_append] at h3
        refine WL.e e_neq <| WL.e e_pick_f ?_
        refine WL.next ?_
        refine WP.cond_f rfl ?_
        refine WP.skip ?_
        refine PO.next ?_
        refine WP.seq ?_
        refine WP.reg ?_
        refine WL.e e_move <| WL.e e_move ?_
        refine WL.h (h_call (lput_spec kK w) k25 ?_)
        refine WL.h (h_call (ADo_spec (s := s3) 3 (opPut kK w) h3.ok) k24 ?_)
        obtain ⟨s4, e0, h4⟩ := h3.put (n := 3) rfl (x := opPut kK w) (by rw [put_ok]; exact keyK) (in_one _) rfl (way_n 3 true) (by decide)
        rw [e0]
        try simp only [setU, List.map_cons, List.map_nil, List.nil_append, List.cons_append] at h4
        try simp (config := { decide := true }) only [if_true, if_false] at h4
        rw [show lockS [] 3 (spanOf (opPut kK w)) true = l3S from lock_k3] at h4
        refine WL.next ?_
        refine WP.seq ?_
        refine WP.reg ?_
        refine WL.e e_move ?_
        refine WL.h (h_call (ACommit_spec (s := s4) 3 h4.ok (by decide)) k26 ?_)
        obtain ⟨e0, e1, h5⟩ := h4.comA (n := 3) rfl (by simp) (by simp) (by decide)
        rw [e0, e1]
        generalize comS alphaI s4 3 = s5 at h5 ⊢
        rw [free_k3] at h5
        try simp (config := { decide := true }) only [delU, List.eraseP_cons, decide_true, decide_false, cond_true, cond_false, List.nil_append, List.cons_append] at h5
        refine WL.next ?_
        refine WP.seq ?_
        refine WP.reg ?_
        refine WL.h (h_call (lget_spec kK) k27 ?_)
        refine WL.h (h_alloc z36 fun b2 => ?_)
        refine WL.h' (h_store s36 ?_)
        refine WL.next ?_
        refine WP.seq ?_
        refine WP.seq ?_
        refine WP.reg ?_
        refine WL.e e_move ?_
        refine WL.next ?_
        refine WP.cond rfl (fun c1 => ?_) (fun c1 => ?_)
        · obtain rfl : wr = true := by simpa using c1
          refine WP.reg ?_
          refine WL.e e_move ?_
          refine WL.h (h_call (lput_spec kK v) k25 ?_)
          refine WL.h' (h_store s36 ?_)
          refine WL.next ?_
          refine WP.seq ?_
          refine WP.reg ?_
          refine WL.e e_move <| WL.e e_move ?_
          refine WL.h (h_call (lput_spec kK v) k25 ?_)
          refine WL.h (h_call (ADo_spec (s := s5) 1 (opPut kK v) h5.ok) k24 ?_)
          obtain ⟨s6, e0, h6⟩ := h5.put (n := 1) rfl (x := opPut kK v) (by rw [put_ok]; exact keyK) (in_one _) rfl (way_n 1 true) (by decide)
          rw [e0]
          try simp only [setU, List.map_cons, List.map_nil, List.nil_append, List.cons_append] at h6
          try simp (config := { decide := true }) only [if_true, if_false] at h6
          rw [show lockS [] 1 (spanOf (opPut kK v)) true = l1S from lock_k1] at h6
          refine WL.e e_move <| WL.e e_extract <| WL.e e_extract ?_
          refine WL.h (h_alloc z31 fun b3 => ?_)
          refine WL.h' (h_store s31 ?_)
          refine WL.e e_assign ?_
          refine WL.next ?_
          refine WP.seq ?_
          refine WP.reg ?_
          refine WL.e e_move <| WL.e (e_loadN a36) ?_
          refine WL.h (h_call (ADo_spec (s := s6) 2 (opPut kK v) h6.ok) k24 ?_)
          obtain ⟨s7, e0, h7⟩ := h6.wait (n := 2) rfl (x := opPut kK v) (by rw [put_ok]; exact keyK) (in_one _) (by rw [show wayL l1S 2 (spanOf (opPut kK v)) (writes (opPut kK v)) = [1] from way_k _]; decide) (by rw [show wayL l1S 2 (spanOf (opPut kK v)) (writes (opPut kK v)) = [1] from way_k _]; exact ring_3 (by simp [edgesA, setU]) (by decide))
          rw [e0]
          try simp only [setU, List.map_cons, List.map_nil, List.nil_append, List.cons_append] at h7
          try simp (config := { decide := true }) only [if_true, if_false] at h7
          rw [show wayL l1S 2 (spanOf (opPut kK v)) (writes (opPut kK v)) = [1] from way_k _] at h7
          refine WL.e e_move <| WL.e e_extract <| WL.e e_extract ?_
          refine WL.h (h_alloc z31 fun b4 => ?_)
          refine WL.h' (h_store s31 ?_)
          refine WL.e e_assign ?_
          refine WL.next ?_
          refine WP.seq ?_
          refine WP.reg ?_
          refine WL.e e_move <| WL.e (e_loadN a36) ?_
          refine WL.h (h_call (ADo_spec (s := s7) 2 (opPut kK v) h7.ok) k24 ?_)
          obtain ⟨s8, e0, h8⟩ := h7.wait (n := 2) rfl (x := opPut kK v) (by rw [put_ok]; exact keyK) (in_one _) (by rw [show wayL l1S 2 (spanOf (opPut kK v)) (writes (opPut kK v)) = [1] from way_k _]; decide) (by rw [show wayL l1S 2 (spanOf (opPut kK v)) (writes (opPut kK v)) = [1] from way_k _]; exact ring_3 (by simp [edgesA, setU]) (by decide))
          rw [e0]
          try simp only [setU, List.map_cons, List.map_nil, List.nil_append, List.cons_append] at h8
          try simp (config := { decide := true }) only [if_true, if_false] at h8
          rw [show wayL l1S 2 (spanOf (opPut kK v)) (writes (opPut kK v)) = [1] from way_k _] at h8
          refine WL.e e_move <| WL.e e_extract <| WL.e e_extract ?_
          refine WL.h (h_alloc z31 fun b5 => ?_)
          refine WL.h' (h_store s31 ?_)
          refine WL.e e_assign ?_
          refine WL.next ?_
          refine WP.seq ?_
          refine WP.reg ?_
          refine WL.e e_move ?_
          refine WL.h (h_call (AAbort_spec (s := s8) 1 h8.ok) k28 ?_)
          obtain ⟨e0, h9⟩ := h8.aboA (n := 1) rfl
          rw [e0]
          generalize aboS alphaI s8 1 = s9 at h9 ⊢
          rw [free_k1] at h9
          try simp (config := { decide := true }) only [delU, List.eraseP_cons, decide_true, decide_false, cond_true, cond_false, List.nil_append, List.cons_append] at h9
          refine WL.e e_assign ?_
          refine WL.next ?_
          refine WP.seq ?_
          refine WP.reg ?_
          refine WL.e e_move <| WL.e e_assign ?_
          refine WL.next ?_
          refine WP.seq ?_
          refine WP.seq ?_
          refine WP.reg ?_
          refine WL.e e_move ?_
          refine WL.next ?_
          refine WP.cond rfl (fun c2 => ?_) (fun c2 => ?_)
          · skip
            refine WP.seq ?_
            refine WP.seq ?_
            refine WP.reg ?_
            refine WL.e e_move <| WL.e e_neq <| WL.e e_move ?_
            refine WL.bool 84 rfl (fun g1 => ?_) (fun g1 => ?_)
            · exact absurd g1 (by decide) -- end
            · skip
              refine WL.e e_move ?_
              refine WL.h (h_call (ABegin_spec (s := s9) 1) k23 ?_)
              intro q4
              obtain ⟨e0, h10⟩ := h9.beg 1 q4 (by decide) (by rfl) (by simp)
              rw [e0]
              generalize begS s9 1 q4 = s10 at h10 ⊢
              simp only [List.nil_append, List.cons_append] at h10
              refine WL.e e_neq <| WL.e e_pick_f ?_
              refine WL.next ?_
              refine WP.cond_f rfl ?_
              refine WP.skip ?_
              refine PO.next ?_
              refine WP.seq ?_
              refine WP.reg ?_
              refine WL.e e_move <| WL.e e_move ?_
              refine WL.h (h_call (lput_spec kK v) k25 ?_)
              refine WL.h (h_call (ADo_spec (s := s10) 1 (opPut kK v) h10.ok) k24 ?_)
              obtain ⟨s11, e0, h11⟩ := h10.put (n := 1) rfl (x := opPut kK v) (by rw [put_ok]; exact keyK) (in_one _) rfl (way_n 1 true) (by decide)
              rw [e0]
              try simp only [setU, List.map_cons, List.map_nil, List.nil_append, List.cons_append] at h11
              try simp (config := { decide := true }) only [if_true, if_false] at h11
              rw [show lockS [] 1 (spanOf (opPut kK v)) true = l1S from lock_k1] at h11
              refine WL.e e_move <| WL.e e_extract <| WL.e e_extract <| WL.e e_assign ?_
              refine WL.next ?_
              refine WP.seq ?_
              refine WP.reg ?_
              refine WL.e e_move <| WL.e (e_loadN a36) ?_
              refine WL.h (h_call (ADo_spec (s := s11) 2 (opPut kK v) h11.ok) k24 ?_)
              obtain ⟨s12, e0, h12⟩ := h11.wait (n := 2) rfl (x := opPut kK v) (by rw [put_ok]; exact keyK) (in_one _) (by rw [show wayL l1S 2 (spanOf (opPut kK v)) (writes (opPut kK v)) = [1] from way_k _]; decide) (by rw [show wayL l1S 2 (spanOf (opPut kK v)) (writes (opPut kK v)) = [1] from way_k _]; exact ring_3 (by simp [edgesA, setU]) (by decide))
              rw [e0]
              try simp only [setU, List.map_cons, List.map_nil, List.nil_append, List.cons_append] at h12
              try simp (config := { decide := true }) only [if_true, if_false] at h12
              rw [show wayL l1S 2 (spanOf (opPut kK v)) (writes (opPut kK v)) = [1] from way_k _] at h12
              refine WL.e e_move <| WL.e e_extract <| WL.e e_extract <| WL.e e_assign ?_
              refine WL.next ?_
              refine WP.seq ?_
              refine WP.seq ?_
              refine WP.reg ?_
              refine WL.e e_move <| WL.e e_eql ?_
              refine WL.next ?_
              refine WP.cond_f rfl ?_
              refine WP.skip ?_
              refine PO.next ?_
              refine WP.seq ?_
              refine WP.reg ?_
              refine WL.e e_move ?_
              refine WL.h (h_call (ACommit_spec (s := s12) 1 h12.ok (by decide)) k26 ?_)
              obtain ⟨e0, e1, h13⟩ := h12.comA (n := 1) rfl (by simp) (by simp) (by decide)
              rw [e0, e1]
              generalize comS alphaI s12 1 = s13 at h13 ⊢
              rw [free_k1] at h13
              try simp (config := { decide := true }) only [delU, List.eraseP_cons, decide_true, decide_false, cond_true, cond_false, List.nil_append, List.cons_append] at h13
              refine WL.e e_move <| WL.e e_extract <| WL.e e_extract <| WL.e e_assign ?_
              refine WL.next ?_
              refine WP.reg ?_
              refine WL.e e_move <| WL.e e_assign ?_
              refine WL.next ?_
              refine WP.seq ?_
              refine WP.reg ?_
              refine WL.e e_move <| WL.e (e_loadN a36) ?_
              refine WL.h (h_call (ADo_spec (s := s13) 2 (opPut kK v) h13.ok) k24 ?_)
              obtain ⟨s20, e0, h20⟩ := h13.put (n := 2) rfl (x := opPut kK v) (by rw [put_ok]; exact keyK) (in_one _) rfl (way_n 2 true) (by decide)
              rw [e0]
              try simp only [setU, List.map_cons, List.map_nil, List.nil_append, List.cons_append] at h20
              try simp (config := { decide := true }) only [if_true, if_false] at h20
              refine WL.e e_move <| WL.e e_extract <| WL.e e_extract ?_
              refine WL.h (h_alloc z31 fun b6 => ?_)
              refine WL.h' (h_store s31 ?_)
              refine WL.e e_assign ?_
              refine WL.next ?_
              refine WP.seq ?_
              refine WP.seq ?_
              refine WP.reg ?_
              refine WL.e e_move <| WL.e e_neq <| WL.e e_move ?_
              refine WL.bool 118 rfl (fun y1 => ?_) (fun y1 => ?_)
              · exact absurd y1 (by decide) -- end
              · skip
                refine WL.e e_move <| WL.e e_neq <| WL.e e_pick_f <| WL.e e_move ?_
                refine WL.bool 122 rfl (fun y2 => ?_) (fun y2 => ?_)
                · exact absurd y2 (by decide) -- end
                · skip
                  refine WL.e e_move <| WL.e e_neq <| WL.e e_pick_f <| WL.e e_move ?_
                  refine WL.bool 126 rfl (fun y3 => ?_) (fun y3 => ?_)
                  · exact absurd y3 (by decide) -- end
                  · skip
                    refine WL.e e_move <| WL.e e_neq <| WL.e e_pick_f <| WL.e e_move ?_
                    refine WL.bool 130 rfl (fun y4 => ?_) (fun y4 => ?_)
                    · exact absurd y4 (by decide) -- end
                    · skip
                      refine WL.e e_move <| WL.e e_neq <| WL.e e_pick_f ?_
                      refine WL.next ?_
                      refine WP.cond_f rfl ?_
                      refine WP.skip ?_
                      refine PO.next ?_
                      refine WP.seq ?_
                      refine WP.reg ?_
                      refine WL.e e_move <| WL.e e_move ?_
                      refine WL.bool 135 rfl (fun z1 => ?_) (fun z1 => ?_)
                      · skip
                        refine WL.skip <| WL.skip <| WL.skip <| WL.skip <| WL.skip <| WL.skip <| WL.skip <| WL.skip <| WL.skip <| WL.skip <| WL.skip <| WL.skip ?_
                        refine WL.skip <| WL.e e_pick_t <| WL.e e_move ?_
                        refine WL.h (h_call (lives_spec) k29 ?_)
                        refine WL.e e_pick_t <| WL.e e_assign ?_
                        refine WL.next ?_
                        refine WP.ret ?_
                        exact PO.finE Tryz.results4 (rv_tmp rv_nil) rfl hK
                      · exact absurd z1 (by decide) -- end
          · skip
            refine WP.skip ?_
            refine PO.next ?_
            refine WP.seq ?_
            refine WP.reg ?_
            refine WL.e e_move <| WL.e (e_loadN a36) ?_
            refine WL.h (h_call (ADo_spec (s := s9) 2 (opPut kK v) h9.ok) k24 ?_)
            obtain ⟨s20, e0, h20⟩ := h9.put (n := 2) rfl (x := opPut kK v) (by rw [put_ok]; exact keyK) (in_one _) rfl (way_n 2 true) (by decide)
            rw [e0]
            try simp only [setU, List.map_cons, List.map_nil, List.nil_append, List.cons_append] at h20
            try simp (config := { decide := true }) only [if_true, if_false] at h20
            refine WL.e e_move <| WL.e e_extract <| WL.e e_extract ?_
            refine WL.h (h_alloc z31 fun b7 => ?_)
            refine WL.h' (h_store s31 ?_)
            refine WL.e e_assign ?_
            refine WL.next ?_
            refine WP.seq ?_
            refine WP.seq ?_
            refine WP.reg ?_
            refine WL.e e_move <| WL.e e_neq <| WL.e e_move ?_
            refine WL.bool 118 rfl (fun y1 => ?_) (fun y1 => ?_)
            · exact absurd y1 (by decide) -- end
            · skip
              refine WL.e e_move <| WL.e e_neq <| WL.e e_pick_f <| WL.e e_move ?_
              refine WL.bool 122 rfl (fun y2 => ?_) (fun y2 => ?_)
              · exact absurd y2 (by decide) -- end
              · skip
                refine WL.e e_move <| WL.e e_neq <| WL.e e_pick_f <| WL.e e_move ?_
                refine WL.bool 126 rfl (fun y3 => ?_) (fun y3 => ?_)
                · exact absurd y3 (by decide) -- end
                · skip
                  refine WL.e e_move <| WL.e e_neq <| WL.e e_pick_f <| WL.e e_move ?_
                  refine WL.bool 130 rfl (fun y4 => ?_) (fun y4 => ?_)
                  · exact absurd y4 (by decide) -- end
                  · skip
                    refine WL.e e_move <| WL.e e_neq <| WL.e e_pick_f ?_
                    refine WL.next ?_
                    refine WP.cond_f rfl ?_
                    refine WP.skip ?_
                    refine PO.next ?_
                    refine WP.seq ?_
                    refine WP.reg ?_
                    refine WL.e e_move <| WL.e e_move ?_
                    refine WL.bool 135 rfl (fun z1 => ?_) (fun z1 => ?_)
                    · skip
                      refine WL.skip <| WL.skip <| WL.skip <| WL.skip <| WL.skip <| WL.skip <| WL.skip <| WL.skip <| WL.skip <| WL.skip <| WL.skip <| WL.skip ?_
                      refine WL.skip <| WL.e e_pick_t <| WL.e e_move ?_
                      refine WL.h (h_call (lives_spec) k29 ?_)
                      refine WL.e e_pick_t <| WL.e e_assign ?_
                      refine WL.next ?_
                      refine WP.ret ?_
                      exact PO.finE Tryz.results4 (rv_tmp rv_nil) rfl hK
                    · exact absurd z1 (by decide) -- end
        · obtain rfl : wr = false := by simpa using c1
          refine WP.skip ?_
          refine PO.next ?_
          refine WP.seq ?_
          refine WP.reg ?_
          refine WL.e e_move <| WL.e e_move ?_
          refine WL.h (h_call (lput_spec kK v) k25 ?_)
          refine WL.h (h_call (ADo_spec (s := s5) 1 (opPut kK v) h5.ok) k24 ?_)
          obtain ⟨s6, e0, h6⟩ := h5.put (n := 1) rfl (x := opPut kK v) (by rw [put_ok]; exact keyK) (in_one _) rfl (way_n 1 true) (by decide)
          rw [e0]
          try simp only [setU, List.map_cons, List.map_nil, List.nil_append, List.cons_append] at h6
          try simp (config := { decide := true }) only [if_true, if_false] at h6
          rw [show lockS [] 1 (spanOf (opPut kK v)) true = l1S from lock_k1] at h6
          refine WL.e e_move <| WL.e e_extract <| WL.e e_extract ?_
          refine WL.h (h_alloc z31 fun b8 => ?_)
          refine WL.h' (h_store s31 ?_)
          refine WL.e e_assign ?_
          refine WL.next ?_
          refine WP.seq ?_
          refine WP.reg ?_
          refine WL.e e_move <| WL.e (e_loadN a36) ?_
          refine WL.h (h_call (ADo_spec (s := s6) 2 (opGet kK) h6.ok) k24 ?_)
          obtain ⟨s7, e0, h7⟩ := h6.wait (n := 2) rfl (x := opGet kK) (by rw [get_ok]; exact keyK) (in_one _) (by rw [show wayL l1S 2 (spanOf (opGet kK)) (writes (opGet kK)) = [1] from way_k _]; decide) (by rw [show wayL l1S 2 (spanOf (opGet kK)) (writes (opGet kK)) = [1] from way_k _]; exact ring_3 (by simp [edgesA, setU]) (by decide))
          rw [e0]
          try simp only [setU, List.map_cons, List.map_nil, List.nil_append, List.cons_append] at h7
          try simp (config := { decide := true }) only [if_true, if_false] at h7
          rw [show wayL l1S 2 (spanOf (opGet kK)) (writes (opGet kK)) = [1] from way_k _] at h7
          refine WL.e e_move <| WL.e e_extract <| WL.e e_extract ?_
          refine WL.h (h_alloc z31 fun b9 => ?_)
          refine WL.h' (h_store s31 ?_)
          refine WL.e e_assign ?_
          refine WL.next ?_
          refine WP.seq ?_
          refine WP.reg ?_
          refine WL.e e_move <| WL.e (e_loadN a36) ?_
          refine WL.h (h_call (ADo_spec (s := s7) 2 (opGet kK) h7.ok) k24 ?_)
          obtain ⟨s8, e0, h8⟩ := h7.wait (n := 2) rfl (x := opGet kK) (by rw [get_ok]; exact keyK) (in_one _) (by rw [show wayL l1S 2 (spanOf (opGet kK)) (writes (opGet kK)) = [1] from way_k _]; decide) (by rw [show wayL l1S 2 (spanOf (opGet kK)) (writes (opGet kK)) = [1] from way_k _]; exact ring_3 (by simp [edgesA, setU]) (by decide))
          rw [e0]
          try simp only [setU, List.map_cons, List.map_nil, List.nil_append, List.cons_append] at h8
          try simp (config := { decide := true }) only [if_true, if_false] at h8
          rw [show wayL l1S 2 (spanOf (opGet kK)) (writes (opGet kK)) = [1] from way_k _] at h8
          refine WL.e e_move <| WL.e e_extract <| WL.e e_extract ?_
          refine WL.h (h_alloc z31 fun b10 => ?_)
          refine WL.h' (h_store s31 ?_)
          refine WL.e e_assign ?_
          refine WL.next ?_
          refine WP.seq ?_
          refine WP.reg ?_
          refine WL.e e_move ?_
          refine WL.h (h_call (AAbort_spec (s := s8) 1 h8.ok) k28 ?_)
          obtain ⟨e0, h9⟩ := h8.aboA (n := 1) rfl
          rw [e0]
          generalize aboS alphaI s8 1 = s9 at h9 ⊢
          rw [free_k1] at h9
          try simp (config := { decide := true }) only [delU, List.eraseP_cons, decide_true, decide_false, cond_true, cond_false, List.nil_append, List.cons_append] at h9
          refine WL.e e_assign ?_
          refine WL.next ?_
          refine WP.seq ?_
          refine WP.reg ?_
          refine WL.e e_move <| WL.e e_assign ?_
          refine WL.next ?_
          refine WP.seq ?_
          refine WP.seq ?_
          refine WP.reg ?_
          refine WL.e e_move ?_
          refine WL.next ?_
          refine WP.cond rfl (fun c2 => ?_) (fun c2 => ?_)
          · skip
            refine WP.seq ?_
            refine WP.seq ?_
            refine WP.reg ?_
            refine WL.e e_move <| WL.e e_neq <| WL.e e_move ?_
            refine WL.bool 84 rfl (fun g1 => ?_) (fun g1 => ?_)
            · exact absurd g1 (by decide) -- end
            · skip
              refine WL.e e_move ?_
              refine WL.h (h_call (ABegin_spec (s := s9) 1) k23 ?_)
              intro q4
              obtain ⟨e0, h10⟩ := h9.beg 1 q4 (by decide) (by rfl) (by simp)
              rw [e0]
              generalize begS s9 1 q4 = s10 at h10 ⊢
              simp only [List.nil_append, List.cons_append] at h10
              refine WL.e e_neq <| WL.e e_pick_f ?_
              refine WL.next ?_
              refine WP.cond_f rfl ?_
              refine WP.skip ?_
              refine PO.next ?_
              refine WP.seq ?_
              refine WP.reg ?_
              refine WL.e e_move <| WL.e e_move ?_
              refine WL.h (h_call (lput_spec kK v) k25 ?_)
              refine WL.h (h_call (ADo_spec (s := s10) 1 (opPut kK v) h10.ok) k24 ?_)
              obtain ⟨s11, e0, h11⟩ := h10.put (n := 1) rfl (x := opPut kK v) (by rw [put_ok]; exact keyK) (in_one _) rfl (way_n 1 true) (by decide)
              rw [e0]
              try simp only [setU, List.map_cons, List.map_nil, List.nil_append, List.cons_append] at h11
              try simp (config := { decide := true }) only [if_true, if_false] at h11
              rw [show lockS [] 1 (spanOf (opPut kK v)) true = l1S from lock_k1] at h11
              refine WL.e e_move <| WL.e e_extract <| WL.e e_extract <| WL.e e_assign ?_
              refine WL.next ?_
              refine WP.seq ?_
              refine WP.reg ?_
              refine WL.e e_move <| WL.e (e_loadN a36) ?_
              refine WL.h (h_call (ADo_spec (s := s11) 2 (opGet kK) h11.ok) k24 ?_)
              obtain ⟨s12, e0, h12⟩ := h11.wait (n := 2) rfl (x := opGet kK) (by rw [get_ok]; exact keyK) (in_one _) (by rw [show wayL l1S 2 (spanOf (opGet kK)) (writes (opGet kK)) = [1] from way_k _]; decide) (by rw [show wayL l1S 2 (spanOf (opGet kK)) (writes (opGet kK)) = [1] from way_k _]; exact ring_3 (by simp [edgesA, setU]) (by decide))
              rw [e0]
              try simp only [setU, List.map_cons, List.map_nil, List.nil_append, List.cons_append] at h12
              try simp (config := { decide := true }) only [if_true, if_false] at h12
              rw [show wayL l1S 2 (spanOf (opGet kK)) (writes (opGet kK)) = [1] from way_k _] at h12
              refine WL.e e_move <| WL.e e_extract <| WL.e e_extract <| WL.e e_assign ?_
              refine WL.next ?_
              refine WP.seq ?_
              refine WP.seq ?_
              refine WP.reg ?_
              refine WL.e e_move <| WL.e e_eql ?_
              refine WL.next ?_
              refine WP.cond_f rfl ?_
              refine WP.skip ?_
              refine PO.next ?_
              refine WP.seq ?_
              refine WP.reg ?_
              refine WL.e e_move ?_
              refine WL.h (h_call (ACommit_spec (s := s12) 1 h12.ok (by decide)) k26 ?_)
              obtain ⟨e0, e1, h13⟩ := h12.comA (n := 1) rfl (by simp) (by simp) (by decide)
              rw [e0, e1]
              generalize comS alphaI s12 1 = s13 at h13 ⊢
              rw [free_k1] at h13
              try simp (config := { decide := true }) only [delU, List.eraseP_cons, decide_true, decide_false, cond_true, cond_false, List.nil_append, List.cons_append] at h13
              refine WL.e e_move <| WL.e e_extract <| WL.e e_extract <| WL.e e_assign ?_
              refine WL.next ?_
              refine WP.reg ?_
              refine WL.e e_move <| WL.e e_assign ?_
              refine WL.next ?_
              refine WP.seq ?_
              refine WP.reg ?_
              refine WL.e e_move <| WL.e (e_loadN a36) ?_
              refine WL.h (h_call (ADo_spec (s := s13) 2 (opGet kK) h13.ok) k24 ?_)
              obtain ⟨s20, e0, h20⟩ := h13.get (n := 2) rfl (x := opGet kK) (by rw [get_ok]; exact keyK) (in_one _) rfl (way_n 2 false) (by decide)
              rw [e0.trans (congrArg (DoS.look s20) (show _ = [(⟨kK, v⟩ : RowM)] from (congrArg (fun l => scanR l (one kK) 256) (put_other kK w v)).trans (scan_one1 kK v 256 (by decide))))]
              try simp only [setU, List.map_cons, List.map_nil, List.nil_append, List.cons_append] at h20
              try simp (config := { decide := true }) only [if_true, if_false] at h20
              intro a1 m1 c1
              refine WL.e e_move <| WL.e e_extract <| WL.e e_extract ?_
              refine WL.h (h_alloc z31 fun b11 => ?_)
              refine WL.h' (h_store s31 ?_)
              refine WL.e e_assign ?_
              refine WL.next ?_
              refine WP.seq ?_
              refine WP.seq ?_
              refine WP.reg ?_
              refine WL.e e_move <| WL.e e_neq <| WL.e e_move ?_
              refine WL.bool 118 rfl (fun y1 => ?_) (fun y1 => ?_)
              · exact absurd y1 (by decide) -- end
              · skip
                refine WL.e e_move <| WL.e e_neq <| WL.e e_pick_f <| WL.e e_move ?_
                refine WL.bool 122 rfl (fun y2 => ?_) (fun y2 => ?_)
                · exact absurd y2 (by decide) -- end
                · skip
                  refine WL.e e_move <| WL.e e_neq <| WL.e e_pick_f <| WL.e e_move ?_
                  refine WL.bool 126 rfl (fun y3 => ?_) (fun y3 => ?_)
                  · exact absurd y3 (by decide) -- end
                  · skip
                    refine WL.e e_move <| WL.e e_neq <| WL.e e_pick_f <| WL.e e_move ?_
                    refine WL.bool 130 rfl (fun y4 => ?_) (fun y4 => ?_)
                    · exact absurd y4 (by decide) -- end
                    · skip
                      refine WL.e e_move <| WL.e e_neq <| WL.e e_pick_f ?_
                      refine WL.next ?_
                      refine WP.cond_f rfl ?_
                      refine WP.skip ?_
                      refine PO.next ?_
                      refine WP.seq ?_
                      refine WP.reg ?_
                      refine WL.e e_move <| WL.e e_move ?_
                      refine WL.bool 135 rfl (fun z1 => ?_) (fun z1 => ?_)
                      · exact absurd z1 (by decide) -- end
                      · skip
                        refine WL.e (e_fa f31_0) <| WL.e (e_load a29) ?_
                        refine WL.e (el_len (xs := [(⟨kK, v⟩ : RowM)]) sl29 sl_rl) <| WL.e e_eql <| WL.e e_move ?_
                        refine WL.bool 140 rfl (fun z2 => ?_) (fun z2 => ?_)
                        · skip
                          refine WL.e (e_fa f31_0) <| WL.e (e_load a29) ?_
                          refine WL.e (el_ia (j := 0) (xs := [(⟨kK, v⟩ : RowM)]) sl29 sl_rl (by simp)) ?_
                          refine WL.e (el_fa (z := 2) (j := 0) (xs := [(⟨kK, v⟩ : RowM)]) f40_1 sl_rl (by simp)) ?_
                          refine WL.e (el_load (j := 0) (f := 1) (a := (⟨kK, v⟩ : RowM)) a22 rowE (sl_rl (xs := [(⟨kK, v⟩ : RowM)])) rfl) <| WL.e e_move <| WL.e (e_eql32) <| WL.e e_pick_t <| WL.e e_pick_f <| WL.e e_move ?_
                          refine WL.bool 150 rfl (fun z3 => ?_) (fun z3 => ?_)
                          · skip
                            refine WL.h (h_call (lives_spec) k29 ?_)
                            refine WL.e e_pick_t <| WL.e e_assign ?_
                            refine WL.next ?_
                            refine WP.ret ?_
                            exact PO.finE Tryz.results4 (rv_tmp rv_nil) rfl hK
                          · exact absurd z3 (by simp) -- end
                        · exact absurd z2 (by simp) -- end
          · skip
            refine WP.skip ?_
            refine PO.next ?_
            refine WP.seq ?_
            refine WP.reg ?_
            refine WL.e e_move <| WL.e (e_loadN a36) ?_
            refine WL.h (h_call (ADo_spec (s := s9) 2 (opGet kK) h9.ok) k24 ?_)
            obtain ⟨s20, e0, h20⟩ := h9.get (n := 2) rfl (x := opGet kK) (by rw [get_ok]; exact keyK) (in_one _) rfl (way_n 2 false) (by decide)
            rw [e0.trans (congrArg (DoS.look s20) (show _ = [(⟨kK, w⟩ : RowM)] from scan_one1 kK w 256 (by decide)))]
            try simp only [setU, List.map_cons, List.map_nil, List.nil_append, List.cons_append] at h20
            try simp (config := { decide := true }) only [if_true, if_false] at h20
            intro a1 m1 c1
            refine WL.e e_move <| WL.e e_extract <| WL.e e_extract ?_
            refine WL.h (h_alloc z31 fun b12 => ?_)
            refine WL.h' (h_store s31 ?_)
            refine WL.e e_assign ?_
            refine WL.next ?_
            refine WP.seq ?_
            refine WP.seq ?_
            refine WP.reg ?_
            refine WL.e e_move <| WL.e e_neq <| WL.e e_move ?_
            refine WL.bool 118 rfl (fun y1 => ?_) (fun y1 => ?_)
            · exact absurd y1 (by decide) -- end
            · skip
              refine WL.e e_move <| WL.e e_neq <| WL.e e_pick_f <| WL.e e_move ?_
              refine WL.bool 122 rfl (fun y2 => ?_) (fun y2 => ?_)
              · exact absurd y2 (by decide) -- end
              · skip
                refine WL.e e_move <| WL.e e_neq <| WL.e e_pick_f <| WL.e e_move ?_
                refine WL.bool 126 rfl (fun y3 => ?_) (fun y3 => ?_)
                · exact absurd y3 (by decide) -- end
                · skip
                  refine WL.e e_move <| WL.e e_neq <| WL.e e_pick_f <| WL.e e_move ?_
                  refine WL.bool 130 rfl (fun y4 => ?_) (fun y4 => ?_)
                  · exact absurd y4 (by decide) -- end
                  · skip
                    refine WL.e e_move <| WL.e e_neq <| WL.e e_pick_f ?_
                    refine WL.next ?_
                    refine WP.cond_f rfl ?_
                    refine WP.skip ?_
                    refine PO.next ?_
                    refine WP.seq ?_
                    refine WP.reg ?_
                    refine WL.e e_move <| WL.e e_move ?_
                    refine WL.bool 135 rfl (fun z1 => ?_) (fun z1 => ?_)
                    · exact absurd z1 (by decide) -- end
                    · skip
                      refine WL.e (e_fa f31_0) <| WL.e (e_load a29) ?_
                      refine WL.e (el_len (xs := [(⟨kK, w⟩ : RowM)]) sl29 sl_rl) <| WL.e e_eql <| WL.e e_move ?_
                      refine WL.bool 140 rfl (fun z2 => ?_) (fun z2 => ?_)
                      · skip
                        refine WL.e (e_fa f31_0) <| WL.e (e_load a29) ?_
                        refine WL.e (el_ia (j := 0) (xs := [(⟨kK, w⟩ : RowM)]) sl29 sl_rl (by simp)) ?_
                        refine WL.e (el_fa (z := 2) (j := 0) (xs := [(⟨kK, w⟩ : RowM)]) f40_1 sl_rl (by simp)) ?_
                        refine WL.e (el_load (j := 0) (f := 1) (a := (⟨kK, w⟩ : RowM)) a22 rowE (sl_rl (xs := [(⟨kK, w⟩ : RowM)])) rfl) <| WL.e e_move <| WL.e (e_eql32) <| WL.e e_pick_t <| WL.e e_pick_f <| WL.e e_move ?_
                        refine WL.bool 150 rfl (fun z3 => ?_) (fun z3 => ?_)
                        · skip
                          refine WL.h (h_call (lives_spec) k29 ?_)
                          refine WL.e e_pick_t <| WL.e e_assign ?_
                          refine WL.next ?_
                          refine WP.ret ?_
                          exact PO.finE Tryz.results4 (rv_tmp rv_nil) rfl hK
                        · exact absurd z3 (by simp) -- end
                      · exact absurd z2 (by simp) -- end
end Go.SL
/- From the row to the walk: a slice of structs that came in is read as a list. -/
set_option linter.unusedSimpArgs false
set_option linter.unusedVariables false
set_option linter.unusedSectionVars false
namespace Go.SL
open Go Go.ChangeShapes Go.Deep
end Go.SL
