import Derived.Test.YtdfomffmfnpfoaaM0
import Derived.Test.YtdfomffmfnpfoaaProg
import Derived.KernelRfl
set_option linter.unusedSimpArgs false
set_option linter.unusedVariables false
namespace Go.SL.W0
open Go Go.Proofs Go.SL
theorem a23 : aggOf Try.prog 23 = some (some 2) := by kernel_rfl
theorem a24 : aggOf Try.prog 24 = some none := by kernel_rfl
theorem a33 : aggOf Try.prog 33 = some none := by kernel_rfl
theorem a9 : aggOf Try.prog 9 = some none := by kernel_rfl
theorem f23_0 : fldOf Try.prog 23 0 = some 0 := by kernel_rfl
theorem f23_1 : fldOf Try.prog 23 1 = some 1 := by kernel_rfl
theorem f35_0 : fldOf Try.prog 35 0 = some 0 := by kernel_rfl
theorem f35_1 : fldOf Try.prog 35 1 = some 1 := by kernel_rfl
theorem f35_2 : fldOf Try.prog 35 2 = some 2 := by kernel_rfl
theorem f35_3 : fldOf Try.prog 35 3 = some 3 := by kernel_rfl
theorem k31 : callable Try.prog 31 = true := by kernel_rfl
theorem k35 : callable Try.prog 35 = true := by kernel_rfl
theorem k69 : callable Try.prog 69 = true := by kernel_rfl
theorem k70 : callable Try.prog 70 = true := by kernel_rfl
theorem p23 : placesOf Try.prog 23 = some [(0, 1), (1, 1)] := by kernel_rfl
theorem s23 : szOf Try.prog 23 = some 2 := by kernel_rfl
theorem s9 : szOf Try.prog 9 = some 1 := by kernel_rfl
theorem z23 : zeroOf Try.prog 23 = some [.string .empty, .string .empty] := by kernel_rfl
end Go.SL.W0
namespace Go.SL
open Go Go.Proofs W0
theorem In_spec {g : World} (k a b : ByteArray) : Spec Try.prog g 31 [.string k, .string a, .string b] [] fun K R => K (.bool (sIn k a b)) R := by
  refine Spec.intro Try.func31 rfl Try.ntmps31 rfl fun R K hK => ?_
  refine WP.seq ?_
  refine WP.reg ?_
  refine WL.e e_assign ?_
  refine WL.next ?_
  refine WP.seq ?_
  refine WP.reg ?_
  refine WL.e e_move <| WL.e e_move <| WL.e e_sle <| WL.e e_move ?_
  refine WL.join 14 (.bool (sIn k a b)) (.c (.c (.c (.c .n)))) ?_ ?_
  · refine WL.bool 10 rfl (fun hg => ?_) (fun hg => ?_)
    · skip
      refine WL.e e_move <| WL.e e_move <| WL.e e_sle <| WL.e e_pick_t ?_
      exact WL.nil (PO.joined rfl (by simp [sIn, hg]))
    · skip
      refine WL.skip <| WL.skip <| WL.skip <| WL.e e_pick_f ?_
      exact WL.nil (PO.joined rfl (by simp [sIn, hg]))
  refine WL.e e_assign ?_
  refine WL.next ?_
  refine WP.ret ?_
  exact PO.fin Try.results31 (rv_tmp rv_nil) hK

theorem Of_spec {g : World} (x : OpM) : Spec Try.prog g 18 [x.v] [] fun K R => K (spanOf x).v R := by
  refine Spec.intro Try.func18 rfl Try.ntmps18 rfl fun R K hK => ?_
  refine WP.seq ?_
  refine WP.reg ?_
  refine WL.h (h_box fun b1 => ?_)
  refine WL.h (h_alloc z23 fun b2 => ?_)
  refine WL.next ?_
  refine WP.seq ?_
  refine WP.seq ?_
  refine WP.reg ?_
  refine WL.e (e_fa f35_0) <| WL.e (e_load a33) <| WL.e (e_neq8 (b := 4)) ?_
  refine WL.next ?_
  refine WP.cond rfl (fun h => ?_) (fun h => ?_)
  · replace h : x.kind ≠ 4 := by simpa using h
    refine WP.reg ?_
    refine WL.e (e_fa f35_1) <| WL.e (e_load a9) <| WL.e (e_fa f35_2) ?_
    refine WL.h' (h_store s9 ?_)
    refine WL.next ?_
    refine WP.seq ?_
    refine WP.reg ?_
    refine WL.e (e_fa f35_1) <| WL.e (e_load a9) <| WL.e (e_fa f35_2) <| WL.e (e_load a9) <| WL.e (e_build z23 p23 (.o (.tmp 10) rfl <| .o (.tmp 12) rfl <| .n)) ?_
    refine WL.h' (h_store s23 ?_)
    refine WL.next ?_
    refine WP.ret ?_
    exact PO.fin Try.results18 (rv_cellN a23 rv_nil) (by simpa [spanOf, h, SpanM.v] using hK)
  · replace h : x.kind = 4 := by simpa using h
    refine WP.skip ?_
    refine PO.next ?_
    refine WP.seq ?_
    refine WP.reg ?_
    refine WL.e (e_fa f35_1) <| WL.e (e_load a9) <| WL.e (e_fa f35_2) <| WL.e (e_load a9) <| WL.e (e_build z23 p23 (.o (.tmp 10) rfl <| .o (.tmp 12) rfl <| .n)) ?_
    refine WL.h' (h_store s23 ?_)
    refine WL.next ?_
    refine WP.ret ?_
    exact PO.fin Try.results18 (rv_cellN a23 rv_nil) (by simpa [spanOf, h, SpanM.v] using hK)

theorem Meet_spec {g : World} (a b : SpanM) : Spec Try.prog g 11 [a.v, b.v] [] fun K R => K (.bool (meet a b)) R := by
  refine Spec.intro Try.func11 rfl Try.ntmps11 rfl fun R K hK => ?_
  refine WP.seq ?_
  refine WP.reg ?_
  refine WL.h (h_box fun b1 => ?_)
  refine WL.h (h_box fun b2 => ?_)
  refine WL.e e_assign ?_
  refine WL.next ?_
  refine WP.seq ?_
  refine WP.reg ?_
  refine WL.e (e_fa f23_0) <| WL.e (e_load a9) <| WL.e (e_fa f23_0) <| WL.e (e_load a9) <| WL.e e_maxS <| WL.e e_assign ?_
  refine WL.next ?_
  refine WP.seq ?_
  refine WP.reg ?_
  refine WL.e e_move <| WL.e (e_fa f23_0) <| WL.e (e_load a9) <| WL.e (e_fa f23_1) <| WL.e (e_load a9) ?_
  refine WL.h (h_call (In_spec _ _ _) k31 ?_)
  refine WL.e e_move ?_
  refine WL.join 24 (.bool (meet a b)) (.c (.c (.c (.c (.c (.c (.c .n))))))) ?_ ?_
  · refine WL.bool 17 rfl (fun hg => ?_) (fun hg => ?_)
    · skip
      refine WL.e e_move <| WL.e (e_fa f23_0) <| WL.e (e_load a9) <| WL.e (e_fa f23_1) <| WL.e (e_load a9) ?_
      refine WL.h (h_call (In_spec _ _ _) k31 ?_)
      refine WL.e e_pick_t ?_
      exact WL.nil (PO.joined rfl (by simp [meet, hg]))
    · skip
      refine WL.skip <| WL.skip <| WL.skip <| WL.skip <| WL.skip <| WL.skip <| WL.e e_pick_f ?_
      exact WL.nil (PO.joined rfl (by simp [meet, hg]))
  refine WL.e e_assign ?_
  refine WL.next ?_
  refine WP.ret ?_
  exact PO.fin Try.results11 (rv_tmp rv_nil) hK

theorem one_spec {g : World} (k : ByteArray) : Spec Try.prog g 36 [.string k] [] fun K R => K (one k).v R := by
  refine Spec.intro Try.func36 rfl Try.ntmps36 rfl fun R K hK => ?_
  refine WP.seq ?_
  refine WP.reg ?_
  refine WL.h (h_alloc z23 fun b1 => ?_)
  refine WL.next ?_
  refine WP.seq ?_
  refine WP.reg ?_
  refine WL.e e_move <| WL.e e_move <| WL.e (e_build z23 p23 (.o (.tmp 3) rfl <| .o (.tmp 4) rfl <| .n)) ?_
  refine WL.h' (h_store s23 ?_)
  refine WL.next ?_
  refine WP.ret ?_
  exact PO.fin Try.results36 (rv_cellN a23 rv_nil) hK

theorem Writes_spec {g : World} (x : OpM) : Spec Try.prog g 19 [x.v] [] fun K R => K (.bool (writes x)) R := by
  refine Spec.intro Try.func19 rfl Try.ntmps19 rfl fun R K hK => ?_
  refine WP.seq ?_
  refine WP.reg ?_
  refine WL.h (h_box fun b1 => ?_)
  refine WL.e e_assign ?_
  refine WL.next ?_
  refine WP.seq ?_
  refine WP.reg ?_
  refine WL.e (e_fa f35_0) <| WL.e (e_load a33) <| WL.e (e_eql8 (b := 2)) <| WL.e e_move ?_
  refine WL.bool 6 rfl (fun g1 => ?_) (fun g1 => ?_)
  · skip
    refine WL.skip <| WL.skip <| WL.skip <| WL.e e_pick_t <| WL.e e_assign ?_
    refine WL.next ?_
    refine WP.ret ?_
    exact PO.finE Try.results19 (rv_tmp rv_nil) (by simp_all [writes]) hK
  · skip
    refine WL.e (e_fa f35_0) <| WL.e (e_load a33) <| WL.e (e_eql8 (b := 3)) <| WL.e e_pick_f <| WL.e e_assign ?_
    refine WL.next ?_
    refine WP.ret ?_
    exact PO.finE Try.results19 (rv_tmp rv_nil) (by simp_all [writes]) hK

theorem KeyRune_spec {g : World} (c : Int) : Spec Try.prog g 70 [.int .i32 c] [] fun K R => K (.bool (keyRune c)) R := by
  refine Spec.intro Try.func70 rfl Try.ntmps70 rfl fun R K hK => ?_
  refine WP.seq ?_
  refine WP.reg ?_
  refine WL.e e_assign ?_
  refine WL.next ?_
  refine WP.seq ?_
  refine WP.reg ?_
  refine WL.e e_move <| WL.e e_geq <| WL.e e_move ?_
  refine WL.bool 5 rfl (fun g1 => ?_) (fun g1 => ?_)
  · skip
    refine WL.e e_move <| WL.e e_leq <| WL.e e_pick_t <| WL.e e_move ?_
    refine WL.bool 9 rfl (fun g2 => ?_) (fun g2 => ?_)
    · skip
      refine WL.skip <| WL.skip <| WL.skip <| WL.skip <| WL.skip <| WL.skip <| WL.e e_pick_t <| WL.e e_move <| WL.skip <| WL.skip <| WL.e e_pick_t <| WL.e e_assign ?_
      refine WL.next ?_
      refine WP.ret ?_
      exact PO.finE Try.results70 (rv_tmp rv_nil) (by simp_all [keyRune] <;> (intros; omega)) hK
    · skip
      refine WL.e e_move <| WL.e e_geq <| WL.e e_move ?_
      refine WL.bool 12 rfl (fun g3 => ?_) (fun g3 => ?_)
      · skip
        refine WL.e e_move <| WL.e e_leq <| WL.e e_pick_t <| WL.e e_pick_f <| WL.e e_move ?_
        refine WL.bool 17 rfl (fun g4 => ?_) (fun g4 => ?_)
        · skip
          refine WL.skip <| WL.skip <| WL.e e_pick_t <| WL.e e_assign ?_
          refine WL.next ?_
          refine WP.ret ?_
          exact PO.finE Try.results70 (rv_tmp rv_nil) (by simp_all [keyRune] <;> (intros; omega)) hK
        · skip
          refine WL.e e_move <| WL.e e_eql <| WL.e e_pick_f <| WL.e e_assign ?_
          refine WL.next ?_
          refine WP.ret ?_
          exact PO.finE Try.results70 (rv_tmp rv_nil) (by simp_all [keyRune] <;> (intros; omega)) hK
      · skip
        refine WL.skip <| WL.skip <| WL.e e_pick_f <| WL.e e_pick_f <| WL.e e_move <| WL.e e_move <| WL.e e_eql <| WL.e e_pick_f <| WL.e e_assign ?_
        refine WL.next ?_
        refine WP.ret ?_
        exact PO.finE Try.results70 (rv_tmp rv_nil) (by simp_all [keyRune] <;> (intros; omega)) hK
  · skip
    refine WL.skip <| WL.skip <| WL.e e_pick_f <| WL.e e_move <| WL.e e_move <| WL.e e_geq <| WL.e e_move ?_
    refine WL.bool 12 rfl (fun g5 => ?_) (fun g5 => ?_)
    · skip
      refine WL.e e_move <| WL.e e_leq <| WL.e e_pick_t <| WL.e e_pick_f <| WL.e e_move ?_
      refine WL.bool 17 rfl (fun g6 => ?_) (fun g6 => ?_)
      · skip
        refine WL.skip <| WL.skip <| WL.e e_pick_t <| WL.e e_assign ?_
        refine WL.next ?_
        refine WP.ret ?_
        exact PO.finE Try.results70 (rv_tmp rv_nil) (by simp_all [keyRune] <;> (intros; omega)) hK
      · skip
        refine WL.e e_move <| WL.e e_eql <| WL.e e_pick_f <| WL.e e_assign ?_
        refine WL.next ?_
        refine WP.ret ?_
        exact PO.finE Try.results70 (rv_tmp rv_nil) (by simp_all [keyRune] <;> (intros; omega)) hK
    · skip
      refine WL.skip <| WL.skip <| WL.e e_pick_f <| WL.e e_pick_f <| WL.e e_move <| WL.e e_move <| WL.e e_eql <| WL.e e_pick_f <| WL.e e_assign ?_
      refine WL.next ?_
      refine WP.ret ?_
      exact PO.finE Try.results70 (rv_tmp rv_nil) (by simp_all [keyRune] <;> (intros; omega)) hK

theorem all_spec {g : World} (s : ByteArray) {y : Value} {p : Int → Bool} (hy : ∀ c, CallV Try.prog g y [.int .i32 c] [] fun K R => K (.bool (p c)) R) : Spec Try.prog g 69 [.string s, y] [] fun K R => K (.bool (allR p s)) R := by
  refine Spec.intro Try.func69 rfl Try.ntmps69 rfl fun R K hK => ?_
  refine WP.seq ?_
  refine WP.reg ?_
  refine WL.e e_assign ?_
  refine WL.next ?_
  refine WP.seq ?_
  refine WP.seq ?_
  refine WP.reg ?_
  refine WL.e e_move ?_
  refine WL.h (h_range_str Try.underlying9 fun i => ?_)
  refine WL.next ?_
  refine WP.block ?_
  refine WP.loopK (fun (x : Nat × Nat) => []) (fun (x : Nat × Nat) => pt i (.stringIter s x.2) :: R) [(1, _), (8, _)] (fun (x : Nat × Nat) => s.size ≤ x.2 + x.1 ∧ allFrom p s x.1 x.2 = allR p s) (fun (x : Nat × Nat) => x.1) (s.size, 0) (⟨by simp, rfl⟩) ?_
  rintro ⟨k, q⟩ ⟨hx1, hx2⟩
  simp only at hx1 hx2
  refine WP.seq ?_
  refine WP.reg ?_
  refine WL.h (h_next_str (fun h => ?_) (fun h => ?_))
  · skip
    refine WL.e e_extract ?_
    refine WL.next ?_
    refine WP.seq ?_
    refine WP.cond_f rfl ?_
    refine WP.exit ?_
    refine PO.past nofun ?_
    refine PO.round nofun ?_
    refine PO.blockX ?_
    refine PO.next ?_
    refine WP.seq ?_
    refine WP.reg ?_
    refine WL.e e_assign ?_
    refine WL.next ?_
    refine WP.ret ?_
    exact PO.finE Try.results69 (rv_tmp rv_nil) (by rw [← hx2]; cases k <;> simp [allFrom, h]) hK
  · have hk : k = (k - 1) + 1 := by omega
    have hx3 : p (Utf8.decode s q).1 = true → allFrom p s (k - 1) (q + (Utf8.decode s q).2) = allR p s := by rw [hk] at hx2; simp only [allFrom, h, if_true] at hx2; intro e; simpa [e] using hx2
    refine WL.e e_extract ?_
    refine WL.next ?_
    refine WP.seq ?_
    refine WP.cond_t rfl ?_
    refine WP.skip ?_
    refine PO.next ?_
    refine WP.block ?_
    refine WP.seq ?_
    refine WP.reg ?_
    refine WL.e e_extract <| WL.e e_assign ?_
    refine WL.next ?_
    refine WP.seq ?_
    refine WP.reg ?_
    refine WL.e e_move <| WL.e e_move ?_
    refine WL.h (h_cally (hy _) ?_)
    refine WL.e e_not ?_
    refine WL.next ?_
    refine WP.cond rfl (fun hc => ?_) (fun hc => ?_)
    · skip
      refine WP.seq ?_
      refine WP.reg ?_
      refine WL.e e_assign ?_
      refine WL.next ?_
      refine WP.ret ?_
      refine PO.blockR ?_
      refine PO.round nofun ?_
      refine PO.blockR ?_
      refine PO.past nofun ?_
      exact PO.finE Try.results69 (rv_tmp rv_nil) (by rw [← hx2, hk]; simp at hc; simp [allFrom, h, hc]) hK
    · replace hc : p (Utf8.decode s q).1 = true := by simpa using hc
      refine WP.skip ?_
      refine PO.blockN ?_
      exact PO.againK (k - 1, q + (Utf8.decode s q).2) ⟨by have := width_pos s q h; omega, hx3 hc⟩ (by omega)

theorem Check_spec {g : World} (k : ByteArray) : Spec Try.prog g 35 [.string k] [] fun K R => K (.bool (keyOk k)) R := by
  refine Spec.intro Try.func35 rfl Try.ntmps35 rfl fun R K hK => ?_
  refine WP.seq ?_
  refine WP.reg ?_
  refine WL.e e_assign ?_
  refine WL.next ?_
  refine WP.seq ?_
  refine WP.reg ?_
  refine WL.e e_move <| WL.e e_sne <| WL.e e_move ?_
  refine WL.bool 5 rfl (fun g1 => ?_) (fun g1 => ?_)
  · skip
    refine WL.e e_move <| WL.e (e_len_str Try.underlying9) <| WL.e e_leq <| WL.e e_pick_t <| WL.e e_move ?_
    refine WL.bool 10 rfl (fun g2 => ?_) (fun g2 => ?_)
    · skip
      refine WL.e e_move ?_
      refine WL.h (h_call (all_spec _ (p := keyRune) fun c => CallV.of_spec (fs := []) (cs := []) (KeyRune_spec c) k70) k69 ?_)
      refine WL.e e_pick_t <| WL.e e_assign ?_
      refine WL.next ?_
      refine WP.ret ?_
      exact PO.finE Try.results35 (rv_tmp rv_nil) (by simp_all [keyOk] <;> (intros; omega)) hK
    · skip
      refine WL.skip <| WL.skip <| WL.e e_pick_f <| WL.e e_assign ?_
      refine WL.next ?_
      refine WP.ret ?_
      exact PO.finE Try.results35 (rv_tmp rv_nil) (by simp_all [keyOk] <;> (intros; omega)) hK
  · skip
    refine WL.skip <| WL.skip <| WL.skip <| WL.e e_pick_f <| WL.e e_move <| WL.skip <| WL.skip <| WL.e e_pick_f <| WL.e e_assign ?_
    refine WL.next ?_
    refine WP.ret ?_
    exact PO.finE Try.results35 (rv_tmp rv_nil) (by simp_all [keyOk] <;> (intros; omega)) hK

theorem opCheck_spec {g : World} (x : OpM) : Spec Try.prog g 17 [x.v] [] fun K R => K (.bool (opOk x)) R := by
  refine Spec.intro Try.func17 rfl Try.ntmps17 rfl fun R K hK => ?_
  refine WP.seq ?_
  refine WP.reg ?_
  refine WL.h (h_box fun b1 => ?_)
  refine WL.e e_assign ?_
  refine WL.next ?_
  refine WP.seq ?_
  refine WP.reg ?_
  refine WL.e (e_fa f35_2) <| WL.e (e_load a9) <| WL.e e_seq <| WL.e e_assign ?_
  refine WL.next ?_
  refine WP.seq ?_
  refine WP.seq ?_
  refine WP.reg ?_
  refine WL.e (e_fa f35_0) <| WL.e (e_load a33) <| WL.e (e_eql8 (b := 4)) ?_
  refine WL.next ?_
  refine WP.cond rfl (fun g1 => ?_) (fun g1 => ?_)
  · skip
    refine WP.reg ?_
    refine WL.e (e_fa f35_2) <| WL.e (e_load a9) ?_
    refine WL.h (h_call (Check_spec _) k35 ?_)
    refine WL.e e_assign ?_
    refine WL.next ?_
    refine WP.seq ?_
    refine WP.reg ?_
    refine WL.e (e_fa f35_0) <| WL.e (e_load a33) <| WL.e e_geq <| WL.e e_move ?_
    refine WL.bool 16 rfl (fun g2 => ?_) (fun g2 => ?_)
    · skip
      refine WL.e (e_fa f35_0) <| WL.e (e_load a33) <| WL.e e_leq <| WL.e e_pick_t <| WL.e e_move ?_
      refine WL.bool 21 rfl (fun g3 => ?_) (fun g3 => ?_)
      · skip
        refine WL.e (e_fa f35_1) <| WL.e (e_load a9) ?_
        refine WL.h (h_call (Check_spec _) k35 ?_)
        refine WL.e e_pick_t <| WL.e e_move ?_
        refine WL.bool 26 rfl (fun g4 => ?_) (fun g4 => ?_)
        · skip
          refine WL.e e_move <| WL.e e_pick_t <| WL.e e_move ?_
          refine WL.bool 29 rfl (fun g5 => ?_) (fun g5 => ?_)
          · skip
            refine WL.e (e_fa f35_3) <| WL.e (e_load a24) <| WL.e (e_eql32 (b := 0)) <| WL.e e_move ?_
            refine WL.bool 33 rfl (fun g6 => ?_) (fun g6 => ?_)
            · skip
              refine WL.skip <| WL.skip <| WL.skip <| WL.e e_pick_t <| WL.e e_pick_t <| WL.e e_assign ?_
              refine WL.next ?_
              refine WP.ret ?_
              exact PO.finE Try.results17 (rv_tmp rv_nil) (by simp_all [opOk] <;> (intros; omega)) hK
            · skip
              refine WL.e (e_fa f35_0) <| WL.e (e_load a33) <| WL.e (e_eql8 (b := 2)) <| WL.e e_pick_f <| WL.e e_pick_t <| WL.e e_assign ?_
              refine WL.next ?_
              refine WP.ret ?_
              exact PO.finE Try.results17 (rv_tmp rv_nil) (by simp_all [opOk] <;> (intros; omega)) hK
          · skip
            refine WL.skip <| WL.skip <| WL.skip <| WL.skip <| WL.skip <| WL.skip <| WL.skip <| WL.skip <| WL.e e_pick_f <| WL.e e_assign ?_
            refine WL.next ?_
            refine WP.ret ?_
            exact PO.finE Try.results17 (rv_tmp rv_nil) (by simp_all [opOk] <;> (intros; omega)) hK
        · skip
          refine WL.skip <| WL.e e_pick_f <| WL.e e_move <| WL.skip <| WL.skip <| WL.skip <| WL.skip <| WL.skip <| WL.skip <| WL.skip <| WL.skip <| WL.e e_pick_f ?_
          refine WL.e e_assign ?_
          refine WL.next ?_
          refine WP.ret ?_
          exact PO.finE Try.results17 (rv_tmp rv_nil) (by simp_all [opOk] <;> (intros; omega)) hK
      · skip
        refine WL.skip <| WL.skip <| WL.skip <| WL.e e_pick_f <| WL.e e_move <| WL.skip <| WL.e e_pick_f <| WL.e e_move <| WL.skip <| WL.skip <| WL.skip <| WL.skip ?_
        refine WL.skip <| WL.skip <| WL.skip <| WL.skip <| WL.e e_pick_f <| WL.e e_assign ?_
        refine WL.next ?_
        refine WP.ret ?_
        exact PO.finE Try.results17 (rv_tmp rv_nil) (by simp_all [opOk] <;> (intros; omega)) hK
    · skip
      refine WL.skip <| WL.skip <| WL.skip <| WL.e e_pick_f <| WL.e e_move <| WL.skip <| WL.skip <| WL.skip <| WL.e e_pick_f <| WL.e e_move <| WL.skip <| WL.e e_pick_f ?_
      refine WL.e e_move <| WL.skip <| WL.skip <| WL.skip <| WL.skip <| WL.skip <| WL.skip <| WL.skip <| WL.skip <| WL.e e_pick_f <| WL.e e_assign ?_
      refine WL.next ?_
      refine WP.ret ?_
      exact PO.finE Try.results17 (rv_tmp rv_nil) (by simp_all [opOk] <;> (intros; omega)) hK
  · skip
    refine WP.skip ?_
    refine PO.next ?_
    refine WP.seq ?_
    refine WP.reg ?_
    refine WL.e (e_fa f35_0) <| WL.e (e_load a33) <| WL.e e_geq <| WL.e e_move ?_
    refine WL.bool 16 rfl (fun g7 => ?_) (fun g7 => ?_)
    · skip
      refine WL.e (e_fa f35_0) <| WL.e (e_load a33) <| WL.e e_leq <| WL.e e_pick_t <| WL.e e_move ?_
      refine WL.bool 21 rfl (fun g8 => ?_) (fun g8 => ?_)
      · skip
        refine WL.e (e_fa f35_1) <| WL.e (e_load a9) ?_
        refine WL.h (h_call (Check_spec _) k35 ?_)
        refine WL.e e_pick_t <| WL.e e_move ?_
        refine WL.bool 26 rfl (fun g9 => ?_) (fun g9 => ?_)
        · skip
          refine WL.e e_move <| WL.e e_pick_t <| WL.e e_move ?_
          refine WL.bool 29 rfl (fun g10 => ?_) (fun g10 => ?_)
          · skip
            refine WL.e (e_fa f35_3) <| WL.e (e_load a24) <| WL.e (e_eql32 (b := 0)) <| WL.e e_move ?_
            refine WL.bool 33 rfl (fun g11 => ?_) (fun g11 => ?_)
            · skip
              refine WL.skip <| WL.skip <| WL.skip <| WL.e e_pick_t <| WL.e e_pick_t <| WL.e e_assign ?_
              refine WL.next ?_
              refine WP.ret ?_
              exact PO.finE Try.results17 (rv_tmp rv_nil) (by simp_all [opOk] <;> (intros; omega)) hK
            · skip
              refine WL.e (e_fa f35_0) <| WL.e (e_load a33) <| WL.e (e_eql8 (b := 2)) <| WL.e e_pick_f <| WL.e e_pick_t <| WL.e e_assign ?_
              refine WL.next ?_
              refine WP.ret ?_
              exact PO.finE Try.results17 (rv_tmp rv_nil) (by simp_all [opOk] <;> (intros; omega)) hK
          · skip
            refine WL.skip <| WL.skip <| WL.skip <| WL.skip <| WL.skip <| WL.skip <| WL.skip <| WL.skip <| WL.e e_pick_f <| WL.e e_assign ?_
            refine WL.next ?_
            refine WP.ret ?_
            exact PO.finE Try.results17 (rv_tmp rv_nil) (by simp_all [opOk] <;> (intros; omega)) hK
        · skip
          refine WL.skip <| WL.e e_pick_f <| WL.e e_move <| WL.skip <| WL.skip <| WL.skip <| WL.skip <| WL.skip <| WL.skip <| WL.skip <| WL.skip <| WL.e e_pick_f ?_
          refine WL.e e_assign ?_
          refine WL.next ?_
          refine WP.ret ?_
          exact PO.finE Try.results17 (rv_tmp rv_nil) (by simp_all [opOk] <;> (intros; omega)) hK
      · skip
        refine WL.skip <| WL.skip <| WL.skip <| WL.e e_pick_f <| WL.e e_move <| WL.skip <| WL.e e_pick_f <| WL.e e_move <| WL.skip <| WL.skip <| WL.skip <| WL.skip ?_
        refine WL.skip <| WL.skip <| WL.skip <| WL.skip <| WL.e e_pick_f <| WL.e e_assign ?_
        refine WL.next ?_
        refine WP.ret ?_
        exact PO.finE Try.results17 (rv_tmp rv_nil) (by simp_all [opOk] <;> (intros; omega)) hK
    · skip
      refine WL.skip <| WL.skip <| WL.skip <| WL.e e_pick_f <| WL.e e_move <| WL.skip <| WL.skip <| WL.skip <| WL.e e_pick_f <| WL.e e_move <| WL.skip <| WL.e e_pick_f ?_
      refine WL.e e_move <| WL.skip <| WL.skip <| WL.skip <| WL.skip <| WL.skip <| WL.skip <| WL.skip <| WL.skip <| WL.e e_pick_f <| WL.e e_assign ?_
      refine WL.next ?_
      refine WP.ret ?_
      exact PO.finE Try.results17 (rv_tmp rv_nil) (by simp_all [opOk] <;> (intros; omega)) hK

end Go.SL
