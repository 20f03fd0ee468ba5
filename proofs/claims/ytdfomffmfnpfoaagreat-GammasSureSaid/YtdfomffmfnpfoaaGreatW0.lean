import Derived.Test.YtdfomffmfnpfoaaGreatM0
import Derived.Test.YtdfomffmfnpfoaaGreatProg
import Derived.KernelRfl
set_option linter.unusedSimpArgs false
set_option linter.unusedVariables false
namespace Go.SL.W0
open Go Go.Proofs Go.SL
theorem a31 : aggOf Tryz.prog 31 = some none := by kernel_rfl
theorem a32 : aggOf Tryz.prog 32 = some none := by kernel_rfl
theorem a9 : aggOf Tryz.prog 9 = some none := by kernel_rfl
theorem a96 : aggOf Tryz.prog 96 = some (some 2) := by kernel_rfl
theorem f34_0 : fldOf Tryz.prog 34 0 = some 0 := by kernel_rfl
theorem f34_1 : fldOf Tryz.prog 34 1 = some 1 := by kernel_rfl
theorem f34_2 : fldOf Tryz.prog 34 2 = some 2 := by kernel_rfl
theorem f34_3 : fldOf Tryz.prog 34 3 = some 3 := by kernel_rfl
theorem f96_0 : fldOf Tryz.prog 96 0 = some 0 := by kernel_rfl
theorem f96_1 : fldOf Tryz.prog 96 1 = some 1 := by kernel_rfl
theorem k102 : callable Tryz.prog 102 = true := by kernel_rfl
theorem k56 : callable Tryz.prog 56 = true := by kernel_rfl
theorem k91 : callable Tryz.prog 91 = true := by kernel_rfl
theorem k92 : callable Tryz.prog 92 = true := by kernel_rfl
theorem p96 : placesOf Tryz.prog 96 = some [(0, 1), (1, 1)] := by kernel_rfl
theorem s9 : szOf Tryz.prog 9 = some 1 := by kernel_rfl
theorem s96 : szOf Tryz.prog 96 = some 2 := by kernel_rfl
theorem z96 : zeroOf Tryz.prog 96 = some [.string .empty, .string .empty] := by kernel_rfl
end Go.SL.W0
namespace Go.SL
open Go Go.Proofs W0
theorem In_spec {g : World} (k a b : ByteArray) : Spec Tryz.prog g 102 [.string k, .string a, .string b] [] fun K R => K (.bool (sIn k a b)) R := by
  refine Spec.intro Tryz.func102 rfl Tryz.ntmps102 rfl fun R K hK => ?_
  refine WP.seq ?_
  refine WP.reg ?_
  refine WL.e e_assign ?_
  refine WL.next ?_
  refine WP.seq ?_
  refine WP.reg ?_
  refine WL.e e_move <| WL.e e_move <| WL.e e_sle <| WL.e e_move ?_
  refine WL.join 14 (.bool (sIn k a b)) (.c (.c (.c (.c .n)))) ?_ ?_
  · refine WL.bool 10 rfl (fun hg => ?_) (fun hg => ?_)
    · skip
      refine WL.e e_move <| WL.e e_move <| WL.e e_sle <| WL.e e_pick_t ?_
      exact WL.nil (PO.joined rfl (by simp [sIn, hg]))
    · skip
      refine WL.skip <| WL.skip <| WL.skip <| WL.e e_pick_f ?_
      exact WL.nil (PO.joined rfl (by simp [sIn, hg]))
  refine WL.e e_assign ?_
  refine WL.next ?_
  refine WP.ret ?_
  exact PO.fin Tryz.results102 (rv_tmp rv_nil) hK

theorem Of_spec {g : World} (x : OpM) : Spec Tryz.prog g 34 [x.v] [] fun K R => K (spanOf x).v R := by
  refine Spec.intro Tryz.func34 rfl Tryz.ntmps34 rfl fun R K hK => ?_
  refine WP.seq ?_
  refine WP.reg ?_
  refine WL.h (h_box fun b1 => ?_)
  refine WL.h (h_alloc z96 fun b2 => ?_)
  refine WL.next ?_
  refine WP.seq ?_
  refine WP.seq ?_
  refine WP.reg ?_
  refine WL.e (e_fa f34_0) <| WL.e (e_load a32) <| WL.e (e_neq8 (b := 4)) ?_
  refine WL.next ?_
  refine WP.cond rfl (fun h => ?_) (fun h => ?_)
  · replace h : x.kind ≠ 4 := by simpa using h
    refine WP.reg ?_
    refine WL.e (e_fa f34_1) <| WL.e (e_load a9) <| WL.e (e_fa f34_2) ?_
    refine WL.h' (h_store s9 ?_)
    refine WL.next ?_
    refine WP.seq ?_
    refine WP.reg ?_
    refine WL.e (e_fa f34_1) <| WL.e (e_load a9) <| WL.e (e_fa f34_2) <| WL.e (e_load a9) <| WL.e (e_build z96 p96 (.o (.tmp 10) rfl <| .o (.tmp 12) rfl <| .n)) ?_
    refine WL.h' (h_store s96 ?_)
    refine WL.next ?_
    refine WP.ret ?_
    exact PO.fin Tryz.results34 (rv_cellN a96 rv_nil) (by simpa [spanOf, h, SpanM.v] using hK)
  · replace h : x.kind = 4 := by simpa using h
    refine WP.skip ?_
    refine PO.next ?_
    refine WP.seq ?_
    refine WP.reg ?_
    refine WL.e (e_fa f34_1) <| WL.e (e_load a9) <| WL.e (e_fa f34_2) <| WL.e (e_load a9) <| WL.e (e_build z96 p96 (.o (.tmp 10) rfl <| .o (.tmp 12) rfl <| .n)) ?_
    refine WL.h' (h_store s96 ?_)
    refine WL.next ?_
    refine WP.ret ?_
    exact PO.fin Tryz.results34 (rv_cellN a96 rv_nil) (by simpa [spanOf, h, SpanM.v] using hK)

theorem Meet_spec {g : World} (a b : SpanM) : Spec Tryz.prog g 71 [a.v, b.v] [] fun K R => K (.bool (meet a b)) R := by
  refine Spec.intro Tryz.func71 rfl Tryz.ntmps71 rfl fun R K hK => ?_
  refine WP.seq ?_
  refine WP.reg ?_
  refine WL.h (h_box fun b1 => ?_)
  refine WL.h (h_box fun b2 => ?_)
  refine WL.e e_assign ?_
  refine WL.next ?_
  refine WP.seq ?_
  refine WP.reg ?_
  refine WL.e (e_fa f96_0) <| WL.e (e_load a9) <| WL.e (e_fa f96_0) <| WL.e (e_load a9) <| WL.e e_maxS <| WL.e e_assign ?_
  refine WL.next ?_
  refine WP.seq ?_
  refine WP.reg ?_
  refine WL.e e_move <| WL.e (e_fa f96_0) <| WL.e (e_load a9) <| WL.e (e_fa f96_1) <| WL.e (e_load a9) ?_
  refine WL.h (h_call (In_spec _ _ _) k102 ?_)
  refine WL.e e_move ?_
  refine WL.join 24 (.bool (meet a b)) (.c (.c (.c (.c (.c (.c (.c .n))))))) ?_ ?_
  · refine WL.bool 17 rfl (fun hg => ?_) (fun hg => ?_)
    · skip
      refine WL.e e_move <| WL.e (e_fa f96_0) <| WL.e (e_load a9) <| WL.e (e_fa f96_1) <| WL.e (e_load a9) ?_
      refine WL.h (h_call (In_spec _ _ _) k102 ?_)
      refine WL.e e_pick_t ?_
      exact WL.nil (PO.joined rfl (by simp [meet, hg]))
    · skip
      refine WL.skip <| WL.skip <| WL.skip <| WL.skip <| WL.skip <| WL.skip <| WL.e e_pick_f ?_
      exact WL.nil (PO.joined rfl (by simp [meet, hg]))
  refine WL.e e_assign ?_
  refine WL.next ?_
  refine WP.ret ?_
  exact PO.fin Tryz.results71 (rv_tmp rv_nil) hK

theorem one_spec {g : World} (k : ByteArray) : Spec Tryz.prog g 72 [.string k] [] fun K R => K (one k).v R := by
  refine Spec.intro Tryz.func72 rfl Tryz.ntmps72 rfl fun R K hK => ?_
  refine WP.seq ?_
  refine WP.reg ?_
  refine WL.h (h_alloc z96 fun b1 => ?_)
  refine WL.next ?_
  refine WP.seq ?_
  refine WP.reg ?_
  refine WL.e e_move <| WL.e e_move <| WL.e (e_build z96 p96 (.o (.tmp 3) rfl <| .o (.tmp 4) rfl <| .n)) ?_
  refine WL.h' (h_store s96 ?_)
  refine WL.next ?_
  refine WP.ret ?_
  exact PO.fin Tryz.results72 (rv_cellN a96 rv_nil) hK

theorem Writes_spec {g : World} (x : OpM) : Spec Tryz.prog g 35 [x.v] [] fun K R => K (.bool (writes x)) R := by
  refine Spec.intro Tryz.func35 rfl Tryz.ntmps35 rfl fun R K hK => ?_
  refine WP.seq ?_
  refine WP.reg ?_
  refine WL.h (h_box fun b1 => ?_)
  refine WL.e e_assign ?_
  refine WL.next ?_
  refine WP.seq ?_
  refine WP.reg ?_
  refine WL.e (e_fa f34_0) <| WL.e (e_load a32) <| WL.e (e_eql8 (b := 2)) <| WL.e e_move ?_
  refine WL.bool 6 rfl (fun g1 => ?_) (fun g1 => ?_)
  · skip
    refine WL.skip <| WL.skip <| WL.skip <| WL.e e_pick_t <| WL.e e_assign ?_
    refine WL.next ?_
    refine WP.ret ?_
    exact PO.finE Tryz.results35 (rv_tmp rv_nil) (by simp_all [writes]) hK
  · skip
    refine WL.e (e_fa f34_0) <| WL.e (e_load a32) <| WL.e (e_eql8 (b := 3)) <| WL.e e_pick_f <| WL.e e_assign ?_
    refine WL.next ?_
    refine WP.ret ?_
    exact PO.finE Tryz.results35 (rv_tmp rv_nil) (by simp_all [writes]) hK

theorem KeyRune_spec {g : World} (c : Int) : Spec Tryz.prog g 92 [.int .i32 c] [] fun K R => K (.bool (keyRune c)) R := by
  refine Spec.intro Tryz.func92 rfl Tryz.ntmps92 rfl fun R K hK => ?_
  refine WP.seq ?_
  refine WP.reg ?_
  refine WL.e e_assign ?_
  refine WL.next ?_
  refine WP.seq ?_
  refine WP.reg ?_
  refine WL.e e_move <| WL.e e_geq <| WL.e e_move ?_
  refine WL.bool 5 rfl (fun g1 => ?_) (fun g1 => ?_)
  · skip
    refine WL.e e_move <| WL.e e_leq <| WL.e e_pick_t <| WL.e e_move ?_
    refine WL.bool 9 rfl (fun g2 => ?_) (fun g2 => ?_)
    · skip
      refine WL.skip <| WL.skip <| WL.skip <| WL.skip <| WL.skip <| WL.skip <| WL.e e_pick_t <| WL.e e_move <| WL.skip <| WL.skip <| WL.e e_pick_t <| WL.e e_assign ?_
      refine WL.next ?_
      refine WP.ret ?_
      exact PO.finE Tryz.results92 (rv_tmp rv_nil) (by simp_all [keyRune] <;> (intros; omega)) hK
    · skip
      refine WL.e e_move <| WL.e e_geq <| WL.e e_move ?_
      refine WL.bool 12 rfl (fun g3 => ?_) (fun g3 => ?_)
      · skip
        refine WL.e e_move <| WL.e e_leq <| WL.e e_pick_t <| WL.e e_pick_f <| WL.e e_move ?_
        refine WL.bool 17 rfl (fun g4 => ?_) (fun g4 => ?_)
        · skip
          refine WL.skip <| WL.skip <| WL.e e_pick_t <| WL.e e_assign ?_
          refine WL.next ?_
          refine WP.ret ?_
          exact PO.finE Tryz.results92 (rv_tmp rv_nil) (by simp_all [keyRune] <;> (intros; omega)) hK
        · skip
          refine WL.e e_move <| WL.e e_eql <| WL.e e_pick_f <| WL.e e_assign ?_
          refine WL.next ?_
          refine WP.ret ?_
          exact PO.finE Tryz.results92 (rv_tmp rv_nil) (by simp_all [keyRune] <;> (intros; omega)) hK
      · skip
        refine WL.skip <| WL.skip <| WL.e e_pick_f <| WL.e e_pick_f <| WL.e e_move <| WL.e e_move <| WL.e e_eql <| WL.e e_pick_f <| WL.e e_assign ?_
        refine WL.next ?_
        refine WP.ret ?_
        exact PO.finE Tryz.results92 (rv_tmp rv_nil) (by simp_all [keyRune] <;> (intros; omega)) hK
  · skip
    refine WL.skip <| WL.skip <| WL.e e_pick_f <| WL.e e_move <| WL.e e_move <| WL.e e_geq <| WL.e e_move ?_
    refine WL.bool 12 rfl (fun g5 => ?_) (fun g5 => ?_)
    · skip
      refine WL.e e_move <| WL.e e_leq <| WL.e e_pick_t <| WL.e e_pick_f <| WL.e e_move ?_
      refine WL.bool 17 rfl (fun g6 => ?_) (fun g6 => ?_)
      · skip
        refine WL.skip <| WL.skip <| WL.e e_pick_t <| WL.e e_assign ?_
        refine WL.next ?_
        refine WP.ret ?_
        exact PO.finE Tryz.results92 (rv_tmp rv_nil) (by simp_all [keyRune] <;> (intros; omega)) hK
      · skip
        refine WL.e e_move <| WL.e e_eql <| WL.e e_pick_f <| WL.e e_assign ?_
        refine WL.next ?_
        refine WP.ret ?_
        exact PO.finE Tryz.results92 (rv_tmp rv_nil) (by simp_all [keyRune] <;> (intros; omega)) hK
    · skip
      refine WL.skip <| WL.skip <| WL.e e_pick_f <| WL.e e_pick_f <| WL.e e_move <| WL.e e_move <| WL.e e_eql <| WL.e e_pick_f <| WL.e e_assign ?_
      refine WL.next ?_
      refine WP.ret ?_
      exact PO.finE Tryz.results92 (rv_tmp rv_nil) (by simp_all [keyRune] <;> (intros; omega)) hK

theorem all_spec {g : World} (s : ByteArray) {y : Value} {p : Int → Bool} (hy : ∀ c, CallV Tryz.prog g y [.int .i32 c] [] fun K R => K (.bool (p c)) R) : Spec Tryz.prog g 91 [.string s, y] [] fun K R => K (.bool (allR p s)) R := by
  refine Spec.intro Tryz.func91 rfl Tryz.ntmps91 rfl fun R K hK => ?_
  refine WP.seq ?_
  refine WP.reg ?_
  refine WL.e e_assign ?_
  refine WL.next ?_
  refine WP.seq ?_
  refine WP.seq ?_
  refine WP.reg ?_
  refine WL.e e_move ?_
  refine WL.h (h_range_str Tryz.underlying9 fun i => ?_)
  refine WL.next ?_
  refine WP.block ?_
  refine WP.loopK (fun (x : Nat × Nat) => []) (fun (x : Nat × Nat) => pt i (.stringIter s x.2) :: R) [(1, _), (8, _)] (fun (x : Nat × Nat) => s.size ≤ x.2 + x.1 ∧ allFrom p s x.1 x.2 = allR p s) (fun (x : Nat × Nat) => x.1) (s.size, 0) (⟨by simp, rfl⟩) ?_
  rintro ⟨k, q⟩ ⟨hx1, hx2⟩
  simp only at hx1 hx2
  refine WP.seq ?_
  refine WP.reg ?_
  refine WL.h (h_next_str (fun h => ?_) (fun h => ?_))
  · skip
    refine WL.e e_extract ?_
    refine WL.next ?_
    refine WP.seq ?_
    refine WP.cond_f rfl ?_
    refine WP.exit ?_
    refine PO.past nofun ?_
    refine PO.round nofun ?_
    refine PO.blockX ?_
    refine PO.next ?_
    refine WP.seq ?_
    refine WP.reg ?_
    refine WL.e e_assign ?_
    refine WL.next ?_
    refine WP.ret ?_
    exact PO.finE Tryz.results91 (rv_tmp rv_nil) (by rw [← hx2]; cases k <;> simp [allFrom, h]) hK
  · have hk : k = (k - 1) + 1 := by omega
    have hx3 : p (Utf8.decode s q).1 = true → allFrom p s (k - 1) (q + (Utf8.decode s q).2) = allR p s := by rw [hk] at hx2; simp only [allFrom, h, if_true] at hx2; intro e; simpa [e] using hx2
    refine WL.e e_extract ?_
    refine WL.next ?_
    refine WP.seq ?_
    refine WP.cond_t rfl ?_
    refine WP.skip ?_
    refine PO.next ?_
    refine WP.block ?_
    refine WP.seq ?_
    refine WP.reg ?_
    refine WL.e e_extract <| WL.e e_assign ?_
    refine WL.next ?_
    refine WP.seq ?_
    refine WP.reg ?_
    refine WL.e e_move <| WL.e e_move ?_
    refine WL.h (h_cally (hy _) ?_)
    refine WL.e e_not ?_
    refine WL.next ?_
    refine WP.cond rfl (fun hc => ?_) (fun hc => ?_)
    · skip
      refine WP.seq ?_
      refine WP.reg ?_
      refine WL.e e_assign ?_
      refine WL.next ?_
      refine WP.ret ?_
      refine PO.blockR ?_
      refine PO.round nofun ?_
      refine PO.blockR ?_
      refine PO.past nofun ?_
      exact PO.finE Tryz.results91 (rv_tmp rv_nil) (by rw [← hx2, hk]; simp at hc; simp [allFrom, h, hc]) hK
    · replace hc : p (Utf8.decode s q).1 = true := by simpa using hc
      refine WP.skip ?_
      refine PO.blockN ?_
      exact PO.againK (k - 1, q + (Utf8.decode s q).2) ⟨by have := width_pos s q h; omega, hx3 hc⟩ (by omega)

theorem Check_spec {g : World} (k : ByteArray) : Spec Tryz.prog g 56 [.string k] [] fun K R => K (.bool (keyOk k)) R := by
  refine Spec.intro Tryz.func56 rfl Tryz.ntmps56 rfl fun R K hK => ?_
  refine WP.seq ?_
  refine WP.reg ?_
  refine WL.e e_assign ?_
  refine WL.next ?_
  refine WP.seq ?_
  refine WP.reg ?_
  refine WL.e e_move <| WL.e e_sne <| WL.e e_move ?_
  refine WL.bool 5 rfl (fun g1 => ?_) (fun g1 => ?_)
  · skip
    refine WL.e e_move <| WL.e (e_len_str Tryz.underlying9) <| WL.e e_leq <| WL.e e_pick_t <| WL.e e_move ?_
    refine WL.bool 10 rfl (fun g2 => ?_) (fun g2 => ?_)
    · skip
      refine WL.e e_move ?_
      refine WL.h (h_call (all_spec _ (p := keyRune) fun c => CallV.of_spec (fs := []) (cs := []) (KeyRune_spec c) k92) k91 ?_)
      refine WL.e e_pick_t <| WL.e e_assign ?_
      refine WL.next ?_
      refine WP.ret ?_
      exact PO.finE Tryz.results56 (rv_tmp rv_nil) (by simp_all [keyOk] <;> (intros; omega)) hK
    · skip
      refine WL.skip <| WL.skip <| WL.e e_pick_f <| WL.e e_assign ?_
      refine WL.next ?_
      refine WP.ret ?_
      exact PO.finE Tryz.results56 (rv_tmp rv_nil) (by simp_all [keyOk] <;> (intros; omega)) hK
  · skip
    refine WL.skip <| WL.skip <| WL.skip <| WL.e e_pick_f <| WL.e e_move <| WL.skip <| WL.skip <| WL.e e_pick_f <| WL.e e_assign ?_
    refine WL.next ?_
    refine WP.ret ?_
    exact PO.finE Tryz.results56 (rv_tmp rv_nil) (by simp_all [keyOk] <;> (intros; omega)) hK

theorem opCheck_spec {g : World} (x : OpM) : Spec Tryz.prog g 33 [x.v] [] fun K R => K (.bool (opOk x)) R := by
  refine Spec.intro Tryz.func33 rfl Tryz.ntmps33 rfl fun R K hK => ?_
  refine WP.seq ?_
  refine WP.reg ?_
  refine WL.h (h_box fun b1 => ?_)
  refine WL.e e_assign ?_
  refine WL.next ?_
  refine WP.seq ?_
  refine WP.reg ?_
  refine WL.e (e_fa f34_2) <| WL.e (e_load a9) <| WL.e e_seq <| WL.e e_assign ?_
  refine WL.next ?_
  refine WP.seq ?_
  refine WP.seq ?_
  refine WP.reg ?_
  refine WL.e (e_fa f34_0) <| WL.e (e_load a32) <| WL.e (e_eql8 (b := 4)) ?_
  refine WL.next ?_
  refine WP.cond rfl (fun g1 => ?_) (fun g1 => ?_)
  · skip
    refine WP.reg ?_
    refine WL.e (e_fa f34_2) <| WL.e (e_load a9) ?_
    refine WL.h (h_call (Check_spec _) k56 ?_)
    refine WL.e e_assign ?_
    refine WL.next ?_
    refine WP.seq ?_
    refine WP.reg ?_
    refine WL.e (e_fa f34_0) <| WL.e (e_load a32) <| WL.e e_geq <| WL.e e_move ?_
    refine WL.bool 16 rfl (fun g2 => ?_) (fun g2 => ?_)
    · skip
      refine WL.e (e_fa f34_0) <| WL.e (e_load a32) <| WL.e e_leq <| WL.e e_pick_t <| WL.e e_move ?_
      refine WL.bool 21 rfl (fun g3 => ?_) (fun g3 => ?_)
      · skip
        refine WL.e (e_fa f34_1) <| WL.e (e_load a9) ?_
        refine WL.h (h_call (Check_spec _) k56 ?_)
        refine WL.e e_pick_t <| WL.e e_move ?_
        refine WL.bool 26 rfl (fun g4 => ?_) (fun g4 => ?_)
        · skip
          refine WL.e e_move <| WL.e e_pick_t <| WL.e e_move ?_
          refine WL.bool 29 rfl (fun g5 => ?_) (fun g5 => ?_)
          · skip
            refine WL.e (e_fa f34_3) <| WL.e (e_load a31) <| WL.e (e_eql32 (b := 0)) <| WL.e e_move ?_
            refine WL.bool 33 rfl (fun g6 => ?_) (fun g6 => ?_)
            · skip
              refine WL.skip <| WL.skip <| WL.skip <| WL.e e_pick_t <| WL.e e_pick_t <| WL.e e_assign ?_
              refine WL.next ?_
              refine WP.ret ?_
              exact PO.finE Tryz.results33 (rv_tmp rv_nil) (by simp_all [opOk] <;> (intros; omega)) hK
            · skip
              refine WL.e (e_fa f34_0) <| WL.e (e_load a32) <| WL.e (e_eql8 (b := 2)) <| WL.e e_pick_f <| WL.e e_pick_t <| WL.e e_assign ?_
              refine WL.next ?_
              refine WP.ret ?_
              exact PO.finE Tryz.results33 (rv_tmp rv_nil) (by simp_all [opOk] <;> (intros; omega)) hK
          · skip
            refine WL.skip <| WL.skip <| WL.skip <| WL.skip <| WL.skip <| WL.skip <| WL.skip <| WL.skip <| WL.e e_pick_f <| WL.e e_assign ?_
            refine WL.next ?_
            refine WP.ret ?_
            exact PO.finE Tryz.results33 (rv_tmp rv_nil) (by simp_all [opOk] <;> (intros; omega)) hK
        · skip
          refine WL.skip <| WL.e e_pick_f <| WL.e e_move <| WL.skip <| WL.skip <| WL.skip <| WL.skip <| WL.skip <| WL.skip <| WL.skip <| WL.skip <| WL.e e_pick_f ?_
          refine WL.e e_assign ?_
          refine WL.next ?_
          refine WP.ret ?_
          exact PO.finE Tryz.results33 (rv_tmp rv_nil) (by simp_all [opOk] <;> (intros; omega)) hK
      · skip
        refine WL.skip <| WL.skip <| WL.skip <| WL.e e_pick_f <| WL.e e_move <| WL.skip <| WL.e e_pick_f <| WL.e e_move <| WL.skip <| WL.skip <| WL.skip <| WL.skip ?_
        refine WL.skip <| WL.skip <| WL.skip <| WL.skip <| WL.e e_pick_f <| WL.e e_assign ?_
        refine WL.next ?_
        refine WP.ret ?_
        exact PO.finE Tryz.results33 (rv_tmp rv_nil) (by simp_all [opOk] <;> (intros; omega)) hK
    · skip
      refine WL.skip <| WL.skip <| WL.skip <| WL.e e_pick_f <| WL.e e_move <| WL.skip <| WL.skip <| WL.skip <| WL.e e_pick_f <| WL.e e_move <| WL.skip <| WL.e e_pick_f ?_
      refine WL.e e_move <| WL.skip <| WL.skip <| WL.skip <| WL.skip <| WL.skip <| WL.skip <| WL.skip <| WL.skip <| WL.e e_pick_f <| WL.e e_assign ?_
      refine WL.next ?_
      refine WP.ret ?_
      exact PO.finE Tryz.results33 (rv_tmp rv_nil) (by simp_all [opOk] <;> (intros; omega)) hK
  · skip
    refine WP.skip ?_
    refine PO.next ?_
    refine WP.seq ?_
    refine WP.reg ?_
    refine WL.e (e_fa f34_0) <| WL.e (e_load a32) <| WL.e e_geq <| WL.e e_move ?_
    refine WL.bool 16 rfl (fun g7 => ?_) (fun g7 => ?_)
    · skip
      refine WL.e (e_fa f34_0) <| WL.e (e_load a32) <| WL.e e_leq <| WL.e e_pick_t <| WL.e e_move ?_
      refine WL.bool 21 rfl (fun g8 => ?_) (fun g8 => ?_)
      · skip
        refine WL.e (e_fa f34_1) <| WL.e (e_load a9) ?_
        refine WL.h (h_call (Check_spec _) k56 ?_)
        refine WL.e e_pick_t <| WL.e e_move ?_
        refine WL.bool 26 rfl (fun g9 => ?_) (fun g9 => ?_)
        · skip
          refine WL.e e_move <| WL.e e_pick_t <| WL.e e_move ?_
          refine WL.bool 29 rfl (fun g10 => ?_) (fun g10 => ?_)
          · skip
            refine WL.e (e_fa f34_3) <| WL.e (e_load a31) <| WL.e (e_eql32 (b := 0)) <| WL.e e_move ?_
            refine WL.bool 33 rfl (fun g11 => ?_) (fun g11 => ?_)
            · skip
              refine WL.skip <| WL.skip <| WL.skip <| WL.e e_pick_t <| WL.e e_pick_t <| WL.e e_assign ?_
              refine WL.next ?_
              refine WP.ret ?_
              exact PO.finE Tryz.results33 (rv_tmp rv_nil) (by simp_all [opOk] <;> (intros; omega)) hK
            · skip
              refine WL.e (e_fa f34_0) <| WL.e (e_load a32) <| WL.e (e_eql8 (b := 2)) <| WL.e e_pick_f <| WL.e e_pick_t <| WL.e e_assign ?_
              refine WL.next ?_
              refine WP.ret ?_
              exact PO.finE Tryz.results33 (rv_tmp rv_nil) (by simp_all [opOk] <;> (intros; omega)) hK
          · skip
            refine WL.skip <| WL.skip <| WL.skip <| WL.skip <| WL.skip <| WL.skip <| WL.skip <| WL.skip <| WL.e e_pick_f <| WL.e e_assign ?_
            refine WL.next ?_
            refine WP.ret ?_
            exact PO.finE Tryz.results33 (rv_tmp rv_nil) (by simp_all [opOk] <;> (intros; omega)) hK
        · skip
          refine WL.skip <| WL.e e_pick_f <| WL.e e_move <| WL.skip <| WL.skip <| WL.skip <| WL.skip <| WL.skip <| WL.skip <| WL.skip <| WL.skip <| WL.e e_pick_f ?_
          refine WL.e e_assign ?_
          refine WL.next ?_
          refine WP.ret ?_
          exact PO.finE Tryz.results33 (rv_tmp rv_nil) (by simp_all [opOk] <;> (intros; omega)) hK
      · skip
        refine WL.skip <| WL.skip <| WL.skip <| WL.e e_pick_f <| WL.e e_move <| WL.skip <| WL.e e_pick_f <| WL.e e_move <| WL.skip <| WL.skip <| WL.skip <| WL.skip ?_
        refine WL.skip <| WL.skip <| WL.skip <| WL.skip <| WL.e e_pick_f <| WL.e e_assign ?_
        refine WL.next ?_
        refine WP.ret ?_
        exact PO.finE Tryz.results33 (rv_tmp rv_nil) (by simp_all [opOk] <;> (intros; omega)) hK
    · skip
      refine WL.skip <| WL.skip <| WL.skip <| WL.e e_pick_f <| WL.e e_move <| WL.skip <| WL.skip <| WL.skip <| WL.e e_pick_f <| WL.e e_move <| WL.skip <| WL.e e_pick_f ?_
      refine WL.e e_move <| WL.skip <| WL.skip <| WL.skip <| WL.skip <| WL.skip <| WL.skip <| WL.skip <| WL.skip <| WL.e e_pick_f <| WL.e e_assign ?_
      refine WL.next ?_
      refine WP.ret ?_
      exact PO.finE Tryz.results33 (rv_tmp rv_nil) (by simp_all [opOk] <;> (intros; omega)) hK

end Go.SL
