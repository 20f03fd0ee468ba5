import Derived.Test.YtdfomffmfnpfoaaGreatM7
import Derived.Test.YtdfomffmfnpfoaaGreatProg
import Derived.KernelRfl
set_option linter.unusedSimpArgs false
set_option linter.unusedVariables false
namespace Go.SL.W7
open Go Go.Proofs Go.SL
theorem a103 : aggOf Tryz.prog 103 = some (some 3) := by kernel_rfl
theorem a31 : aggOf Tryz.prog 31 = some none := by kernel_rfl
theorem a4 : aggOf Tryz.prog 4 = some none := by kernel_rfl
theorem a9 : aggOf Tryz.prog 9 = some none := by kernel_rfl
theorem f103_0 : fldOf Tryz.prog 103 0 = some 0 := by kernel_rfl
theorem f103_1 : fldOf Tryz.prog 103 1 = some 1 := by kernel_rfl
theorem f103_2 : fldOf Tryz.prog 103 2 = some 2 := by kernel_rfl
theorem k56 : callable Tryz.prog 56 = true := by kernel_rfl
theorem k98 : callable Tryz.prog 98 = true := by kernel_rfl
theorem sl86 : slOf Tryz.prog 86 = some (103, 3, 24) := by kernel_rfl
end Go.SL.W7
namespace Go.SL
open Go Go.Proofs W7
theorem ext_of {l : List Value} {n : Nat} (h : l.length = n) : Ext l 0 n l := h ▸ ext_all l
theorem index_at {α : Type} {p : α → Bool} {xs : List α} {i : Nat} {x : α} (h : (xs.take i).any p = false) (hx : xs[i]? = some x) (hp : p x = true) : (if xs.any p then ((xs.findIdx p : Nat) : Int) else -1) = i := by
  have h1 : xs.any p = true := List.any_eq_true.2 ⟨x, List.mem_of_getElem? hx, hp⟩
  rw [if_pos h1]
  congr 1
  have hlt := idx_lt hx
  rw [List.findIdx_eq hlt]
  refine ⟨by rw [List.getElem?_eq_getElem hlt] at hx; cases hx; exact hp, fun j hj => ?_⟩
  rw [List.any_eq_false] at h
  have := h xs[j] (by rw [List.mem_take_iff_getElem]; exact ⟨j, by omega, rfl⟩)
  simpa using this

theorem IndexC_spec {g : World} {A B : HP} {u y : Value} {xs : List (ChgM)} {p : ChgM → Bool} (hA : RL A 3 ChgM.c u xs) (hn : xs.length ≤ 68719476736) (hy : ∀ x, CallV Tryz.prog g y [.agg (ChgM.c x).toArray] [B] fun K R => K (.bool (p x)) (B :: R)) :
    Spec Tryz.prog g 98 [u, y] [A, B] fun K R => K (.int .i64 (if xs.any p then (xs.findIdx p : Nat) else -1)) (A :: B :: R) := by
  refine Spec.intro Tryz.func98 rfl Tryz.ntmps98 rfl fun R K hK => ?_
  refine WP.seq ?_
  refine WP.reg ?_
  refine WL.e e_assign ?_
  refine WL.next ?_
  refine WP.seq ?_
  refine WP.seq ?_
  refine WP.reg ?_
  refine WL.e e_move ?_
  refine WL.e (el_len sl86 hA) <| WL.e e_move ?_
  refine WL.next ?_
  refine WP.block ?_
  refine WP.loopK (fun (i : Nat) => [(8, .int .i64 i)]) (fun (i : Nat) => A :: B :: R) [(0, _), (1, _), (7, _)] (fun (i : Nat) => i ≤ xs.length ∧ (xs.take i).any p = false) (fun (i : Nat) => xs.length - i) 0 (⟨Nat.zero_le _, by simp⟩) ?_
  rintro i ⟨h1, h2⟩
  refine WP.seq ?_
  refine WP.reg ?_
  refine WL.e e_lss ?_
  refine WL.next ?_
  refine WP.seq ?_
  refine WP.cond rfl (fun h3 => ?_) (fun h3 => ?_)
  · have hlt : i < xs.length := by rw [decide_eq_true_eq] at h3; omega
    obtain ⟨x, hx⟩ : ∃ x, xs[i]? = some x := ⟨_, List.getElem?_eq_getElem hlt⟩
    refine WP.skip ?_
    refine PO.next ?_
    refine WP.seq ?_
    refine WP.block ?_
    refine WP.seq ?_
    refine WP.reg ?_
    refine WL.e e_move <| WL.e e_assign ?_
    refine WL.next ?_
    refine WP.seq ?_
    refine WP.reg ?_
    refine WL.e e_move <| WL.e e_move <| WL.e e_move ?_
    refine WL.e (el_ia sl86 hA hlt) ?_
    refine WL.e (el_loadN (vs := ChgM.c x) a103 chgE hA hx (hv := ext_of (chgE.len x))) ?_
    refine WL.h (h_cally (hy x) ?_)
    refine WL.next ?_
    refine WP.cond rfl (fun h4 => ?_) (fun h4 => ?_)
    · skip
      refine WP.seq ?_
      refine WP.reg ?_
      refine WL.e e_move <| WL.e e_assign ?_
      refine WL.next ?_
      refine WP.ret ?_
      refine PO.blockR ?_
      refine PO.past nofun ?_
      refine PO.round nofun ?_
      refine PO.blockR ?_
      refine PO.past nofun ?_
      exact PO.finE Tryz.results98 (rv_tmp rv_nil) (by rw [index_at h2 hx h4]; rfl) hK
    · skip
      refine WP.skip ?_
      refine PO.blockN ?_
      refine PO.next ?_
      refine WP.reg ?_
      refine WL.e (e_add rfl rfl (w_i64 (by omega) (by omega))) <| WL.e e_move ?_
      refine WL.nil ?_
      exact PO.againK (i + 1) ⟨by omega, by rw [take_snoc hx, List.any_append, h2]; simp [h4]⟩ (by omega)
  · have hall : xs.any p = false := by rw [decide_eq_false_iff_not] at h3; rwa [List.take_of_length_le (by omega)] at h2
    refine WP.exit ?_
    refine PO.past nofun ?_
    refine PO.round nofun ?_
    refine PO.blockX ?_
    refine PO.next ?_
    refine WP.seq ?_
    refine WP.reg ?_
    refine WL.e e_assign ?_
    refine WL.next ?_
    refine WP.ret ?_
    exact PO.finE Tryz.results98 (rv_tmp rv_nil) (by rw [hall]; rfl) hK

theorem ContainsC_spec {g : World} {A B : HP} {u y : Value} {xs : List ChgM} {p : ChgM → Bool} (hA : RL A 3 ChgM.c u xs) (hn : xs.length ≤ 68719476736) (hy : ∀ x, CallV Tryz.prog g y [.agg (ChgM.c x).toArray] [B] fun K R => K (.bool (p x)) (B :: R)) :
    Spec Tryz.prog g 67 [u, y] [A, B] fun K R => K (.bool (xs.any p)) (A :: B :: R) := by
  refine Spec.intro Tryz.func67 rfl Tryz.ntmps67 rfl fun R K hK => ?_
  refine WP.seq ?_
  refine WP.reg ?_
  refine WL.e e_assign ?_
  refine WL.next ?_
  refine WP.seq ?_
  refine WP.reg ?_
  refine WL.e e_move <| WL.e e_move ?_
  refine WL.h (h_call (IndexC_spec hA hn hy) k98 ?_)
  refine WL.e e_geq <| WL.e e_assign ?_
  refine WL.next ?_
  refine WP.ret ?_
  exact PO.finE Tryz.results67 (rv_tmp rv_nil) (by cases h : xs.any p <;> simp) hK

theorem bad_spec {g : World} (c : ChgM) : Spec Tryz.prog g 68 [c.v] [] fun K R => K (.bool (!chgOk c)) R := by
  refine Spec.intro Tryz.func68 rfl Tryz.ntmps68 rfl fun R K hK => ?_
  refine WP.seq ?_
  refine WP.reg ?_
  refine WL.h (h_box fun b1 => ?_)
  refine WL.e e_assign ?_
  refine WL.next ?_
  refine WP.seq ?_
  refine WP.reg ?_
  refine WL.e (e_fa f103_0) <| WL.e (e_load a9) ?_
  refine WL.h (h_call (Check_spec _) k56 ?_)
  refine WL.e e_not <| WL.e e_move ?_
  refine WL.bool 7 rfl (fun g1 => ?_) (fun g1 => ?_)
  · skip
    refine WL.skip <| WL.skip <| WL.skip <| WL.skip <| WL.skip <| WL.skip <| WL.skip <| WL.e e_pick_t <| WL.e e_assign ?_
    refine WL.next ?_
    refine WP.ret ?_
    exact PO.finE Tryz.results68 (rv_tmp rv_nil) (by simp_all [chgOk, bne]) hK
  · skip
    refine WL.e (e_fa f103_2) <| WL.e (e_load a4) <| WL.e e_move ?_
    refine WL.bool 10 rfl (fun g2 => ?_) (fun g2 => ?_)
    · skip
      refine WL.e (e_fa f103_1) <| WL.e (e_load a31) <| WL.e (e_neq32 (b := 0)) <| WL.e e_pick_t <| WL.e e_pick_f <| WL.e e_assign ?_
      refine WL.next ?_
      refine WP.ret ?_
      exact PO.finE Tryz.results68 (rv_tmp rv_nil) (by simp_all [chgOk, bne]) hK
    · skip
      refine WL.skip <| WL.skip <| WL.skip <| WL.e e_pick_f <| WL.e e_pick_f <| WL.e e_assign ?_
      refine WL.next ?_
      refine WP.ret ?_
      exact PO.finE Tryz.results68 (rv_tmp rv_nil) (by simp_all [chgOk, bne]) hK

end Go.SL
