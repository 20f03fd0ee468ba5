import Derived.Test.YtdfomffmfnpfoaaGreatM8
import Derived.Test.YtdfomffmfnpfoaaGreatSLq
import Derived.Test.YtdfomffmfnpfoaaGreatProg
import Derived.KernelRfl
set_option linter.unusedSimpArgs false
set_option linter.unusedVariables false
namespace Go.SL.W9
open Go Go.Proofs Go.SL
theorem mixedOk : Tryz.prog.follows .mixedOrders = true := by kernel_rfl
theorem ov1_117 : (Tryz.f117.name == "runtime.NumGoroutine") = false := by kernel_rfl
theorem ov2_117 : Tryz.f117.body.isNone = true := by kernel_rfl
theorem ov3_117 : Extern.findNext Tryz.f117 = none := by kernel_rfl
theorem ov4_117 : Extern.find Tryz.f117 = some (Extern.SlicesOverlaps.overlaps #[47, 47] #[4]) := by kernel_rfl
theorem sl47 : slOf Tryz.prog 47 = some (70, 2, 24) := by kernel_rfl
theorem z70 : zeroOf Tryz.prog 70 = some [.string .empty, .int .u32 0] := by kernel_rfl
end Go.SL.W9
namespace Go.SL
open Go Go.Proofs W9
theorem Insert_spec {g : World} {u : Value} {A D : List RowM} {x : RowM} {bv : Nat} (hn : (A ++ D).length ≤ 68719476000) :
    Spec Tryz.prog g 101 [u, .int .i64 A.length, (.slice (some ⟨bv, 0, none⟩) 1 1)] [Sl 70 2 RowM.c u (A ++ D), cl bv 70 (RowM.c x)] fun K R => ∀ a m c, K (.slice a m c) (Sl 70 2 RowM.c (.slice a m c) (A ++ x :: D) :: R) := by
  have hlen : (A ++ D).length = A.length + D.length := by simp
  refine Spec.intro Tryz.func101 rfl Tryz.ntmps101 rfl fun R K hK => ?_
  refine WP.seq ?_
  refine WP.reg ?_
  refine WL.e e_assign ?_
  refine WL.next ?_
  refine WP.seq ?_
  refine WP.reg ?_
  refine WL.e e_move <| WL.e e_move ?_
  refine WL.e (el_from (lo := A.length) sl47 (sl_rl (xs := A ++ D)) (by simp)) ?_
  refine WL.next ?_
  refine WP.seq ?_
  refine WP.reg ?_
  refine WL.e e_move ?_
  refine WL.e (e_len_sl sl47) <| WL.e e_assign ?_
  refine WL.next ?_
  refine WP.seq ?_
  refine WP.seq ?_
  refine WP.reg ?_
  refine WL.e e_move <| WL.e e_eql ?_
  refine WL.next ?_
  refine WP.cond rfl (fun h0 => ?_) (fun h0 => ?_)
  · simp at h0
  · skip
    refine WP.skip ?_
    refine PO.next ?_
    refine WP.seq ?_
    refine WP.reg ?_
    refine WL.e e_move ?_
    refine WL.e (el_len sl47 (sl_rl (xs := A ++ D))) <| WL.e e_assign ?_
    refine WL.next ?_
    refine WP.seq ?_
    refine WP.seq ?_
    refine WP.reg ?_
    refine WL.e e_move <| WL.e e_move <| WL.e e_eql ?_
    refine WL.next ?_
    refine WP.cond rfl (fun h1 => ?_) (fun h1 => ?_)
    · obtain rfl : D = [] := List.eq_nil_of_length_eq_zero (by simp at h1; omega)
      refine WP.seq ?_
      refine WP.reg ?_
      refine WL.e e_move <| WL.e e_move ?_
      refine WL.h (hl_append (xs := A ++ []) (ys := [x]) sl47 rowE z70 (lit_rl (b := bv) (E := 70) (l := RowM.c x) rowE [x] (by simp)) (by simp at hn ⊢; omega) (fun a m c => ?_))
      rw [List.append_nil]
      refine WL.e e_assign ?_
      refine WL.next ?_
      refine WP.ret ?_
      refine PO.past nofun ?_
      exact PO.fin Tryz.results101 (rv_tmp rv_nil) (hK a m c)
    · have hD0 : 0 < D.length := by simp at h1; omega
      refine WP.own_open (n := (A ++ D).length) (by omega) (by exact .z) ?_
      rintro b o c l rfl hnc hc hl hcs
      have hcA : (l.drop o).take (A.length * 2) = A.flatMap RowM.c := by
        have := congrArg (List.take (A.length * 2)) hcs
        rwa [List.take_take, Nat.min_eq_left (Nat.mul_le_mul_right _ (by omega)), List.flatMap_append, List.take_left' (flat_len rowE A)] at this
      have hA0 : At (subAt (.slice (some ⟨b, o, none⟩) (A ++ D).length c) 0 A.length c 2) b o A.length c := by have := (At.lit (b := b) (o := o) hnc).sub (lo := 0) (hi := A.length) (m := c) (z := 2) (by omega) (by omega) (Nat.le_refl _); simpa using this
      have hAD : At (subAt (.slice (some ⟨b, o, none⟩) (A ++ D).length c) A.length (A ++ D).length c 2) b (o + A.length * 2) D.length (c - A.length) := by have := (At.lit (b := b) (o := o) hnc).sub (lo := A.length) (hi := (A ++ D).length) (m := c) (z := 2) (by omega) (by omega) (Nat.le_refl _); rwa [show (A ++ D).length - A.length = D.length by omega] at this
      refine WP.skip ?_
      refine PO.next ?_
      refine WP.seq ?_
      refine WP.seq ?_
      refine WP.reg ?_
      refine WL.e e_move <| WL.e e_move <| WL.e (e_add (c := (((A ++ D).length + 1 : Nat) : Int)) rfl rfl (by rw [w_i64 (by omega) (by omega)]; omega)) <| WL.e e_move ?_
      refine WL.e (e_cap sl47 rfl (At.lit hnc)) <| WL.e e_gtr ?_
      refine WL.next ?_
      refine WP.cond rfl (fun h2 => ?_) (fun h2 => ?_)
      · replace h2 : c < (A ++ D).length + 1 := by simp at h2; omega
        have hgro : ∀ u, Own 70 2 u (A.length + (D.length + 1)) ((l.drop o).take (A.length * 2) ++ (List.replicate (D.length + 1) [.string .empty, .int .u32 0]).flatten) = Sl 70 2 RowM.c u (A ++ List.replicate (D.length + 1) ⟨.empty, 0⟩) := fun u => by
          unfold Sl
          rw [hcA, List.flatMap_append, show (List.replicate (D.length + 1) (⟨.empty, 0⟩ : RowM)).flatMap RowM.c = (List.replicate (D.length + 1) [.string .empty, .int .u32 0]).flatten by simp [List.flatMap_replicate]; rfl, List.length_append, List.length_replicate]
        refine WP.seq ?_
        refine WP.reg ?_
        refine WL.e e_move <| WL.e e_move ?_
        refine WL.e (e_slice_at (lo := 0) (hi := A.length) (m := c) (c := c) (n := (A ++ D).length) sl47 rfl (At.lit hnc) (.inl ⟨rfl, rfl⟩) (.inr ⟨_, _, rfl, rfl⟩) (.inl ⟨rfl, rfl⟩) (by omega) (by omega) (Nat.le_refl _)) <| WL.e e_move <| WL.e e_move <| WL.e (e_add (c := (((A ++ D).length + 1 : Nat) : Int)) rfl rfl (by rw [w_i64 (by omega) (by omega)]; omega)) <| WL.e e_move <| WL.e (e_sub (c := ((D.length + 1 : Nat) : Int)) rfl rfl (by rw [w_i64 (by omega) (by omega)]; omega)) ?_
        refine WL.h (h_grow (n := A.length) (c := c) (k := D.length + 1) (b := b) (o := o) sl47 Tryz.underlying3 z70 rfl hA0 hl (by omega) (by omega) (by decide) (by decide) (fun a3 n3 c3 => ?_))
        rw [hgro]
        refine WL.e e_assign ?_
        refine WL.next ?_
        refine WP.seq ?_
        refine WP.reg ?_
        refine WL.e e_move <| WL.e e_move ?_
        refine WL.e (el_from (lo := A.length) sl47 (sl_rl (xs := (A ++ List.replicate (D.length + 1) ⟨.empty, 0⟩))) (by simp)) <| WL.e e_move ?_
        refine WL.h (hl_copy (lo := A.length) (xs := (A ++ List.replicate (D.length + 1) ⟨.empty, 0⟩)) (ys := [x]) sl47 rowE (by simp) (lit_rl (b := bv) (E := 70) (l := RowM.c x) rowE [x] (by simp)) ?_)
        refine WL.next ?_
        refine WP.seq ?_
        refine WP.draws mixedOk 9 ?_
        refine RW.e 0 rfl e_move <| RW.e 1 rfl e_move <| RW.e 2 rfl e_move <| RW.e 3 rfl (e_add (c := ((A.length + 1 : Nat) : Int)) rfl rfl (by rw [w_i64 (by omega) (by omega)]; omega)) ?_
        refine RW.e 4 rfl (el_from (lo := A.length + 1) sl47 (sl_rl (xs := over (A ++ List.replicate (D.length + 1) ⟨.empty, 0⟩) A.length [x])) (by rw [over_len _ _ _ (by simp)]; simp)) <| RW.e 5 rfl e_move <| RW.e 6 rfl e_move ?_
        refine RW.e 7 rfl (e_slice_at (lo := A.length) (hi := (A ++ D).length) (m := c) (c := c) (n := (A ++ D).length) sl47 rfl (At.lit hnc) (.inr ⟨_, _, rfl, rfl⟩) (.inl ⟨rfl, rfl, rfl⟩) (.inl ⟨rfl, rfl⟩) (by omega) (by omega) (Nat.le_refl _)) ?_
        refine RW.any (is := [8]) rfl ⟨?_, trivial⟩
        refine RWat.h rfl rfl rfl ?_
        refine (hl_copy (lo := A.length + 1) (xs := over (A ++ List.replicate (D.length + 1) ⟨.empty, 0⟩) A.length [x]) (ys := D) (B := cl b 70 l) sl47 rowE (by rw [over_len _ _ _ (by simp)]; simp) (rd_part rowE hAD (by have : (c - A.length) * 2 = c * 2 - A.length * 2 := Nat.sub_mul _ _ _; have := Nat.mul_le_mul_right 2 (show A.length ≤ c by omega); omega) rfl (by have := congrArg (List.drop (A.length * 2)) hcs; rw [List.drop_take, flat_drop rowE, List.drop_drop, ← Nat.sub_mul, List.drop_left] at this; rwa [show (A ++ D).length - A.length = D.length by omega] at this)) ?_)
        refine ⟨trivial, ?_⟩
        refine RW.done ?_
        refine PO.next ?_
        refine WP.seq ?_
        refine WP.reg ?_
        refine WL.e e_move <| WL.e e_assign ?_
        refine WL.next ?_
        refine WP.ret ?_
        refine PO.past nofun ?_
        rw [over_ins]
        exact PO.fin Tryz.results101 (rv_tmp rv_nil) (hK a3 n3 c3)
      · replace h2 : (A ++ D).length + 1 ≤ c := by simp at h2; omega
        obtain ⟨ic1, ic2, ic3, ic4⟩ := ins_cells (x := x) rowE hl h2 hcs
        have hones : ones (((l.drop (o + A.length * 2)).take ((D.length + 1) * 2)).take (Nat.min (D.length + 1) D.length * 2)) = true := by rw [show Nat.min (D.length + 1) D.length = D.length from Nat.min_eq_right (by omega), List.take_take, Nat.min_eq_left (Nat.mul_le_mul_right 2 (show D.length ≤ D.length + 1 by omega)), ic4]; exact ones_flat rowE D
        have hmz : ((A ++ D).length + 1) * 2 ≤ c * 2 := Nat.mul_le_mul_right _ h2
        have hA2 : At (subAt (.slice (some ⟨b, o, none⟩) (A ++ D).length c) 0 ((A ++ D).length + 1) c 2) b o ((A ++ D).length + 1) c := by have := (At.lit (b := b) (o := o) hnc).sub (lo := 0) (hi := (A ++ D).length + 1) (m := c) (z := 2) (by omega) h2 (Nat.le_refl _); simpa using this
        have hA3 : At (subAt (subAt (.slice (some ⟨b, o, none⟩) (A ++ D).length c) 0 ((A ++ D).length + 1) c 2) (A.length + 1) ((A ++ D).length + 1) c 2) b (o + (A.length + 1) * 2) D.length (c - (A.length + 1)) := by have := hA2.sub (lo := A.length + 1) (hi := (A ++ D).length + 1) (m := c) (z := 2) (by omega) h2 (Nat.le_refl _); rwa [show (A ++ D).length + 1 - (A.length + 1) = D.length by omega] at this
        have hOv : ∃ o2, subAt (subAt (.slice (some ⟨b, o, none⟩) (A ++ D).length c) 0 ((A ++ D).length + 1) c 2) (A.length + 1) ((A ++ D).length + 1) c 2 = .slice (some ⟨b, o2, none⟩) D.length (c - (A.length + 1)) := ⟨_, by obtain ⟨y, hy, _, rfl | h⟩ := hA3; exact hy; omega⟩
        have hA4 : At (subAt (subAt (.slice (some ⟨b, o, none⟩) (A ++ D).length c) 0 ((A ++ D).length + 1) c 2) A.length ((A ++ D).length + 1) c 2) b (o + A.length * 2) (D.length + 1) (c - A.length) := by have := hA2.sub (lo := A.length) (hi := (A ++ D).length + 1) (m := c) (z := 2) (by omega) h2 (Nat.le_refl _); rwa [show (A ++ D).length + 1 - A.length = D.length + 1 by omega] at this
        refine WP.skip ?_
        refine PO.next ?_
        refine WP.seq ?_
        refine WP.reg ?_
        refine WL.e e_move <| WL.e e_move <| WL.e e_move <| WL.e (e_add (c := (((A ++ D).length + 1 : Nat) : Int)) rfl rfl (by rw [w_i64 (by omega) (by omega)]; omega)) ?_
        refine WL.e (e_slice_at (lo := 0) (hi := (A ++ D).length + 1) (m := c) (c := c) (n := (A ++ D).length) sl47 rfl (At.lit hnc) (.inl ⟨rfl, rfl⟩) (.inr ⟨_, _, rfl, rfl⟩) (.inl ⟨rfl, rfl⟩) (by omega) h2 (Nat.le_refl _)) <| WL.e e_assign ?_
        refine WL.next ?_
        refine WP.seq ?_
        refine WP.seq ?_
        refine WP.reg ?_
        refine WL.e e_move <| WL.e e_move <| WL.e e_move <| WL.e e_move <| WL.e (e_add (c := ((A.length + 1 : Nat) : Int)) rfl rfl (by rw [w_i64 (by omega) (by omega)]; omega)) ?_
        refine WL.e (e_slice_at (lo := A.length + 1) (hi := (A ++ D).length + 1) (m := c) (c := c) (n := (A ++ D).length + 1) sl47 rfl hA2 (.inr ⟨_, _, rfl, rfl⟩) (.inl ⟨rfl, rfl, rfl⟩) (.inl ⟨rfl, rfl⟩) (by omega) h2 (Nat.le_refl _)) ?_
        refine WL.h (h_overlaps (U := 70) (l1 := RowM.c x) (l2 := l) (b1 := bv) (b2 := b) (n2 := D.length) (c2 := c - (A.length + 1)) (n1 := 1) (c1 := 1) (o1 := 0) Tryz.func117 ov1_117 ov2_117 ov3_117 ov4_117 sl47 rfl hOv (by repeat first | exact .z | apply Pick.s) (by repeat first | exact .z | apply Pick.s) (by omega) ?_)
        refine WL.e e_not ?_
        refine WL.next ?_
        refine WP.cond_t rfl ?_
        refine WP.seq ?_
        refine WP.draws mixedOk 9 ?_
        refine RW.e 0 rfl e_move <| RW.e 1 rfl e_move <| RW.e 2 rfl e_move <| RW.e 3 rfl (e_add (c := ((A.length + 1 : Nat) : Int)) rfl rfl (by rw [w_i64 (by omega) (by omega)]; omega)) ?_
        refine RW.e 4 rfl (e_slice_at (lo := A.length + 1) (hi := (A ++ D).length + 1) (m := c) (c := c) (n := (A ++ D).length + 1) sl47 rfl hA2 (.inr ⟨_, _, rfl, rfl⟩) (.inl ⟨rfl, rfl, rfl⟩) (.inl ⟨rfl, rfl⟩) (by omega) h2 (Nat.le_refl _)) <| RW.e 5 rfl e_move <| RW.e 6 rfl e_move ?_
        refine RW.e 7 rfl (e_slice_at (lo := A.length) (hi := (A ++ D).length + 1) (m := c) (c := c) (n := (A ++ D).length + 1) sl47 rfl hA2 (.inr ⟨_, _, rfl, rfl⟩) (.inl ⟨rfl, rfl, rfl⟩) (.inl ⟨rfl, rfl⟩) (by omega) h2 (Nat.le_refl _)) ?_
        refine RW.any (is := [8]) rfl ⟨?_, trivial⟩
        refine RWat.h rfl rfl rfl ?_
        refine (h_copy (n := D.length) (c := c - (A.length + 1)) (k := D.length + 1) (o := o + (A.length + 1) * 2) (U := 70) (l := l) (ds := (l.drop (o + A.length * 2)).take ((D.length + 1) * 2)) (B := cl b 70 l) sl47 hA3 (by have : (c - (A.length + 1)) * 2 = c * 2 - (A.length + 1) * 2 := Nat.sub_mul _ _ _; have := Nat.mul_le_mul_right 2 (show A.length + 1 ≤ c by omega); omega) (hA4.rd (by have : (c - A.length) * 2 = c * 2 - A.length * 2 := Nat.sub_mul _ _ _; have := Nat.mul_le_mul_right 2 (show A.length ≤ c by omega); omega)) hones ?_)
        rw [show Nat.min (D.length + 1) D.length = D.length from Nat.min_eq_right (by omega), List.take_take, Nat.min_eq_left (Nat.mul_le_mul_right 2 (show D.length ≤ D.length + 1 by omega)), ic4]
        refine ⟨trivial, ?_⟩
        refine RW.done ?_
        refine PO.next ?_
        refine WP.seq ?_
        refine WP.reg ?_
        refine WL.e e_move <| WL.e e_move ?_
        refine WL.e (e_slice_at (lo := A.length) (hi := (A ++ D).length + 1) (m := c) (c := c) (n := (A ++ D).length + 1) sl47 rfl hA2 (.inr ⟨_, _, rfl, rfl⟩) (.inl ⟨rfl, rfl, rfl⟩) (.inl ⟨rfl, rfl⟩) (by omega) h2 (Nat.le_refl _)) <| WL.e e_move ?_
        refine WL.h (h_copy (n := D.length + 1) (c := c - A.length) (k := 1) (o := o + A.length * 2) (U := 70) (l := splice l (o + (A.length + 1) * 2) (D.flatMap RowM.c)) (ds := RowM.c x) (B := cl bv 70 (RowM.c x)) sl47 hA4 (by rw [ic3]; have : (c - A.length) * 2 = c * 2 - A.length * 2 := Nat.sub_mul _ _ _; have := Nat.mul_le_mul_right 2 (show A.length ≤ c by omega); omega) (cl_rd (b := bv) (n := 1) (c := 1) (o := 0) (z := 2) (Nat.le_refl 1) (by rw [rowE.len]; omega) (by rw [List.drop_zero, List.take_of_length_le (by rw [rowE.len]; omega)])) (ones_take _ (rowE.one x)) ?_)
        rw [show Nat.min 1 (D.length + 1) = 1 from Nat.min_eq_left (by omega), List.take_of_length_le (show (RowM.c x).length ≤ 1 * 2 by rw [rowE.len]; omega)]
        refine WL.next ?_
        refine WP.seq ?_
        refine WP.reg ?_
        refine WL.e e_move <| WL.e e_assign ?_
        refine WL.next ?_
        refine WP.ret ?_
        refine PO.past nofun ?_
        refine PO.cls (A := Sl 70 2 RowM.c (subAt (.slice (some ⟨b, o, none⟩) (A ++ D).length c) 0 ((A ++ D).length + 1) c 2) (A ++ x :: D)) (B := [cl b 70 _]) (fun S h => ?_) ?_
        · have h := stars_one h
          unfold Sl
          rw [show (A ++ x :: D).length = (A ++ D).length + 1 by simp; omega]
          refine at_own hA2 hc ?_ ?_ S h
          · rw [ic2]; exact hl
          · exact ic1
        exact PO.fin Tryz.results101 (rv_tmp rv_nil) (hK _ _ _)

end Go.SL
