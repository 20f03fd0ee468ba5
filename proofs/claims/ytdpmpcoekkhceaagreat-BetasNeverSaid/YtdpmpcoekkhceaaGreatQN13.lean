/- W9 WA SLt SLu: rules and walks, several texts in one. -/
import Derived.Test.YtdpmpcoekkhceaaGreatQN12
import Derived.Test.YtdpmpcoekkhceaaGreatProg
import Derived.KernelRfl
import Derived.ProofKit
import Derived.Below
import Derived.Carry
import Derived.Lib.SmallJoins
import Derived.OpenShut
import Derived.ShutString
import Derived.ChangeOld
import Derived.Laws.StructEq
set_option linter.unusedSimpArgs false
set_option linter.unusedVariables false
namespace Go.SL.W9
open Go Go.Proofs Go.SL
theorem mixedOk : Tryz.prog.follows .mixedOrders = true := by kernel_rfl
theorem ov1_187 : (Tryz.f187.name == "runtime.NumGoroutine") = false := by kernel_rfl
theorem ov2_187 : Tryz.f187.body.isNone = true := by kernel_rfl
theorem ov3_187 : Extern.findNext Tryz.f187 = none := by kernel_rfl
theorem ov4_187 : Extern.find Tryz.f187 = some (Extern.SlicesOverlaps.overlaps #[29, 29] #[4]) := by kernel_rfl
theorem sl29 : slOf Tryz.prog 29 = some (40, 2, 24) := by kernel_rfl
theorem z40 : zeroOf Tryz.prog 40 = some [.string .empty, .int .u32 0] := by kernel_rfl
end Go.SL.W9
namespace Go.SL
open Go Go.Proofs W9
theorem Insert_spec {g : World} {u : Value} {A D : List RowM} {x : RowM} {bv : Nat} (hn : (A ++ D).length ≤ 68719476000) :
    Spec Tryz.prog g 160 [u, .int .i64 A.length, (.slice (some ⟨bv, 0, none⟩) 1 1)] [Sl 40 2 RowM.c u (A ++ D), cl bv 40 (RowM.c x)] fun K R => ∀ a m c, K (.slice a m c) (Sl 40 2 RowM.c (.slice a m c) (A ++ x :: D) :: R) := by
  have hlen : (A ++ D).length = A.length + D.length := by simp
  refine Spec.intro Tryz.func160 rfl Tryz.ntmps160 rfl fun R K hK => ?_
  refine WP.seq ?_
  refine WP.reg ?_
  refine WL.e e_assign ?_
  refine WL.next ?_
  refine WP.seq ?_
  refine WP.reg ?_
  refine WL.e e_move <| WL.e e_move ?_
  refine WL.e (el_from (lo := A.length) sl29 (sl_rl (xs := A ++ D)) (by simp)) ?_
  refine WL.next ?_
  refine WP.seq ?_
  refine WP.reg ?_
  refine WL.e e_move ?_
  refine WL.e (e_len_sl sl29) <| WL.e e_assign ?_
  refine WL.next ?_
  refine WP.seq ?_
  refine WP.seq ?_
  refine WP.reg ?_
  refine WL.e e_move <| WL.e e_eql ?_
  refine WL.next ?_
  refine WP.cond rfl (fun h0 => ?_) (fun h0 => ?_)
  · simp at h0
  · skip
    refine WP.skip ?_
    refine PO.next ?_
    refine WP.seq ?_
    refine WP.reg ?_
    refine WL.e e_move ?_
    refine WL.e (el_len sl29 (sl_rl (xs := A ++ D))) <| WL.e e_assign ?_
    refine WL.next ?_
    refine WP.seq ?_
    refine WP.seq ?_
    refine WP.reg ?_
    refine WL.e e_move <| WL.e e_move <| WL.e e_eql ?_
    refine WL.next ?_
    refine WP.cond rfl (fun h1 => ?_) (fun h1 => ?_)
    · obtain rfl : D = [] := List.eq_nil_of_length_eq_zero (by simp at h1; omega)
      refine WP.seq ?_
      refine WP.reg ?_
      refine WL.e e_move <| WL.e e_move ?_
      refine WL.h (hl_append (xs := A ++ []) (ys := [x]) sl29 rowE z40 (lit_rl (b := bv) (E := 40) (l := RowM.c x) rowE [x] (by simp)) (by simp at hn ⊢; omega) (fun a m c => ?_))
      rw [List.append_nil]
      refine WL.e e_assign ?_
      refine WL.next ?_
      refine WP.ret ?_
      refine PO.past nofun ?_
      exact PO.fin Tryz.results160 (rv_tmp rv_nil) (hK a m c)
    · have hD0 : 0 < D.length := by simp at h1; omega
      refine WP.own_open (n := (A ++ D).length) (by omega) (by exact .z) ?_
      rintro b o c l rfl hnc hc hl hcs
      have hcA : (l.drop o).take (A.length * 2) = A.flatMap RowM.c := by
        have := congrArg (List.take (A.length * 2)) hcs
        rwa [List.take_take, Nat.min_eq_left (Nat.mul_le_mul_right _ (by omega)), List.flatMap_append, List.take_left' (flat_len rowE A)] at this
      have hA0 : At (subAt (.slice (some ⟨b, o, none⟩) (A ++ D).length c) 0 A.length c 2) b o A.length c := by have := (At.lit (b := b) (o := o) hnc).sub (lo := 0) (hi := A.length) (m := c) (z := 2) (by omega) (by omega) (Nat.le_refl _); simpa using this
      have hAD : At (subAt (.slice (some ⟨b, o, none⟩) (A ++ D).length c) A.length (A ++ D).length c 2) b (o + A.length * 2) D.length (c - A.length) := by have := (At.lit (b := b) (o := o) hnc).sub (lo := A.length) (hi := (A ++ D).length) (m := c) (z := 2) (by omega) (by omega) (Nat.le_refl _); rwa [show (A ++ D).length - A.length = D.length by omega] at this
      refine WP.skip ?_
      refine PO.next ?_
      refine WP.seq ?_
      refine WP.seq ?_
      refine WP.reg ?_
      refine WL.e e_move <| WL.e e_move <| WL.e (e_add (c := (((A ++ D).length + 1 : Nat) : Int)) rfl rfl (by rw [w_i64 (by omega) (by omega)]; omega)) <| WL.e e_move ?_
      refine WL.e (e_cap sl29 rfl (At.lit hnc)) <| WL.e e_gtr ?_
      refine WL.next ?_
      refine WP.cond rfl (fun h2 => ?_) (fun h2 => ?_)
      · replace h2 : c < (A ++ D).length + 1 := by simp at h2; omega
        have hgro : ∀ u, Own 40 2 u (A.length + (D.length + 1)) ((l.drop o).take (A.length * 2) ++ (List.replicate (D.length + 1) [.string .empty, .int .u32 0]).flatten) = Sl 40 2 RowM.c u (A ++ List.replicate (D.length + 1) ⟨.empty, 0⟩) := fun u => by
          unfold Sl
          rw [hcA, List.flatMap_append, show (List.replicate (D.length + 1) (⟨.empty, 0⟩ : RowM)).flatMap RowM.c = (List.replicate (D.length + 1) [.string .empty, .int .u32 0]).flatten by simp [List.flatMap_replicate]; rfl, List.length_append, List.length_replicate]
        refine WP.seq ?_
        refine WP.reg ?_
        refine WL.e e_move <| WL.e e_move ?_
        refine WL.e (e_slice_at (lo := 0) (hi := A.length) (m := c) (c := c) (n := (A ++ D).length) sl29 rfl (At.lit hnc) (.inl ⟨rfl, rfl⟩) (.inr ⟨_, _, rfl, rfl⟩) (.inl ⟨rfl, rfl⟩) (by omega) (by omega) (Nat.le_refl _)) <| WL.e e_move <| WL.e e_move <| WL.e (e_add (c := (((A ++ D).length + 1 : Nat) : Int)) rfl rfl (by rw [w_i64 (by omega) (by omega)]; omega)) <| WL.e e_move <| WL.e (e_sub (c := ((D.length + 1 : Nat) : Int)) rfl rfl (by rw [w_i64 (by omega) (by omega)]; omega)) ?_
        refine WL.h (h_grow (n := A.length) (c := c) (k := D.length + 1) (b := b) (o := o) sl29 Tryz.underlying3 z40 rfl hA0 hl (by omega) (by omega) (by decide) (by decide) (fun a3 n3 c3 => ?_))
        rw [hgro]
        refine WL.e e_assign ?_
        refine WL.next ?_
        refine WP.seq ?_
        refine WP.reg ?_
        refine WL.e e_move <| WL.e e_move ?_
        refine WL.e (el_from (lo := A.length) sl29 (sl_rl (xs := (A ++ List.replicate (D.length + 1) ⟨.empty, 0⟩))) (by simp)) <| WL.e e_move ?_
        refine WL.h (hl_copy (lo := A.length) (xs := (A ++ List.replicate (D.length + 1) ⟨.empty, 0⟩)) (ys := [x]) sl29 rowE (by simp) (lit_rl (b := bv) (E := 40) (l := RowM.c x) rowE [x] (by simp)) ?_)
        refine WL.next ?_
        refine WP.seq ?_
        refine WP.draws mixedOk 9 ?_
        refine RW.e 0 rfl e_move <| RW.e 1 rfl e_move <| RW.e 2 rfl e_move <| RW.e 3 rfl (e_add (c := ((A.length + 1 : Nat) : Int)) rfl rfl (by rw [w_i64 (by omega) (by omega)]; omega)) ?_
        refine RW.e 4 rfl (el_from (lo := A.length + 1) sl29 (sl_rl (xs := over (A ++ List.replicate (D.length + 1) ⟨.empty, 0⟩) A.length [x])) (by rw [over_len _ _ _ (by simp)]; simp)) <| RW.e 5 rfl e_move <| RW.e 6 rfl e_move ?_
        refine RW.e 7 rfl (e_slice_at (lo := A.length) (hi := (A ++ D).length) (m := c) (c := c) (n := (A ++ D).length) sl29 rfl (At.lit hnc) (.inr ⟨_, _, rfl, rfl⟩) (.inl ⟨rfl, rfl, rfl⟩) (.inl ⟨rfl, rfl⟩) (by omega) (by omega) (Nat.le_refl _)) ?_
        refine RW.any (is := [8]) rfl ⟨?_, trivial⟩
        refine RWat.h rfl rfl rfl ?_
        refine (hl_copy (lo := A.length + 1) (xs := over (A ++ List.replicate (D.length + 1) ⟨.empty, 0⟩) A.length [x]) (ys := D) (B := cl b 40 l) sl29 rowE (by rw [over_len _ _ _ (by simp)]; simp) (rd_part rowE hAD (by have : (c - A.length) * 2 = c * 2 - A.length * 2 := Nat.sub_mul _ _ _; have := Nat.mul_le_mul_right 2 (show A.length ≤ c by omega); omega) rfl (by have := congrArg (List.drop (A.length * 2)) hcs; rw [List.drop_take, flat_drop rowE, List.drop_drop, ← Nat.sub_mul, List.drop_left] at this; rwa [show (A ++ D).length - A.length = D.length by omega] at this)) ?_)
        refine ⟨trivial, ?_⟩
        refine RW.done ?_
        refine PO.next ?_
        refine WP.seq ?_
        refine WP.reg ?_
        refine WL.e e_move <| WL.e e_assign ?_
        refine WL.next ?_
        refine WP.ret ?_
        refine PO.past nofun ?_
        rw [over_ins]
        exact PO.fin Tryz.results160 (rv_tmp rv_nil) (hK a3 n3 c3)
      · replace h2 : (A ++ D).length + 1 ≤ c := by simp at h2; omega
        obtain ⟨ic1, ic2, ic3, ic4⟩ := ins_cells (x := x) rowE hl h2 hcs
        have hones : ones (((l.drop (o + A.length * 2)).take ((D.length + 1) * 2)).take (Nat.min (D.length + 1) D.length * 2)) = true := by rw [show Nat.min (D.length + 1) D.length = D.length from Nat.min_eq_right (by omega), List.take_take, Nat.min_eq_left (Nat.mul_le_mul_right 2 (show D.length ≤ D.length + 1 by omega)), ic4]; exact ones_flat rowE D
        have hmz : ((A ++ D).length + 1) * 2 ≤ c * 2 := Nat.mul_le_mul_right _ h2
        have hA2 : At (subAt (.slice (some ⟨b, o, none⟩) (A ++ D).length c) 0 ((A ++ D).length + 1) c 2) b o ((A ++ D).length + 1) c := by have := (At.lit (b := b) (o := o) hnc).sub (lo := 0) (hi := (A ++ D).length + 1) (m := c) (z := 2) (by omega) h2 (Nat.le_refl _); simpa using this
        have hA3 : At (subAt (subAt (.slice (some ⟨b, o, none⟩) (A ++ D).length c) 0 ((A ++ D).length + 1) c 2) (A.length + 1) ((A ++ D).length + 1) c 2) b (o + (A.length + 1) * 2) D.length (c - (A.length + 1)) := by have := hA2.sub (lo := A.length + 1) (hi := (A ++ D).length + 1) (m := c) (z := 2) (by omega) h2 (Nat.le_refl _); rwa [show (A ++ D).length + 1 - (A.length + 1) = D.length by omega] at this
        have hOv : ∃ o2, subAt (subAt (.slice (some ⟨b, o, none⟩) (A ++ D).length c) 0 ((A ++ D).length + 1) c 2) (A.length + 1) ((A ++ D).length + 1) c 2 = .slice (some ⟨b, o2, none⟩) D.length (c - (A.length + 1)) := ⟨_, by obtain ⟨y, hy, _, rfl | h⟩ := hA3; exact hy; omega⟩
        have hA4 : At (subAt (subAt (.slice (some ⟨b, o, none⟩) (A ++ D).length c) 0 ((A ++ D).length + 1) c 2) A.length ((A ++ D).length + 1) c 2) b (o + A.length * 2) (D.length + 1) (c - A.length) := by have := hA2.sub (lo := A.length) (hi := (A ++ D).length + 1) (m := c) (z := 2) (by omega) h2 (Nat.le_refl _); rwa [show (A ++ D).length + 1 - A.length = D.length + 1 by omega] at this
        refine WP.skip ?_
        refine PO.next ?_
        refine WP.seq ?_
        refine WP.reg ?_
        refine WL.e e_move <| WL.e e_move <| WL.e e_move <| WL.e (e_add (c := (((A ++ D).length + 1 : Nat) : Int)) rfl rfl (by rw [w_i64 (by omega) (by omega)]; omega)) ?_
        refine WL.e (e_slice_at (lo := 0) (hi := (A ++ D).length + 1) (m := c) (c := c) (n := (A ++ D).length) sl29 rfl (At.lit hnc) (.inl ⟨rfl, rfl⟩) (.inr ⟨_, _, rfl, rfl⟩) (.inl ⟨rfl, rfl⟩) (by omega) h2 (Nat.le_refl _)) <| WL.e e_assign ?_
        refine WL.next ?_
        refine WP.seq ?_
        refine WP.seq ?_
        refine WP.reg ?_
        refine WL.e e_move <| WL.e e_move <| WL.e e_move <| WL.e e_move <| WL.e (e_add (c := ((A.length + 1 : Nat) : Int)) rfl rfl (by rw [w_i64 (by omega) (by omega)]; omega)) ?_
        refine WL.e (e_slice_at (lo := A.length + 1) (hi := (A ++ D).length + 1) (m := c) (c := c) (n := (A ++ D).length + 1) sl29 rfl hA2 (.inr ⟨_, _, rfl, rfl⟩) (.inl ⟨rfl, rfl, rfl⟩) (.inl ⟨rfl, rfl⟩) (by omega) h2 (Nat.le_refl _)) ?_
        refine WL.h (h_overlaps (U := 40) (l1 := RowM.c x) (l2 := l) (b1 := bv) (b2 := b) (n2 := D.length) (c2 := c - (A.length + 1)) (n1 := 1) (c1 := 1) (o1 := 0) Tryz.func187 ov1_187 ov2_187 ov3_187 ov4_187 sl29 rfl hOv (by repeat first | exact .z | apply Pick.s) (by repeat first | exact .z | apply Pick.s) (by omega) ?_)
        refine WL.e e_not ?_
        refine WL.next ?_
        refine WP.cond_t rfl ?_
        refine WP.seq ?_
        refine WP.draws mixedOk 9 ?_
        refine RW.e 0 rfl e_move <| RW.e 1 rfl e_move <| RW.e 2 rfl e_move <| RW.e 3 rfl (e_add (c := ((A.length + 1 : Nat) : Int)) rfl rfl (by rw [w_i64 (by omega) (by omega)]; omega)) ?_
        refine RW.e 4 rfl (e_slice_at (lo := A.length + 1) (hi := (A ++ D).length + 1) (m := c) (c := c) (n := (A ++ D).length + 1) sl29 rfl hA2 (.inr ⟨_, _, rfl, rfl⟩) (.inl ⟨rfl, rfl, rfl⟩) (.inl ⟨rfl, rfl⟩) (by omega) h2 (Nat.le_refl _)) <| RW.e 5 rfl e_move <| RW.e 6 rfl e_move ?_
        refine RW.e 7 rfl (e_slice_at (lo := A.length) (hi := (A ++ D).length + 1) (m := c) (c := c) (n := (A ++ D).length + 1) sl29 rfl hA2 (.inr ⟨_, _, rfl, rfl⟩) (.inl ⟨rfl, rfl, rfl⟩) (.inl ⟨rfl, rfl⟩) (by omega) h2 (Nat.le_refl _)) ?_
        refine RW.any (is := [8]) rfl ⟨?_, trivial⟩
        refine RWat.h rfl rfl rfl ?_
        refine (h_copy (n := D.length) (c := c - (A.length + 1)) (k := D.length + 1) (o := o + (A.length + 1) * 2) (U := 40) (l := l) (ds := (l.drop (o + A.length * 2)).take ((D.length + 1) * 2)) (B := cl b 40 l) sl29 hA3 (by have : (c - (A.length + 1)) * 2 = c * 2 - (A.length + 1) * 2 := Nat.sub_mul _ _ _; have := Nat.mul_le_mul_right 2 (show A.length + 1 ≤ c by omega); omega) (hA4.rd (by have : (c - A.length) * 2 = c * 2 - A.length * 2 := Nat.sub_mul _ _ _; have := Nat.mul_le_mul_right 2 (show A.length ≤ c by omega); omega)) hones ?_)
        rw [show Nat.min (D.length + 1) D.length = D.length from Nat.min_eq_right (by omega), List.take_take, Nat.min_eq_left (Nat.mul_le_mul_right 2 (show D.length ≤ D.length + 1 by omega)), ic4]
        refine ⟨trivial, ?_⟩
        refine RW.done ?_
        refine PO.next ?_
        refine WP.seq ?_
        refine WP.reg ?_
        refine WL.e e_move <| WL.e e_move ?_
        refine WL.e (e_slice_at (lo := A.length) (hi := (A ++ D).length + 1) (m := c) (c := c) (n := (A ++ D).length + 1) sl29 rfl hA2 (.inr ⟨_, _, rfl, rfl⟩) (.inl ⟨rfl, rfl, rfl⟩) (.inl ⟨rfl, rfl⟩) (by omega) h2 (Nat.le_refl _)) <| WL.e e_move ?_
        refine WL.h (h_copy (n := D.length + 1) (c := c - A.length) (k := 1) (o := o + A.length * 2) (U := 40) (l := splice l (o + (A.length + 1) * 2) (D.flatMap RowM.c)) (ds := RowM.c x) (B := cl bv 40 (RowM.c x)) sl29 hA4 (by rw [ic3]; have : (c - A.length) * 2 = c * 2 - A.length * 2 := Nat.sub_mul _ _ _; have := Nat.mul_le_mul_right 2 (show A.length ≤ c by omega); omega) (cl_rd (b := bv) (n := 1) (c := 1) (o := 0) (z := 2) (Nat.le_refl 1) (by rw [rowE.len]; omega) (by rw [List.drop_zero, List.take_of_length_le (by rw [rowE.len]; omega)])) (ones_take _ (rowE.one x)) ?_)
        rw [show Nat.min 1 (D.length + 1) = 1 from Nat.min_eq_left (by omega), List.take_of_length_le (show (RowM.c x).length ≤ 1 * 2 by rw [rowE.len]; omega)]
        refine WL.next ?_
        refine WP.seq ?_
        refine WP.reg ?_
        refine WL.e e_move <| WL.e e_assign ?_
        refine WL.next ?_
        refine WP.ret ?_
        refine PO.past nofun ?_
        refine PO.cls (A := Sl 40 2 RowM.c (subAt (.slice (some ⟨b, o, none⟩) (A ++ D).length c) 0 ((A ++ D).length + 1) c 2) (A ++ x :: D)) (B := [cl b 40 _]) (fun S h => ?_) ?_
        · have h := stars_one h
          unfold Sl
          rw [show (A ++ x :: D).length = (A ++ D).length + 1 by simp; omega]
          refine at_own hA2 hc ?_ ?_ S h
          · rw [ic2]; exact hl
          · exact ic1
        exact PO.fin Tryz.results160 (rv_tmp rv_nil) (hK _ _ _)
end Go.SL
set_option linter.unusedSimpArgs false
set_option linter.unusedVariables false
namespace Go.SL.WA
open Go Go.Proofs Go.SL
theorem a108 : aggOf Tryz.prog 108 = some (some 3) := by kernel_rfl
theorem a123 : aggOf Tryz.prog 123 = some none := by kernel_rfl
theorem a22 : aggOf Tryz.prog 22 = some none := by kernel_rfl
theorem a29 : aggOf Tryz.prog 29 = some none := by kernel_rfl
theorem a3 : aggOf Tryz.prog 3 = some none := by kernel_rfl
theorem a4 : aggOf Tryz.prog 4 = some none := by kernel_rfl
theorem a40 : aggOf Tryz.prog 40 = some (some 2) := by kernel_rfl
theorem a69 : aggOf Tryz.prog 69 = some (some 2) := by kernel_rfl
theorem a9 : aggOf Tryz.prog 9 = some none := by kernel_rfl
theorem f108_0 : fldOf Tryz.prog 108 0 = some 0 := by kernel_rfl
theorem f108_1 : fldOf Tryz.prog 108 1 = some 1 := by kernel_rfl
theorem f108_2 : fldOf Tryz.prog 108 2 = some 2 := by kernel_rfl
theorem f223_0 : fldOf Tryz.prog 223 0 = some 0 := by kernel_rfl
theorem f40_0 : fldOf Tryz.prog 40 0 = some 0 := by kernel_rfl
theorem f40_1 : fldOf Tryz.prog 40 1 = some 1 := by kernel_rfl
theorem f69_0 : fldOf Tryz.prog 69 0 = some 0 := by kernel_rfl
theorem f69_1 : fldOf Tryz.prog 69 1 = some 1 := by kernel_rfl
theorem k121 : callable Tryz.prog 121 = true := by kernel_rfl
theorem k122 : callable Tryz.prog 122 = true := by kernel_rfl
theorem k123 : callable Tryz.prog 123 = true := by kernel_rfl
theorem k124 : callable Tryz.prog 124 = true := by kernel_rfl
theorem k125 : callable Tryz.prog 125 = true := by kernel_rfl
theorem k126 : callable Tryz.prog 126 = true := by kernel_rfl
theorem k156 : callable Tryz.prog 156 = true := by kernel_rfl
theorem k157 : callable Tryz.prog 157 = true := by kernel_rfl
theorem k159 : callable Tryz.prog 159 = true := by kernel_rfl
theorem k160 : callable Tryz.prog 160 = true := by kernel_rfl
theorem k63 : callable Tryz.prog 63 = true := by kernel_rfl
theorem p40 : placesOf Tryz.prog 40 = some [(0, 1), (1, 1)] := by kernel_rfl
theorem s108 : szOf Tryz.prog 108 = some 3 := by kernel_rfl
theorem s22 : szOf Tryz.prog 22 = some 1 := by kernel_rfl
theorem s29 : szOf Tryz.prog 29 = some 1 := by kernel_rfl
theorem s40 : szOf Tryz.prog 40 = some 2 := by kernel_rfl
theorem sl103 : slOf Tryz.prog 103 = some (108, 3, 24) := by kernel_rfl
theorem sl29 : slOf Tryz.prog 29 = some (40, 2, 24) := by kernel_rfl
theorem z108 : zeroOf Tryz.prog 108 = some [.string .empty, .int .u32 0, .bool false] := by kernel_rfl
theorem z29 : zeroOf Tryz.prog 29 = some [.slice none 0 0] := by kernel_rfl
theorem z40 : zeroOf Tryz.prog 40 = some [.string .empty, .int .u32 0] := by kernel_rfl
end Go.SL.WA
namespace Go.SL
open Go Go.Proofs WA
theorem Insert_at {g : World} {u : Value} {xs : List RowM} {i : Nat} {x : RowM} {bv : Nat} (hi : i ≤ xs.length) (hn : xs.length ≤ 68719476000) :
    Spec Tryz.prog g 160 [u, .int .i64 i, .slice (some ⟨bv, 0, none⟩) 1 1] [Sl 40 2 RowM.c u xs, cl bv 40 (RowM.c x)] fun K R => ∀ a m c, K (.slice a m c) (Sl 40 2 RowM.c (.slice a m c) (xs.take i ++ x :: xs.drop i) :: R) := by
  have h := Insert_spec (g := g) (u := u) (A := xs.take i) (D := xs.drop i) (x := x) (bv := bv) (by rw [List.take_append_drop]; exact hn)
  rw [List.take_append_drop, List.length_take_of_le hi] at h
  exact h
theorem set_spec {g : World} {p : Nat} {l : List RowM} (k : ByteArray) (v : UInt32) (hl : Rising l) (hn : l.length ≤ 68719476000) : Spec Tryz.prog g 126 [.pointer (some ⟨p, 0, none⟩), .string k, .int .u32 v.toNat] [Mm p l] fun K R => K (.tuple #[]) (Mm p (setR l k v) :: R) := by
  refine Spec.intro Tryz.func126 rfl Tryz.ntmps126 rfl fun R K hK => ?_
  refine WP.seq ?_
  refine WP.reg ?_
  refine WL.e e_move <| WL.e e_move ?_
  refine WL.h (h_call (find_spec k hl (by omega)) k157 ?_)
  refine WL.e e_move <| WL.e e_extract <| WL.e e_extract <| WL.e e_assign <| WL.e e_assign ?_
  refine WL.next ?_
  refine WP.seq ?_
  refine WP.seq ?_
  refine WP.reg ?_
  refine WL.e e_move <| WL.e e_not ?_
  refine WL.next ?_
  refine WP.cond rfl (fun h1 => ?_) (fun h1 => ?_)
  · replace h1 : hasI l k = false := by simpa using h1
    have hle := lowI_le l k
    refine WP.opn (Mm_op (p := p) (l := l)) fun s => ?_
    refine WP.reg ?_
    refine WL.e e_move <| WL.e e_move <| WL.e e_nil <| WL.e (e_fa f223_0) <| WL.e (e_load a29) <| WL.e e_move <| WL.e e_move <| WL.e (e_build z40 p40 (.o (.tmp 22) rfl <| .z (.int .u32 0) <| .n)) ?_
    refine WL.h (h_bs sl29 z40 (.a2 (.tmp 23) rfl <| .n) fun b1 => ?_)
    refine WL.h (h_call (Insert_at (i := lowI l k) (xs := l) (x := ⟨k, 0⟩) hle hn) k160 ?_)
    intro a m c
    refine WL.e e_nil <| WL.e (e_fa f223_0) ?_
    refine WL.h' (h_store s29 ?_)
    refine WL.next ?_
    refine WP.reg ?_
    refine WL.e e_move <| WL.e e_nil <| WL.e (e_fa f223_0) <| WL.e (e_load a29) <| WL.e e_move <| WL.e e_move ?_
    refine WL.e (el_ia (j := lowI l k) (xs := l.take (lowI l k) ++ ⟨k, 0⟩ :: l.drop (lowI l k)) sl29 sl_rl (by simp; omega)) ?_
    refine WL.e (el_fa (z := 2) (j := lowI l k) (xs := l.take (lowI l k) ++ ⟨k, 0⟩ :: l.drop (lowI l k)) f40_1 sl_rl (by simp; omega)) ?_
    refine WL.h' (hl_set (y := 0) (j := 0) (f := lowI l k * 2 + 1) (n := (l.take (lowI l k) ++ ⟨k, 0⟩ :: l.drop (lowI l k)).length) (z := 2) (E := 40) (cs := (l.take (lowI l k) ++ ⟨k, 0⟩ :: l.drop (lowI l k)).flatMap RowM.c) s22 (by simp; omega) ?_ rfl)
    rw [flat_setF (xs := l.take (lowI l k) ++ ⟨k, 0⟩ :: l.drop (lowI l k)) (a := ⟨k, 0⟩) (a' := ⟨k, v⟩) rowE (by rw [List.getElem?_append_right (by simp; omega)]; simp [Nat.min_eq_left hle]) (by decide) rfl]
    refine WL.nil ?_
    rw [set_app (by simp; omega), show l.take (lowI l k) ++ ⟨k, v⟩ :: l.drop (lowI l k) = setR l k v by rw [setR, if_neg (by simp [h1])]]
    refine PO.cls (A := Mm p (setR l k v)) (B := [cl p 223 [.slice a m c, .bool true], Own 40 2 (.slice a m c) _ _]) (fun S h => ⟨⟨a, m, c⟩, by unfold Sl; rwa [show (setR l k v).length = (l.take (lowI l k) ++ ⟨k, 0⟩ :: l.drop (lowI l k)).length by rw [setR, if_neg (by simp [h1])]; simp]⟩) ?_
    exact PO.fin Tryz.results126 rv_nil hK
  · replace h1 : hasI l k = true := by simpa using h1
    refine WP.opn (Mm_op (p := p) (l := l)) fun s => ?_
    refine WP.skip ?_
    refine PO.next ?_
    refine WP.reg ?_
    refine WL.e e_move <| WL.e e_nil <| WL.e (e_fa f223_0) <| WL.e (e_load a29) <| WL.e e_move <| WL.e e_move ?_
    refine WL.e (el_ia (j := lowI l k) (xs := l) sl29 sl_rl (has_lt h1)) ?_
    refine WL.e (el_fa (z := 2) (j := lowI l k) (xs := l) f40_1 sl_rl (has_lt h1)) ?_
    obtain ⟨u, hu⟩ := has_at h1
    refine WL.h' (hl_set (y := 0) (j := 0) (f := lowI l k * 2 + 1) (n := l.length) (z := 2) (E := 40) (cs := l.flatMap RowM.c) s22 (by have := has_lt h1; omega) ?_ rfl)
    rw [flat_setF (xs := l) (a := ⟨k, u⟩) (a' := ⟨k, v⟩) rowE hu (by decide) rfl]
    refine WL.nil ?_
    rw [show l.set (lowI l k) ⟨k, v⟩ = setR l k v by rw [setR, if_pos h1]]
    refine PO.cls (A := Mm p (setR l k v)) (B := [cl p 223 [s.v, .bool true], Own 40 2 s.v _ _]) (fun S h => ⟨s, by unfold Sl; rwa [show (setR l k v).length = l.length by rw [setR, if_pos h1]; simp]⟩) ?_
    exact PO.fin Tryz.results126 rv_nil hK
theorem drop_spec {g : World} {p : Nat} {l : List RowM} (k : ByteArray) (hl : Rising l) (hn : l.length ≤ 68719476000) : Spec Tryz.prog g 125 [.pointer (some ⟨p, 0, none⟩), .string k] [Mm p l] fun K R => K (.bool (hasI l k)) (Mm p (dropR l k) :: R) := by
  refine Spec.intro Tryz.func125 rfl Tryz.ntmps125 rfl fun R K hK => ?_
  refine WP.seq ?_
  refine WP.reg ?_
  refine WL.e e_assign ?_
  refine WL.next ?_
  refine WP.seq ?_
  refine WP.reg ?_
  refine WL.e e_move <| WL.e e_move ?_
  refine WL.h (h_call (find_spec k hl (by omega)) k157 ?_)
  refine WL.e e_move <| WL.e e_extract <| WL.e e_extract <| WL.e e_assign <| WL.e e_assign ?_
  refine WL.next ?_
  refine WP.seq ?_
  refine WP.seq ?_
  refine WP.reg ?_
  refine WL.e e_move ?_
  refine WL.next ?_
  refine WP.cond rfl (fun h1 => ?_) (fun h1 => ?_)
  · obtain ⟨u, hu⟩ := has_at h1
    refine WP.opn (Mm_op (p := p) (l := l)) fun s => ?_
    refine WP.reg ?_
    refine WL.e e_move <| WL.e e_move <| WL.e e_nil <| WL.e (e_fa f223_0) <| WL.e (e_load a29) <| WL.e e_move <| WL.e e_move <| WL.e (e_add (c := ((lowI l k + 1 : Nat) : Int)) rfl rfl (by have := has_lt h1; rw [w_i64 (by omega) (by omega)]; omega)) ?_
    refine WL.h (h_call (Delete_spec (i := lowI l k) (xs := l) hu (by omega)) k159 ?_)
    intro a m c
    refine WL.e e_nil <| WL.e (e_fa f223_0) ?_
    refine WL.h' (h_store s29 ?_)
    refine WL.next ?_
    refine WP.seq ?_
    refine WP.reg ?_
    refine WL.e e_move <| WL.e e_assign ?_
    refine WL.next ?_
    refine WP.ret ?_
    rw [show l.eraseIdx (lowI l k) = dropR l k by rw [dropR, if_pos h1]]
    refine PO.cls (A := Mm p (dropR l k)) (B := [cl p 223 [.slice a m c, .bool true], Sl 40 2 RowM.c (.slice a m c) (dropR l k)]) (fun S h => ⟨⟨a, m, c⟩, h⟩) ?_
    exact PO.fin Tryz.results125 (rv_tmp rv_nil) hK
  · rw [dropR, if_neg (by simp [h1])] at hK
    refine WP.skip ?_
    refine PO.next ?_
    refine WP.seq ?_
    refine WP.reg ?_
    refine WL.e e_move <| WL.e e_assign ?_
    refine WL.next ?_
    refine WP.ret ?_
    exact PO.fin Tryz.results125 (rv_tmp rv_nil) hK
theorem Change_spec {g : World} {A : HP} {u : Value} {p : Nat} {l : List RowM} {cs : List ChgM} (hA : RL A 3 ChgM.c u cs) (hl : Rising l) (hn : l.length + cs.length ≤ 68719476000) : Spec Tryz.prog g 70 [.pointer (some ⟨p, 0, none⟩), u] [Mm p l, A] fun K R => (cs.any (fun c => !chgOk c) = true → K (.int .i64 1) (Mm p l :: A :: R)) ∧ (cs.any (fun c => !chgOk c) = false → K (.int .i64 0) (Mm p (changeR l cs) :: A :: R)) := by
  refine Spec.intro Tryz.func70 rfl Tryz.ntmps70 rfl fun R K hK => ?_
  refine WP.seq ?_
  refine WP.reg ?_
  refine WL.e e_assign ?_
  refine WL.next ?_
  refine WP.seq ?_
  refine WP.seq ?_
  refine WP.reg ?_
  refine WL.e e_move ?_
  refine WL.h (h_call (Mthere_spec) k122 ?_)
  refine WL.e e_not ?_
  refine WL.next ?_
  refine WP.cond_f rfl ?_
  refine WP.skip ?_
  refine PO.next ?_
  refine WP.seq ?_
  refine WP.seq ?_
  refine WP.reg ?_
  refine WL.e e_move ?_
  refine WL.conv (fun S h => pu_stars trivial h) ?_
  refine WL.h (h_call (ContainsC_spec (B := pu True) hA (by omega) (fun x => CallV.more (CallV.of_spec (fs := []) (cs := []) (bad_spec x) k124))) k123 ?_)
  refine WL.next ?_
  refine WP.cond rfl (fun h1 => ?_) (fun h1 => ?_)
  · skip
    refine WP.seq ?_
    refine WP.reg ?_
    refine WL.e e_assign ?_
    refine WL.next ?_
    refine WP.ret ?_
    refine PO.past nofun ?_
    exact PO.fin Tryz.results70 (rv_tmp rv_nil) (hK.1 h1)
  · skip
    refine WP.skip ?_
    refine PO.next ?_
    refine WP.seq ?_
    refine WP.seq ?_
    refine WP.reg ?_
    refine WL.e e_move ?_
    refine WL.e (el_len sl103 hA) <| WL.e e_move ?_
    refine WL.next ?_
    refine WP.block ?_
    refine WP.loopK (fun (i : Nat) => [(14, .int .i64 i)]) (fun (i : Nat) => Mm p (changeR l (cs.take i)) :: A :: R) [(0, _), (4, _), (12, _), (13, _)] (fun (i : Nat) => i ≤ cs.length) (fun (i : Nat) => cs.length - i) 0 (Nat.zero_le _) ?_
    intro i hi
    refine WP.seq ?_
    refine WP.reg ?_
    refine WL.e e_lss ?_
    refine WL.next ?_
    refine WP.seq ?_
    refine WP.cond rfl (fun h2 => ?_) (fun h2 => ?_)
    · have hlt : i < cs.length := by rw [decide_eq_true_eq] at h2; omega
      obtain ⟨c, hc⟩ : ∃ c, cs[i]? = some c := ⟨_, List.getElem?_eq_getElem hlt⟩
      obtain ⟨hr1, hr2⟩ := changeR_rising (cs.take i) hl
      rw [List.length_take] at hr2
      refine WP.skip ?_
      refine PO.next ?_
      refine WP.seq ?_
      refine WP.block ?_
      refine WP.seq ?_
      refine WP.reg ?_
      refine WL.e (el_ia sl103 hA hlt) ?_
      refine WL.e (el_loadN (a := c) a108 chgE hA hc) ?_
      refine WL.h (h_alloc z108 fun b1 => ?_)
      refine WL.h' (h_store s108 ?_)
      refine WL.next ?_
      refine WP.seq ?_
      refine WP.reg ?_
      refine WL.e (e_fa f108_2) <| WL.e (e_load a4) ?_
      refine WL.next ?_
      refine WP.cond rfl (fun h3 => ?_) (fun h3 => ?_)
      · skip
        refine WP.reg ?_
        refine WL.e e_move <| WL.e (e_fa f108_0) <| WL.e (e_load a9) ?_
        refine WL.h (h_call (drop_spec c.key hr1 (by omega)) k125 ?_)
        refine WL.nil ?_
        refine PO.blockN ?_
        refine PO.next ?_
        refine WP.reg ?_
        refine WL.e (e_add rfl rfl (w_i64 (by omega) (by omega))) <| WL.e e_move ?_
        refine WL.nil ?_
        rw [show dropR (changeR l (cs.take i)) c.key = changeR l (cs.take (i + 1)) by rw [take_snoc hc, changeR_snoc, applyC, if_pos h3]]
        exact PO.againK (i + 1) (by omega) (by omega)
      · skip
        refine WP.reg ?_
        refine WL.e e_move <| WL.e (e_fa f108_0) <| WL.e (e_load a9) <| WL.e (e_fa f108_1) <| WL.e (e_load a22) ?_
        refine WL.h (h_call (set_spec c.key c.val hr1 (by omega)) k126 ?_)
        refine WL.nil ?_
        refine PO.blockN ?_
        refine PO.next ?_
        refine WP.reg ?_
        refine WL.e (e_add rfl rfl (w_i64 (by omega) (by omega))) <| WL.e e_move ?_
        refine WL.nil ?_
        rw [show setR (changeR l (cs.take i)) c.key c.val = changeR l (cs.take (i + 1)) by rw [take_snoc hc, changeR_snoc, applyC, if_neg (by simp [h3])]]
        exact PO.againK (i + 1) (by omega) (by omega)
    · rw [List.take_of_length_le (show cs.length ≤ i by rw [decide_eq_false_iff_not] at h2; omega)]
      refine WP.exit ?_
      refine PO.past nofun ?_
      refine PO.round nofun ?_
      refine PO.blockX ?_
      refine PO.next ?_
      refine WP.seq ?_
      refine WP.reg ?_
      refine WL.e e_assign ?_
      refine WL.next ?_
      refine WP.ret ?_
      exact PO.fin Tryz.results70 (rv_tmp rv_nil) (hK.2 h1)
def rowV (r : RowM) : List Value := [r.v]
theorem in_iter {g : World} {c1 c2 p : Nat} {s : SpanM} {l : List RowM} (hl : Rising l) (hn : l.length ≤ 68719476000) :
    Iter Tryz.prog g 156 (fun y => [] ++ [y] ++ [.pointer (some ⟨c1, 0, none⟩), .pointer (some ⟨c2, 0, none⟩)]) [cl c1 123 [.pointer (some ⟨p, 0, none⟩)], cl c2 69 [.string s.a, .string s.b], Mm p l] rowV (fun _ => pu True) (fun xs => xs = (l.filter fun r => inSpan s r.key)) (fun pre => pre <+: (l.filter fun r => inSpan s r.key)) [Mm p l] := by
  intro y J X cont hy
  refine Spec.intro Tryz.func156 rfl Tryz.ntmps156 rfl fun R K hK => ?_
  refine WP.seq ?_
  refine WP.seq ?_
  refine WP.reg ?_
  refine WL.e (e_load a123) ?_
  refine WL.h (h_call (Mthere_spec) k122 ?_)
  refine WL.e e_not <| WL.e e_move ?_
  refine WL.bool 11 rfl (fun h => ?_) (fun h => ?_)
  · cases h -- end
  · skip
    refine WL.e (e_loadN a69) <| WL.e (e_loadN a69) ?_
    refine WL.h (h_call (Meet_spec ⟨_, _⟩ ⟨_, _⟩) k63 ?_)
    refine WL.e e_not <| WL.e e_pick_f ?_
    refine WL.next ?_
    refine WP.cond rfl (fun h1 => ?_) (fun h1 => ?_)
    · replace h1 : meet s s = false := by simpa using h1
      refine WP.ret ?_
      refine PO.past nofun ?_
      exact PO.fin Tryz.results156 rv_nil (hK.1 [] (meet_self h1).symm Hist.nil)
    · replace h1 : meet s s = true := by simpa using h1
      refine WP.skip ?_
      refine PO.next ?_
      refine WP.seq ?_
      refine WP.reg ?_
      refine WL.e (e_load a123) <| WL.e (e_fa f69_0) <| WL.e (e_load a9) ?_
      refine WL.h (h_call (find_spec s.a hl (by omega)) k157 ?_)
      refine WL.opn (Mm_op (p := p) (l := l)) fun sv => ?_
      have hD : RL (Sl 40 2 RowM.c sv.v l) 2 RowM.c (subV sv.v (lowI l s.a) l.length none 2) (l.drop (lowI l s.a)) := RL.from_ rowE sl_rl (lowI_le l s.a)
      have hDl : (l.drop (lowI l s.a)).length ≤ l.length := by simp
      refine WL.e e_move <| WL.e e_extract <| WL.e e_extract <| WL.e e_assign <| WL.e e_assign ?_
      refine WL.next ?_
      refine WP.seq ?_
      refine WP.reg ?_
      refine WL.e (e_load a123) <| WL.e e_nil <| WL.e (e_fa f223_0) <| WL.e (e_load a29) <| WL.e e_move ?_
      refine WL.e (el_from (lo := lowI l s.a) (xs := l) sl29 sl_rl (lowI_le l s.a)) ?_
      refine WL.e (el_len (xs := (l.drop (lowI l s.a))) sl29 hD) <| WL.e e_move ?_
      refine WL.next ?_
      refine WP.block ?_
      refine WP.loopK (fun (k : Nat) => [(31, .int .i64 k)]) (fun (k : Nat) => J ((l.drop (lowI l s.a)).take k) :: cl p 223 [sv.v, .bool true] :: Sl 40 2 RowM.c sv.v l :: cl c1 123 [.pointer (some ⟨p, 0, none⟩)] :: cl c2 69 [.string s.a, .string s.b] :: R) [(0, _), (2, _), (29, _), (30, _)] (fun (k : Nat) => k ≤ (l.drop (lowI l s.a)).length ∧ (∀ r ∈ (l.drop (lowI l s.a)).take k, (!sLt s.b r.key) = true) ∧ Hist cont ((l.drop (lowI l s.a)).take k)) (fun (k : Nat) => (l.drop (lowI l s.a)).length - k) 0 (⟨Nat.zero_le _, by simp, by simpa using Hist.nil⟩) ?_
      rintro k ⟨hk1, hk2, hk3⟩
      refine WP.seq ?_
      refine WP.reg ?_
      refine WL.e e_lss ?_
      refine WL.next ?_
      refine WP.seq ?_
      refine WP.cond rfl (fun h2 => ?_) (fun h2 => ?_)
      · have hlt : k < (l.drop (lowI l s.a)).length := by rw [decide_eq_true_eq] at h2; omega
        obtain ⟨x, hx⟩ : ∃ x, (l.drop (lowI l s.a))[k]? = some x := ⟨_, List.getElem?_eq_getElem hlt⟩
        refine WP.skip ?_
        refine PO.next ?_
        refine WP.seq ?_
        refine WP.block ?_
        refine WP.seq ?_
        refine WP.reg ?_
        refine WL.e (el_ia (j := k) (xs := (l.drop (lowI l s.a))) sl29 hD hlt) ?_
        refine WL.e (el_loadN (a := x) a40 rowE hD hx) ?_
        refine WL.h (h_alloc z40 fun b1 => ?_)
        refine WL.h' (h_store s40 ?_)
        refine WL.next ?_
        refine WP.seq ?_
        refine WP.reg ?_
        refine WL.e (e_fa f40_0) <| WL.e (e_load a9) <| WL.e (e_fa f69_1) <| WL.e (e_load a9) <| WL.e e_sgt <| WL.e e_move ?_
        refine WL.bool 40 rfl (fun h3 => ?_) (fun h3 => ?_)
        · rw [sgt_eq] at h3
          refine WL.skip <| WL.skip <| WL.skip <| WL.skip <| WL.e e_pick_t ?_
          refine WL.next ?_
          refine WP.cond_t rfl ?_
          refine WP.ret ?_
          refine PO.blockR ?_
          refine PO.past nofun ?_
          refine PO.round nofun ?_
          refine PO.blockR ?_
          refine PO.cls (A := Mm p l) (B := [cl p 223 [sv.v, .bool true], Sl 40 2 RowM.c (sv.v) l]) (fun S h => ⟨sv, h⟩) ?_
          exact PO.fin Tryz.results156 rv_nil (hK.1 _ (by rw [← scan_eq hl]; exact (tw_stop hk2 hx (by simp [h3])).symm) hk3)
        · rw [sgt_eq] at h3
          have hpf : (l.drop (lowI l s.a)).take k ++ [x] <+: (l.filter fun r => inSpan s r.key) := by rw [← scan_eq hl]; exact tw_more hk2 hx (by simp [h3])
          refine WL.e e_move <| WL.e (e_loadN a40) ?_
          refine WL.h (HO.conv (fun S h => pu_stars trivial h) (h_cally (hy ((l.drop (lowI l s.a)).take k) x hpf hk3) ?_))
          refine ⟨fun hc => ?_, fun hc => ?_⟩
          · skip
            refine WL.e e_not <| WL.e e_pick_f ?_
            refine WL.next ?_
            refine WP.cond_f rfl ?_
            refine WP.skip ?_
            refine PO.blockN ?_
            refine PO.next ?_
            refine WP.reg ?_
            refine WL.e (e_add rfl rfl (w_i64 (by omega) (by omega))) <| WL.e e_move ?_
            refine WL.nil ?_
            rw [← take_snoc hx]
            exact PO.againK (k + 1) ⟨by omega, by rw [take_snoc hx]; intro r hr; rcases List.mem_append.1 hr with h | h; exact hk2 r h; simp at h; subst h; simpa using h3, by rw [take_snoc hx]; exact hk3.snoc hc⟩ (by omega)
          · skip
            refine WL.e e_not <| WL.e e_pick_f ?_
            refine WL.next ?_
            refine WP.cond_t rfl ?_
            refine WP.ret ?_
            refine PO.blockR ?_
            refine PO.past nofun ?_
            refine PO.round nofun ?_
            refine PO.blockR ?_
            refine PO.cls (A := Mm p l) (B := [cl p 223 [sv.v, .bool true], Sl 40 2 RowM.c (sv.v) l]) (fun S h => ⟨sv, h⟩) ?_
            exact PO.fin Tryz.results156 rv_nil (hK.2 _ x hpf hk3 hc)
      · have hall : (l.drop (lowI l s.a)).take k = (l.filter fun r => inSpan s r.key) := by rw [← scan_eq hl, List.take_of_length_le (by rw [decide_eq_false_iff_not] at h2; omega), tw_all]; intro r hr; exact hk2 r (by rw [List.take_of_length_le (by rw [decide_eq_false_iff_not] at h2; omega)]; exact hr)
        refine WP.exit ?_
        refine PO.past nofun ?_
        refine PO.round nofun ?_
        refine PO.blockX ?_
        refine PO.cls (A := Mm p l) (B := [cl p 223 [sv.v, .bool true], Sl 40 2 RowM.c (sv.v) l]) (fun S h => ⟨sv, h⟩) ?_
        exact PO.fin Tryz.results156 rv_nil (hK.1 _ hall hk3)
theorem in_spec {g : World} {p : Nat} (s : SpanM) : Spec Tryz.prog g 121 [.pointer (some ⟨p, 0, none⟩), s.v] [] fun K R => ∀ c1 c2, K (.func (.func 156) #[] #[.pointer (some ⟨c1, 0, none⟩), .pointer (some ⟨c2, 0, none⟩)]) (cl c1 123 [.pointer (some ⟨p, 0, none⟩)] :: cl c2 69 [.string s.a, .string s.b] :: R) := by
  refine Spec.intro Tryz.func121 rfl Tryz.ntmps121 rfl fun R K hK => ?_
  refine WP.seq ?_
  refine WP.reg ?_
  refine WL.h (h_box fun b1 => ?_)
  refine WL.h (h_box fun b2 => ?_)
  refine WL.e e_assign ?_
  refine WL.next ?_
  refine WP.seq ?_
  refine WP.reg ?_
  refine WL.e e_makeFunc <| WL.e e_assign ?_
  refine WL.next ?_
  refine WP.ret ?_
  exact PO.fin Tryz.results121 (rv_tmp rv_nil) (hK b1 b2)
def ScJ (b b2 most : Nat) (pre : List RowM) : HP := fun S => ∃ sv : SV, stars [cl b2 3 [.int .i64 most], cl b 29 [sv.v], Sl 40 2 RowM.c sv.v pre] S
def ScX (b b2 most : Nat) (pre : List RowM) (x : RowM) (j : Code) : HP := fun S => ∃ sv : { sv : SV // j = .exit 0 }, stars [cl b2 3 [.int .i64 most], cl b 29 [sv.1.v], Sl 40 2 RowM.c sv.1.v pre] S
theorem hist_len {α : Type} {most : Nat} {xs : List α} (h : Hist (fun (pre : List α) _ => pre.length < most) xs) : xs.length ≤ most := by
  rcases List.eq_nil_or_concat xs with rfl | ⟨l, x, rfl⟩
  · simp
  · have := h l x [] (by simp); simp; omega
theorem Scan_spec {g : World} {p : Nat} {l : List RowM} (s : SpanM) (most : Nat) (hl : Rising l) (hn : l.length ≤ 68719476000) (hm : most ≤ 68719476000) : Spec Tryz.prog g 69 [.pointer (some ⟨p, 0, none⟩), s.v, .int .i64 most] [Mm p l] fun K R => ∀ a m c, K (.slice a m c) (Sl 40 2 RowM.c (.slice a m c) (scanR l s most) :: Mm p l :: R) := by
  refine Spec.intro Tryz.func69 rfl Tryz.ntmps69 rfl fun R K hK => ?_
  refine WP.seq ?_
  refine WP.reg ?_
  refine WL.h (h_box fun b1 => ?_)
  refine WL.h (h_box fun b2 => ?_)
  refine WL.h (h_alloc z29 fun b3 => ?_)
  refine WL.next ?_
  refine WP.seq ?_
  refine WP.seq ?_
  refine WP.reg ?_
  refine WL.e e_move <| WL.e (e_loadN a69) ?_
  refine WL.h (h_call (in_spec ⟨_, _⟩) k121 ?_)
  intro c1 c2
  refine WL.next ?_
  refine WP.block ?_
  refine WP.nils 40 2 RowM.c none ?_
  refine WP.cls (A := ScJ b3 b2 most []) (B := [cl b2 3 [.int .i64 most], cl b3 29 [.slice none 0 0], Sl 40 2 RowM.c (.slice none 0 0) ([])]) (fun S h => ⟨⟨none, 0, 0⟩, h⟩) ?_
  refine WP.range (R := ?RR) (f := 156) (fs := []) (cs := [.pointer (some ⟨c1, 0, none⟩), .pointer (some ⟨c2, 0, none⟩)]) (ScJ b3 b2 most) (ScX b3 b2 most) (fun pre _ => pre.length < most) (in_iter (c1 := c1) (c2 := c2) (p := p) (s := s) hl hn) k156 ?hLL ?_ ?_ ?_ (fun _ => rfl)
  case hLL => repeat first | exact .nil | exact Pick.z | apply Pick.s | apply Split.cons
  · rintro lb db fn tmps pre x R2 hp hh
    have hlen := hist_len hh
    refine WP.opn (B := fun sv : SV => [cl b2 3 [.int .i64 most], cl b3 29 [sv.v], Sl 40 2 RowM.c (sv.v) (pre)]) (fun _ h => h) fun sv => ?_
    refine WP.reg ?_
    refine WL.h (h_alloc z40 fun b4 => ?_)
    refine WL.h' (h_store s40 ?_)
    refine WL.nil ?_
    refine PO.asg rfl (by repeat first | exact .z | apply Put.s) ?_
    refine WP.block ?_
    refine WP.seq ?_
    refine WP.seq ?_
    refine WP.reg ?_
    refine WL.e (e_load a29) ?_
    refine WL.e (el_len (xs := pre) sl29 sl_rl) <| WL.e (e_load a3) <| WL.e e_geq ?_
    refine WL.next ?_
    refine WP.cond rfl (fun h1 => ?_) (fun h1 => ?_)
    · skip
      refine WP.exit ?_
      refine PO.past nofun ?_
      refine PO.blockY rfl ?_
      refine PO.cls (A := ScX b3 b2 most pre x (.exit 0)) (B := [cl b2 3 [.int .i64 most], cl b3 29 [sv.v], Sl 40 2 RowM.c (sv.v) (pre)]) (fun S h => ⟨⟨sv, rfl⟩, h⟩) ?_
      exact PO.rnd_exit (by rw [decide_eq_true_eq] at h1; omega) (by repeat first | exact .refl | exact Pick.z | apply Pick.s | apply Sub.cons | apply Sub.drop)
    · skip
      refine WP.skip ?_
      refine PO.next ?_
      refine WP.reg ?_
      refine WL.e (e_load a29) <| WL.e (e_loadN a40) ?_
      refine WL.h (h_bs sl29 z40 (.a2 (.tmp 17) rfl <| .n) fun b5 => ?_)
      refine WL.h (hl_append (xs := pre) (ys := [x]) sl29 rowE z40 (lit_rl rowE [x] rfl) (by simp; omega) (fun a2 n2 m2 => ?_))
      refine WL.h' (h_store s29 ?_)
      refine WL.nil ?_
      refine PO.blockN ?_
      refine PO.cls (A := ScJ b3 b2 most (pre ++ [x])) (B := [cl b2 3 [.int .i64 most], cl b3 29 [.slice a2 n2 m2], Sl 40 2 RowM.c (.slice a2 n2 m2) (pre ++ [x])]) (fun S h => ⟨⟨a2, n2, m2⟩, h⟩) ?_
      exact PO.rnd (by rw [decide_eq_false_iff_not] at h1; omega) (by repeat first | exact .refl | exact Pick.z | apply Pick.s | apply Sub.cons | apply Sub.drop)
  · intro db xs hx hh
    subst hx
    have hlen := hist_len hh
    rw [← show scanR l s most = l.filter fun r => inSpan s r.key from List.take_of_length_le hlen]
    refine PO.opn (B := fun sv : SV => [cl b2 3 [.int .i64 most], cl b3 29 [sv.v], Sl 40 2 RowM.c (sv.v) (scanR l s most)]) (fun _ h => h) fun sv => ?_
    refine PO.blockN ?_
    refine PO.next ?_
    refine WP.seq ?_
    refine WP.reg ?_
    refine WL.e (e_load a29) ?_
    refine WL.h' (h_store s29 ?_)
    refine WL.next ?_
    refine WP.ret ?_
    refine PO.sh (u := sv.v) ?_
    intro a n c he
    rw [he]
    exact PO.finM (by repeat first | exact .z | apply Put.s) Tryz.results69 (rv_cell a29 rv_nil) (hK a n c)
  · intro db pre x j hp hh hc
    have hlen := hist_len hh
    refine WP.opn (B := fun sv : { sv : SV // j = .exit 0 } => [cl b2 3 [.int .i64 most], cl b3 29 [sv.1.v], Sl 40 2 RowM.c (sv.1.v) (pre)]) (fun _ h => h) fun sv => ?_
    obtain ⟨sv, rfl⟩ := sv
    obtain rfl : pre = scanR l s most := by
      obtain ⟨t, ht⟩ := hp
      rw [scanR, ← ht, show most = pre.length by omega]; simp
    refine WP.exit ?_
    refine PO.blockX ?_
    refine PO.next ?_
    refine WP.seq ?_
    refine WP.reg ?_
    refine WL.e (e_load a29) ?_
    refine WL.h' (h_store s29 ?_)
    refine WL.next ?_
    refine WP.ret ?_
    refine PO.sh (u := sv.v) ?_
    intro a n c he
    rw [he]
    exact PO.finM (by repeat first | exact .z | apply Put.s) Tryz.results69 (rv_cell a29 rv_nil) (hK a n c)
end Go.SL
/- From the walk to the row: what was there ahead of the call is there behind it. -/
set_option linter.unusedSimpArgs false
set_option linter.unusedVariables false
set_option linter.unusedSectionVars false
namespace Go.SL
open Go
def Old (w : World) : HP := fun S => le (heapOf w) S
theorem sat_old (w : World) : Sat w [Old w] w := ⟨rfl, rfl, rfl, Nat.le_refl _, heapOf w, fun _ => none, fun _ => .inr rfl, le_refl _, (fun _ _ h => by cases h), le_refl _, trivial⟩
theorem old_below {w w' : World} (h : Sat w [Old w] w') : Go.RowKit.Below w.heap.size w w' := by
  refine ⟨h.os, h.tape, h.output, h.size, fun k hk => ?_⟩
  obtain ⟨S1, S2, _, h1, _, h2, _⟩ := h.heap
  have e : w.heap[k]? = some w.heap[k] := Array.getElem?_eq_getElem hk
  rw [e]
  exact h1 _ _ (h2 _ _ e)
theorem below_of_spec {P : Program} {w : World} {f : FuncId} {args : List Value} (h : Spec P w f args [] fun K R => K (.bool true) R) : Calls P f args.toArray w fun e w' => e = .returned (.bool true) ∧ Go.RowKit.Below w.heap.size w w' := by
  refine (h [Old w] (fun v M => v = .bool true ∧ M = [Old w]) w (sat_old w) ⟨rfl, rfl⟩).mono ?_
  rintro e w' ⟨v, M, rfl, ⟨rfl, rfl⟩, hs⟩
  exact ⟨rfl, old_below hs⟩
theorem u32_wf {n : Int} (h : (Lit.int .u32 n).wf = true) : n = ((UInt32.ofNat n.toNat).toNat : Int) := by
  simp only [Lit.wf, Bool.and_eq_true, decide_eq_true_eq] at h
  rw [show IntKind.u32.min = 0 from rfl, show IntKind.u32.max = 4294967295 from rfl] at h
  have : (UInt32.ofNat n.toNat).toNat = n.toNat := by simp; omega
  omega
theorem u8_wf {n : Int} (h : (Lit.int .u8 n).wf = true) : n = ((UInt8.ofNat n.toNat).toNat : Int) := by
  simp only [Lit.wf, Bool.and_eq_true, decide_eq_true_eq] at h
  rw [show IntKind.u8.min = 0 from rfl, show IntKind.u8.max = 255 from rfl] at h
  have : (UInt8.ofNat n.toNat).toNat = n.toNat := by simp; omega
  omega
theorem array5 {α : Type} {cs : Array α} (h : cs.size = 5) : ∃ c0 c1 c2 c3 c4, cs = #[c0, c1, c2, c3, c4] := by
  obtain ⟨l⟩ := cs
  match l, h with
  | [c0, c1, c2, c3, c4], _ => exact ⟨c0, c1, c2, c3, c4, rfl⟩
end Go.SL
/- The steps of the walk: are two rows one? -/
set_option linter.unusedSimpArgs false
set_option linter.unusedVariables false
set_option linter.unusedSectionVars false
namespace Go.SL
open Go
instance : DecidableEq RowM := fun a b => decidable_of_iff (a.key = b.key ∧ a.val = b.val) ⟨fun ⟨h1, h2⟩ => by cases a; cases b; simp_all, fun h => by subst h; exact ⟨rfl, rfl⟩⟩
section
variable {P : Program} {r : Option Nat} {g : World} {Γ : Env} {L M : List HP} {dst : Option Tmp} {t : TypeId} {pos : String} {aft : Array Edge} {gd : Option (Nat × Bool)}
theorem run_part1 {T : TypeId} (h : aggOf P T = some none) (cs : Array Value) (i : Nat) (v : Value) (hv : cs[i]? = some v) (w : World) : (part T cs i).run P w = .ok v w := by
  unfold part
  simp [run_isAgg h, hv]
theorem e_rowne {T T2 s u : TypeId} {b0 b1 : Nat} {x y : Operand} {a b : RowM} (hT : P.underlying T = some (.struct #[⟨ "Key", s, 0, false, "", "", b0⟩, ⟨ "Value", u, 1, false, "", "", b1⟩])) (hs : P.underlying s = some .string) (hu : P.underlying u = some (.int .u32))
    (hs1 : aggOf P s = some none) (hu1 : aggOf P u = some none) (hp : P.stoodInHeld T = false) (hm : P.eqGuardType P.depth T = false) (hx : ev Γ x = some a.v) (hy : ev Γ y = some b.v) :
    EO P g ⟨dst, .binOp .neq T x y T2, t, pos, aft, gd⟩ Γ L (.bool (!decide (a = b))) := e_bin hx hy fun w => by
  have hf : P.fieldsOf T = #[⟨ "Key", s, 0, false, "", "", b0⟩, ⟨ "Value", u, 1, false, "", "", b1⟩] := by unfold Program.fieldsOf; rw [hT]
  have hE : ∀ w, (Op.equalIn 10000 T (.agg #[.string a.key, .int .u32 a.val.toNat]) (.agg #[.string b.key, .int .u32 b.val.toNat])).run P w = .ok (decide (a = b)) w := fun w => by
    rw [show (10000 : Nat) = 9999 + 1 from rfl, run_equalIn_struct w 9999 T _ _ (by rw [hf]; exact hT) hp, hf]
    simp only [Op.eqFields, Sem.run_bind]
    rw [if_pos (by decide)]
    simp only [Sem.run_bind]
    rw [run_part1 hs1 _ 0 (.string a.key) rfl]
    simp only [Result.andThen_ok]
    rw [run_part1 hs1 _ 0 (.string b.key) rfl]
    simp only [Result.andThen_ok]
    rw [show (9999 : Nat) = 9998 + 1 from rfl, run_equalIn_string w 9998 s a.key b.key hs]
    simp only [Result.andThen_ok]
    cases hk : a.key.toList == b.key.toList with
    | false =>
      simp
      intro e; subst e; simp at hk
    | true =>
      have hk' : a.key = b.key := by
        rw [← beq_toListBytes] at hk
        have : (a.key.data == b.key.data) = true := hk
        rw [ByteArray.ext_iff]; simpa using this
      simp only [Bool.not_true, Bool.false_eq_true, if_false]
      rw [if_pos (by decide)]
      simp only [Sem.run_bind]
      rw [run_part1 hu1 _ 1 (.int .u32 a.val.toNat) rfl]
      simp only [Result.andThen_ok]
      rw [run_part1 hu1 _ 1 (.int .u32 b.val.toNat) rfl]
      simp only [Result.andThen_ok]
      rw [run_equalIn_int w 9998 u .u32 .u32 _ _ hu]
      simp only [Result.andThen_ok, beq32]
      cases hv : a.val == b.val with
      | false =>
        simp
        intro e; subst e; simp at hv
      | true =>
        simp at hv
        simp
        cases a; cases b; simp_all
  show (do eqGuard .neq T x y (.agg #[.string a.key, .int .u32 a.val.toNat]) (.agg #[.string b.key, .int .u32 b.val.toNat]); binOp .neq T (.agg #[.string a.key, .int .u32 a.val.toNat]) (.agg #[.string b.key, .int .u32 b.val.toNat]) : Sem Value).run P w = _
  rw [Sem.run_bind, run_eqGuard_agg w .neq T x y _ _ hm]
  simp only [Result.andThen_ok]
  rw [run_neq_struct, hE]; rfl
end
end Go.SL
