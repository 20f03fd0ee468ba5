import Derived.Test.YtdfomffmfnpfoaaGreatW7
import Derived.Test.YtdfomffmfnpfoaaGreatProg
import Derived.KernelRfl
set_option linter.unusedSimpArgs false
set_option linter.unusedVariables false
namespace Go.SL.W8
open Go Go.Proofs Go.SL
theorem mixedOk : Tryz.prog.follows .mixedOrders = true := by kernel_rfl
theorem sl47 : slOf Tryz.prog 47 = some (70, 2, 24) := by kernel_rfl
theorem z70 : zeroOf Tryz.prog 70 = some [.string .empty, .int .u32 0] := by kernel_rfl
end Go.SL.W8
namespace Go.SL
open Go Go.Proofs W8
theorem Delete_spec {g : World} {u : Value} {xs : List RowM} {i : Nat} {x : RowM} (hx : xs[i]? = some x) (hn : xs.length ≤ 68719476736) :
    Spec Tryz.prog g 100 [u, .int .i64 i, .int .i64 (i + 1 : Nat)] [Sl 70 2 RowM.c u xs] fun K R => ∀ a m c, K (.slice a m c) (Sl 70 2 RowM.c (.slice a m c) (xs.eraseIdx i) :: R) := by
  obtain ⟨A, D, rfl, rfl⟩ := split_el hx
  rw [erase_mid]
  refine Spec.intro Tryz.func100 rfl Tryz.ntmps100 rfl fun R K hK => ?_
  refine WP.own_open (n := (A ++ x :: D).length) (by simp; omega) (by exact .z) ?_
  rintro b o c l rfl hnc hc hl hcs
  have hlen : (A ++ x :: D).length = A.length + 1 + D.length := by simp; omega
  have hRL : RL (cl b 70 l) 2 RowM.c (.slice (some ⟨b, o, none⟩) (A ++ x :: D).length c) (A ++ x :: D) := rd_part rowE (At.lit hnc) hl rfl hcs
  have hA0 : At (subAt (.slice (some ⟨b, o, none⟩) (A ++ x :: D).length c) 0 A.length c 2) b o A.length c := by have := (At.lit (b := b) (o := o) hnc).sub (lo := 0) (hi := A.length) (m := c) (z := 2) (by omega) (by omega) (Nat.le_refl _); simpa using this
  have hAD : At (subAt (.slice (some ⟨b, o, none⟩) (A ++ x :: D).length c) (A.length + 1) (A ++ x :: D).length c 2) b (o + (A.length + 1) * 2) D.length (c - (A.length + 1)) := by have := (At.lit (b := b) (o := o) hnc).sub (lo := A.length + 1) (hi := (A ++ x :: D).length) (m := c) (z := 2) (by omega) (by omega) (Nat.le_refl _); rwa [show (A ++ x :: D).length - (A.length + 1) = D.length by omega] at this
  have hD : Rd (cl b 70 l) 2 (subAt (.slice (some ⟨b, o, none⟩) (A ++ x :: D).length c) (A.length + 1) (A ++ x :: D).length c 2) D.length (D.flatMap RowM.c) := rd_part rowE hAD (by omega) rfl (cells_tail rowE hcs)
  refine WP.seq ?_
  refine WP.reg ?_
  refine WL.e e_assign ?_
  refine WL.next ?_
  refine WP.seq ?_
  refine WP.reg ?_
  refine WL.e e_move <| WL.e e_move <| WL.e e_move <| WL.e e_move ?_
  refine WL.e (el_len sl47 hRL) ?_
  refine WL.e (e_slice_at (lo := A.length) (hi := A.length + 1) (m := (A ++ x :: D).length) (c := c) (n := (A ++ x :: D).length) sl47 rfl (At.lit hnc) (.inr ⟨_, _, rfl, rfl⟩) (.inr ⟨_, _, rfl, rfl⟩) (.inr ⟨_, _, rfl, rfl⟩) (by omega) (by omega) hnc) ?_
  refine WL.next ?_
  refine WP.seq ?_
  refine WP.seq ?_
  refine WP.reg ?_
  refine WL.e e_move <| WL.e e_move <| WL.e e_eql ?_
  refine WL.next ?_
  refine WP.cond rfl (fun h1 => ?_) (fun h1 => ?_)
  · rw [beq_iff_eq] at h1; omega
  · skip
    refine WP.skip ?_
    refine PO.next ?_
    refine WP.seq ?_
    refine WP.reg ?_
    refine WL.e e_move ?_
    refine WL.e (el_len sl47 hRL) <| WL.e e_assign ?_
    refine WL.next ?_
    refine WP.seq ?_
    refine WP.draws mixedOk 8 ?_
    refine RW.e 0 rfl e_move <| RW.e 1 rfl e_move ?_
    refine RW.e 2 rfl (e_slice_at (lo := 0) (hi := A.length) (m := c) (c := c) (n := (A ++ x :: D).length) sl47 rfl (At.lit hnc) (.inl ⟨rfl, rfl⟩) (.inr ⟨_, _, rfl, rfl⟩) (.inl ⟨rfl, rfl⟩) (by omega) (by omega) (Nat.le_refl _)) <| RW.e 3 rfl e_move <| RW.e 4 rfl e_move ?_
    refine RW.e 5 rfl (e_slice_at (lo := A.length + 1) (hi := (A ++ x :: D).length) (m := c) (c := c) (n := (A ++ x :: D).length) sl47 rfl (At.lit hnc) (.inr ⟨_, _, rfl, rfl⟩) (.inl ⟨rfl, rfl, rfl⟩) (.inl ⟨rfl, rfl⟩) (by omega) (by omega) (Nat.le_refl _)) ?_
    refine RW.any (is := [6]) rfl ⟨?_, trivial⟩
    refine RWat.h rfl rfl rfl ?_
    refine (h_append_at (n := A.length) (c := c) (k := D.length) (o := o) (l := l) (ds := D.flatMap RowM.c) sl47 hA0 hl hD (ones_flat rowE D) (by omega) (fun a2 hAt => ?_))
    refine ⟨trivial, ?_⟩
    refine RW.any (is := [7]) rfl ⟨?_, trivial⟩
    refine RWat.h rfl rfl rfl ?_
    refine HO.of_eo e_assign ?_
    refine ⟨trivial, ?_⟩
    refine RW.done ?_
    refine PO.next ?_
    refine WP.seq ?_
    refine WP.reg ?_
    refine WL.e e_move <| WL.e e_move ?_
    refine WL.e (e_len_sl sl47) <| WL.e e_move ?_
    refine WL.e (e_slice_at (lo := A.length + D.length) (hi := (A ++ x :: D).length) (m := c) (c := c) (n := A.length + D.length) sl47 rfl hAt (.inr ⟨_, _, rfl, rfl⟩) (.inr ⟨_, _, rfl, rfl⟩) (.inl ⟨rfl, rfl⟩) (by omega) (by omega) (Nat.le_refl _)) ?_
    obtain ⟨hd1, hd2⟩ := del_cells (zs := [.string .empty, .int .u32 0]) rowE hl hnc hcs rfl
    refine WL.h' (h_clear (T := 47) (n := 1) (c := c - (A.length + D.length)) (o := o + (A.length + D.length) * 2) (b := b) (l := splice l (o + A.length * 2) (D.flatMap RowM.c)) sl47 z70 (by have := hAt.sub (lo := A.length + D.length) (hi := (A ++ x :: D).length) (m := c) (z := 2) (by omega) (by omega) (Nat.le_refl _); rwa [show (A ++ x :: D).length - (A.length + D.length) = 1 by omega] at this) (by rw [splice_len _ _ _ (by rw [flat_len rowE]; omega)]; omega) ?_)
    rw [show (List.replicate 1 [Value.string .empty, Value.int .u32 0]).flatten = [.string .empty, .int .u32 0] from rfl]
    refine WL.next ?_
    refine WP.seq ?_
    refine WP.reg ?_
    refine WL.e e_move <| WL.e e_assign ?_
    refine WL.next ?_
    refine WP.ret ?_
    refine PO.cls (A := Sl 70 2 RowM.c (.slice a2 (A.length + D.length) c) (A ++ D)) (B := [cl b 70 _]) (fun S h => ?_) ?_
    · have h := stars_one h
      unfold Sl
      rw [List.length_append]
      refine at_own hAt hc ?_ ?_ S h
      · rw [hd2]; exact hl
      · rw [List.length_append] at hd1; exact hd1
    exact PO.fin Tryz.results100 (rv_tmp rv_nil) (hK a2 (A.length + D.length) c)

end Go.SL
