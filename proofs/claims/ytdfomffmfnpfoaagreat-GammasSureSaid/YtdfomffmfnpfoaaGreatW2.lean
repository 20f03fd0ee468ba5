import Derived.Test.YtdfomffmfnpfoaaGreatM2
import Derived.Test.YtdfomffmfnpfoaaGreatProg
import Derived.KernelRfl
set_option linter.unusedSimpArgs false
set_option linter.unusedVariables false
namespace Go.SL.W2
open Go Go.Proofs Go.SL
theorem a195 : aggOf Tryz.prog 195 = some (some 256) := by kernel_rfl
theorem a31 : aggOf Tryz.prog 31 = some none := by kernel_rfl
theorem a5 : aggOf Tryz.prog 5 = some none := by kernel_rfl
theorem ar195 : arrOf Tryz.prog 195 = some (31, 256, 1) := by kernel_rfl
theorem k113 : callable Tryz.prog 113 = true := by kernel_rfl
theorem k114 : callable Tryz.prog 114 = true := by kernel_rfl
theorem k95 : callable Tryz.prog 95 = true := by kernel_rfl
theorem s195 : szOf Tryz.prog 195 = some 256 := by kernel_rfl
theorem s31 : szOf Tryz.prog 31 = some 1 := by kernel_rfl
theorem sl81 : slOf Tryz.prog 81 = some (5, 1, 1) := by kernel_rfl
theorem z195 : zeroOf Tryz.prog 195 = some (List.replicate 256 (.int .u32 0)) := by kernel_rfl
end Go.SL.W2
namespace Go.SL
open Go Go.Proofs W2
theorem step_spec {g : World} (n : UInt32) : Spec Tryz.prog g 114 [.int .u32 n.toNat] [] fun K R => K (.int .u32 (crc8 n).toNat) R := by
  refine Spec.intro Tryz.func114 rfl Tryz.ntmps114 rfl fun R K hK => ?_
  refine WP.seq ?_
  refine WP.reg ?_
  refine WL.e e_assign ?_
  refine WL.next ?_
  refine WP.seq ?_
  refine WP.seq ?_
  refine WP.reg ?_
  refine WL.e e_move ?_
  refine WL.next ?_
  refine WP.block ?_
  refine WP.loopK (fun (x : UInt32 × Nat) => [(0, .int .u32 x.1.toNat), (3, .int .i64 x.2)]) (fun (x : UInt32 × Nat) => R) [(2, _)] (fun (x : UInt32 × Nat) => x.2 ≤ 8 ∧ crcN (8 - x.2) x.1 = crc8 n) (fun (x : UInt32 × Nat) => 8 - x.2) (n, 0) (⟨by omega, rfl⟩) ?_
  rintro ⟨m, i⟩ ⟨hx1, hx2⟩
  simp only at hx1 hx2
  dsimp only
  refine WP.seq ?_
  refine WP.reg ?_
  refine WL.e e_lss ?_
  refine WL.next ?_
  refine WP.seq ?_
  refine WP.cond rfl (fun h => ?_) (fun h => ?_)
  · have hlt : i < 8 := by simp at h; omega
    refine WP.skip ?_
    refine PO.next ?_
    refine WP.seq ?_
    refine WP.block ?_
    refine WP.reg ?_
    refine WL.e e_move <| WL.e (e_shr32 (m := 1) (by decide)) <| WL.e e_move <| WL.e (e_and32 (b := 1)) <| WL.e e_neg32 <| WL.e (e_and32 (a := 3988292384)) <| WL.e e_xor32 <| WL.e e_assign ?_
    refine WL.nil ?_
    refine PO.blockN ?_
    refine PO.next ?_
    refine WP.reg ?_
    refine WL.e (e_add rfl rfl (w_i64 (by omega) (by omega))) <| WL.e e_move ?_
    refine WL.nil ?_
    exact PO.againK (crc1 m, i + 1) ⟨by simp only; omega, by rw [← hx2, show 8 - i = 8 - (i + 1) + 1 by omega]; rfl⟩ (by simp only; omega)
  · obtain rfl : i = 8 := by simp at h; omega
    refine WP.exit ?_
    refine PO.past nofun ?_
    refine PO.round nofun ?_
    refine PO.blockX ?_
    refine PO.next ?_
    refine WP.seq ?_
    refine WP.reg ?_
    refine WL.e e_move <| WL.e e_assign ?_
    refine WL.next ?_
    refine WP.ret ?_
    exact PO.finE Tryz.results114 (rv_tmp rv_nil) (by rw [← hx2]; rfl) hK

theorem table_spec {g : World} {y : Value} {f : UInt32 → UInt32} (hy : ∀ n : UInt32, CallV Tryz.prog g y [.int .u32 n.toNat] [] fun K R => K (.int .u32 (f n).toNat) R) : Spec Tryz.prog g 113 [y] [] fun K R => K (.agg (tblTo f 256).toArray) R := by
  refine Spec.intro Tryz.func113 rfl Tryz.ntmps113 rfl fun R K hK => ?_
  refine WP.seq ?_
  refine WP.reg ?_
  refine WL.h (h_alloc z195 fun b1 => ?_)
  rw [← tblTo_zero f]
  refine WL.next ?_
  refine WP.seq ?_
  refine WP.seq ?_
  refine WP.reg ?_
  refine WL.e e_move ?_
  refine WL.next ?_
  refine WP.block ?_
  refine WP.loopK (fun (x : Nat) => [(4, .int .i64 x)]) (fun (x : Nat) => cl b1 195 (tblTo f x) :: R) [(0, _), (2, _)] (fun (x : Nat) => x ≤ 256) (fun (x : Nat) => 256 - x) 0 (by omega) ?_
  intro x hx1
  refine WP.seq ?_
  refine WP.reg ?_
  refine WL.e e_lss ?_
  refine WL.next ?_
  refine WP.seq ?_
  refine WP.cond rfl (fun h => ?_) (fun h => ?_)
  · have hlt : x < 256 := by simp at h; omega
    refine WP.skip ?_
    refine PO.next ?_
    refine WP.seq ?_
    refine WP.block ?_
    refine WP.seq ?_
    refine WP.reg ?_
    refine WL.e e_move <| WL.e e_assign ?_
    refine WL.next ?_
    refine WP.reg ?_
    refine WL.e e_move <| WL.e e_move <| WL.e e_move <| WL.e (e_c32 (by rw [Tryz.underlying3]; rfl) Tryz.underlying31) ?_
    refine WL.h (h_cally (hy (UInt32.ofNat x)) ?_)
    refine WL.e (e_iaA ar195 hlt) ?_
    refine WL.h' (h_store1 (o := 0 + x * 1) (l := tblTo f x) s31 (by rw [tblTo_len]; omega) rfl ?_)
    rw [show 0 + x * 1 = x by omega, tblTo_set f x hlt]
    refine WL.nil ?_
    refine PO.blockN ?_
    refine PO.next ?_
    refine WP.reg ?_
    refine WL.e (e_add rfl rfl (w_i64 (by omega) (by omega))) <| WL.e e_move ?_
    refine WL.nil ?_
    exact PO.againK (x + 1) (by omega) (by omega)
  · obtain rfl : x = 256 := by simp at h; omega
    refine WP.exit ?_
    refine PO.past nofun ?_
    refine PO.round nofun ?_
    refine PO.blockX ?_
    refine PO.next ?_
    refine WP.seq ?_
    refine WP.reg ?_
    refine WL.e (e_loadW a195 (tblTo_len _ _)) ?_
    refine WL.h' (h_storeW s195 (tblTo_len _ _) (tblTo_len _ _) (tblTo_ones _ _) ?_)
    refine WL.next ?_
    refine WP.ret ?_
    exact PO.fin Tryz.results113 (rv_cellW a195 (tblTo_len _ _) rv_nil) hK

theorem On_spec {g : World} {A : HP} {u : Value} {b : List UInt8} (s : UInt32) (hA : RL A 1 eB u b) (hb : b.length ≤ 68719476736) : Spec Tryz.prog g 95 [.int .u32 s.toNat, u] [A] fun K R => K (.int .u32 (sumOn s b).toNat) (A :: R) := by
  refine Spec.intro Tryz.func95 rfl Tryz.ntmps95 rfl fun R K hK => ?_
  refine WP.seq ?_
  refine WP.reg ?_
  refine WL.e e_assign ?_
  refine WL.next ?_
  refine WP.seq ?_
  refine WP.seq ?_
  refine WP.reg ?_
  refine WL.e e_move ?_
  refine WL.e (el_len sl81 hA) <| WL.e e_eql ?_
  refine WL.next ?_
  refine WP.cond rfl (fun h => ?_) (fun h => ?_)
  · replace h : b.length = 0 := by simpa using h
    refine WP.seq ?_
    refine WP.reg ?_
    refine WL.e e_move <| WL.e e_assign ?_
    refine WL.next ?_
    refine WP.ret ?_
    refine PO.past nofun ?_
    exact PO.finE Tryz.results95 (rv_tmp rv_nil) (by simp [sumOn, h]) hK
  · replace h : b.length ≠ 0 := by rintro e; rw [e] at h; cases h
    refine WP.skip ?_
    refine PO.next ?_
    refine WP.seq ?_
    refine WP.reg ?_
    refine WL.h (h_call (table_spec (f := crc8) fun n => CallV.of_spec (fs := []) (cs := []) (step_spec n) k114) k113 ?_)
    refine WL.h (h_alloc z195 fun b1 => ?_)
    refine WL.h' (h_storeW (l := List.replicate 256 (.int .u32 0)) (zs := tblTo crc8 256) s195 (tblTo_len _ _) List.length_replicate (tblTo_ones _ _) ?_)
    refine WL.next ?_
    refine WP.seq ?_
    refine WP.reg ?_
    refine WL.e e_move <| WL.e e_not32 <| WL.e e_assign ?_
    refine WL.next ?_
    refine WP.seq ?_
    refine WP.seq ?_
    refine WP.reg ?_
    refine WL.e e_move ?_
    refine WL.e (el_len sl81 hA) <| WL.e e_move ?_
    refine WL.next ?_
    refine WP.block ?_
    refine WP.loopK (fun (x : Nat × UInt32) => [(18, .int .i64 x.1), (6, .int .u32 x.2.toNat)]) (fun (x : Nat × UInt32) => cl b1 195 (tblTo crc8 256) :: A :: R) [(4, _), (5, _), (16, _), (17, _)] (fun (x : Nat × UInt32) => x.1 ≤ b.length ∧ x.2 = (b.take x.1).foldl crcB (0xffffffff ^^^ s)) (fun (x : Nat × UInt32) => b.length - x.1) (0, 0xffffffff ^^^ s) (⟨by omega, by simp⟩) ?_
    rintro ⟨x, n⟩ ⟨hx1, hx2⟩
    simp only at hx1 hx2
    dsimp only
    refine WP.seq ?_
    refine WP.reg ?_
    refine WL.e e_lss ?_
    refine WL.next ?_
    refine WP.seq ?_
    refine WP.cond rfl (fun h2 => ?_) (fun h2 => ?_)
    · have hlt : x < b.length := by simp at h2; omega
      obtain ⟨c, hc⟩ : ∃ c, b[x]? = some c := ⟨b[x], List.getElem?_eq_getElem hlt⟩
      refine WP.skip ?_
      refine PO.next ?_
      refine WP.seq ?_
      refine WP.block ?_
      refine WP.seq ?_
      refine WP.reg ?_
      refine WL.e (el_ia sl81 hA hlt) ?_
      refine WL.e (el_load0 a5 eB_ok hA hc) <| WL.e e_assign ?_
      refine WL.next ?_
      refine WP.reg ?_
      refine WL.e e_move <| WL.e (e_shr32 (m := 8) (by decide)) <| WL.e e_move <| WL.e (e_c32to8 (by rw [Tryz.underlying31]; rfl) Tryz.underlying5) <| WL.e e_move <| WL.e e_xor8 ?_
      refine WL.e (e_iaA ar195 (UInt8.toNat_lt _)) <| WL.e (e_load a31 rfl (by exact .z) (by rw [Nat.zero_add, Nat.mul_one]; exact tblTo_get crc8 (n.toUInt8 ^^^ c))) <| WL.e e_xor32 <| WL.e e_assign ?_
      refine WL.nil ?_
      refine PO.blockN ?_
      refine PO.next ?_
      refine WP.reg ?_
      refine WL.e (e_add rfl rfl (w_i64 (by omega) (by omega))) <| WL.e e_move ?_
      refine WL.nil ?_
      exact PO.againK (x + 1, crcB n c) ⟨by simp only; omega, by simp only; rw [take_snoc hc, List.foldl_append, ← hx2]; rfl⟩ (by simp only; omega)
    · have hfin : b.take x = b := List.take_of_length_le (by simp at h2; omega)
      refine WP.exit ?_
      refine PO.past nofun ?_
      refine PO.round nofun ?_
      refine PO.blockX ?_
      refine PO.next ?_
      refine WP.seq ?_
      refine WP.reg ?_
      refine WL.e e_move <| WL.e e_not32 <| WL.e e_assign ?_
      refine WL.next ?_
      refine WP.ret ?_
      exact PO.finE Tryz.results95 (rv_tmp rv_nil) (by simp [sumOn, h, hx2, hfin]) hK

theorem SumOf_spec {g : World} {A : HP} {u : Value} {b : List UInt8} (hA : RL A 1 eB u b) (hb : b.length ≤ 68719476736) : Spec Tryz.prog g 96 [u] [A] fun K R => K (.int .u32 (sumOn 0 b).toNat) (A :: R) := by
  refine Spec.intro Tryz.func96 rfl Tryz.ntmps96 rfl fun R K hK => ?_
  refine WP.seq ?_
  refine WP.reg ?_
  refine WL.e e_assign ?_
  refine WL.next ?_
  refine WP.seq ?_
  refine WP.reg ?_
  refine WL.e e_move ?_
  refine WL.h (h_call (On_spec 0 hA hb) k95 ?_)
  refine WL.e e_assign ?_
  refine WL.next ?_
  refine WP.ret ?_
  exact PO.fin Tryz.results96 (rv_tmp rv_nil) hK

theorem sectors_spec {g : World} (n : Nat) (hn : n ≤ 4294967296) : Spec Tryz.prog g 93 [.int .i64 n] [] fun K R => K (.int .i64 (secs n)) R := by
  refine Spec.intro Tryz.func93 rfl Tryz.ntmps93 rfl fun R K hK => ?_
  refine WP.seq ?_
  refine WP.reg ?_
  refine WL.e e_assign ?_
  refine WL.next ?_
  refine WP.seq ?_
  refine WP.reg ?_
  refine WL.e e_move <| WL.e (e_add (c := ((8 + n : Nat) : Int)) rfl rfl (by rw [w_i64 (by omega) (by omega)]; omega)) <| WL.e (e_add (c := ((8 + n + 64 : Nat) : Int)) rfl rfl (by rw [w_i64 (by omega) (by omega)]; omega)) <| WL.e (e_sub (c := ((8 + n + 63 : Nat) : Int)) rfl rfl (by rw [w_i64 (by omega) (by omega)]; omega)) <| WL.e (e_quo (c := ((secs n : Nat) : Int)) rfl rfl (by decide) (by rw [Int.tdiv_eq_ediv_of_nonneg (by omega), w_i64 (by omega) (by omega)]; unfold secs; omega)) <| WL.e e_assign ?_
  refine WL.next ?_
  refine WP.ret ?_
  exact PO.fin Tryz.results93 (rv_tmp rv_nil) hK

end Go.SL
