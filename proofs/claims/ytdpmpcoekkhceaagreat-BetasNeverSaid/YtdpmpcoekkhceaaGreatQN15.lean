/- VN N0: rules and walks, several texts in one. -/
import Derived.Test.YtdpmpcoekkhceaaGreatQN14
import Derived.Test.YtdpmpcoekkhceaaGreatProg
import Derived.KernelRfl
set_option linter.unusedSimpArgs false
set_option linter.unusedVariables false
namespace Go.SL.VN
open Go Go.Proofs Go.SL
theorem a22 : aggOf Tryz.prog 22 = some none := by kernel_rfl
theorem a299 : aggOf Tryz.prog 299 = some none := by kernel_rfl
theorem k142 : callable Tryz.prog 142 = true := by kernel_rfl
theorem k162 : callable Tryz.prog 162 = true := by kernel_rfl
theorem k178 : callable Tryz.prog 178 = true := by kernel_rfl
theorem k189 : callable Tryz.prog 189 = true := by kernel_rfl
theorem k190 : callable Tryz.prog 190 = true := by kernel_rfl
theorem k191 : callable Tryz.prog 191 = true := by kernel_rfl
theorem k192 : callable Tryz.prog 192 = true := by kernel_rfl
theorem k193 : callable Tryz.prog 193 = true := by kernel_rfl
theorem k194 : callable Tryz.prog 194 = true := by kernel_rfl
theorem k195 : callable Tryz.prog 195 = true := by kernel_rfl
theorem k196 : callable Tryz.prog 196 = true := by kernel_rfl
theorem k197 : callable Tryz.prog 197 = true := by kernel_rfl
theorem k200 : callable Tryz.prog 200 = true := by kernel_rfl
theorem k201 : callable Tryz.prog 201 = true := by kernel_rfl
theorem mixedOk : Tryz.prog.follows .mixedOrders = true := by kernel_rfl
theorem s22 : szOf Tryz.prog 22 = some 1 := by kernel_rfl
theorem s299 : szOf Tryz.prog 299 = some 1 := by kernel_rfl
theorem sl82 : slOf Tryz.prog 82 = some (22, 1, 4) := by kernel_rfl
theorem z299 : zeroOf Tryz.prog 299 = some [.int .u64 0] := by kernel_rfl
end Go.SL.VN
namespace Go.SL
open Go Go.Proofs VN
open Go.Sort
theorem L64_spec {g : World} (x : Nat) (hx : x < 18446744073709551616) : Spec Tryz.prog g 178 [.int .u64 x] [] fun K R => K (.int .i64 (bitsLen x : Nat)) R := by
  refine Spec.intro Tryz.func178 rfl Tryz.ntmps178 rfl fun R K hK => ?_
  have hb : bitsLen x = 0 + bitsLen x := by omega
  have hl := hx
  have hn := hx
  refine WP.seq ?_
  refine WP.reg ?_
  refine WL.e e_assign ?_
  refine WL.next ?_
  refine WP.cutR (fun (z : Nat × Nat) => [(0, .int .u64 z.1), (2, .int .i64 z.2)]) (fun (z : Nat × Nat) => R) [] (fun (z : Nat × Nat) => bitsLen x = z.2 + bitsLen z.1 ∧ z.1 < 4294967296 ∧ z.2 ≤ 32) ?_ ?_
  · skip
    refine WP.seq ?_
    refine WP.reg ?_
    refine WL.e e_move <| WL.e e_geq ?_
    refine WL.next ?_
    refine WP.cond rfl (fun h1 => ?_) (fun h1 => ?_)
    · replace h1 : 4294967296 ≤ x := by rw [decide_eq_true_eq] at h1; omega
      refine WP.seq ?_
      refine WP.reg ?_
      refine WL.e e_move <| WL.e (e_shr (c := ((x / 4294967296 : Nat) : Int)) rfl rfl (by decide) (by decide) (by simp)) <| WL.e e_assign ?_
      refine WL.next ?_
      refine WP.reg ?_
      refine WL.e e_assign ?_
      refine WL.nil ?_
      exact PO.meetK (x / 4294967296, 32) ⟨by simp only; rw [hb, bitsLen_shr 32 x h1]; rw [show (2 : Nat) ^ 32 = 4294967296 from rfl]; omega, by simp only; omega, by simp only; omega⟩
    · replace h1 : ¬ (4294967296 ≤ x) := by rw [decide_eq_false_iff_not] at h1; omega
      refine WP.skip ?_
      exact PO.meetK (x, 0) ⟨hb, by simp only; omega, by simp only; omega⟩
  · clear hb hl hn
    rintro ⟨x1, n1⟩ ⟨hb, hl, hn⟩
    simp only at hb hl hn
    dsimp only
    refine WP.cutR (fun (z : Nat × Nat) => [(0, .int .u64 z.1), (2, .int .i64 z.2)]) (fun (z : Nat × Nat) => R) [] (fun (z : Nat × Nat) => bitsLen x = z.2 + bitsLen z.1 ∧ z.1 < 65536 ∧ z.2 ≤ 48) ?_ ?_
    · skip
      refine WP.seq ?_
      refine WP.reg ?_
      refine WL.e e_move <| WL.e e_geq ?_
      refine WL.next ?_
      refine WP.cond rfl (fun h1 => ?_) (fun h1 => ?_)
      · replace h1 : 65536 ≤ x1 := by rw [decide_eq_true_eq] at h1; omega
        refine WP.seq ?_
        refine WP.reg ?_
        refine WL.e e_move <| WL.e (e_shr (c := ((x1 / 65536 : Nat) : Int)) rfl rfl (by decide) (by decide) (by simp)) <| WL.e e_assign ?_
        refine WL.next ?_
        refine WP.reg ?_
        refine WL.e e_move <| WL.e (e_addN (b := 16)) <| WL.e e_assign ?_
        refine WL.nil ?_
        exact PO.meetK (x1 / 65536, n1 + 16) ⟨by simp only; rw [hb, bitsLen_shr 16 x1 h1]; rw [show (2 : Nat) ^ 16 = 65536 from rfl]; omega, by simp only; omega, by simp only; omega⟩
      · replace h1 : ¬ (65536 ≤ x1) := by rw [decide_eq_false_iff_not] at h1; omega
        refine WP.skip ?_
        exact PO.meetK (x1, n1) ⟨hb, by simp only; omega, by simp only; omega⟩
    · clear hb hl hn
      rintro ⟨x2, n2⟩ ⟨hb, hl, hn⟩
      simp only at hb hl hn
      dsimp only
      refine WP.cutR (fun (z : Nat × Nat) => [(0, .int .u64 z.1), (2, .int .i64 z.2)]) (fun (z : Nat × Nat) => R) [] (fun (z : Nat × Nat) => bitsLen x = z.2 + bitsLen z.1 ∧ z.1 < 256 ∧ z.2 ≤ 56) ?_ ?_
      · skip
        refine WP.seq ?_
        refine WP.reg ?_
        refine WL.e e_move <| WL.e e_geq ?_
        refine WL.next ?_
        refine WP.cond rfl (fun h1 => ?_) (fun h1 => ?_)
        · replace h1 : 256 ≤ x2 := by rw [decide_eq_true_eq] at h1; omega
          refine WP.seq ?_
          refine WP.reg ?_
          refine WL.e e_move <| WL.e (e_shr (c := ((x2 / 256 : Nat) : Int)) rfl rfl (by decide) (by decide) (by simp)) <| WL.e e_assign ?_
          refine WL.next ?_
          refine WP.reg ?_
          refine WL.e e_move <| WL.e (e_addN (b := 8)) <| WL.e e_assign ?_
          refine WL.nil ?_
          exact PO.meetK (x2 / 256, n2 + 8) ⟨by simp only; rw [hb, bitsLen_shr 8 x2 h1]; rw [show (2 : Nat) ^ 8 = 256 from rfl]; omega, by simp only; omega, by simp only; omega⟩
        · replace h1 : ¬ (256 ≤ x2) := by rw [decide_eq_false_iff_not] at h1; omega
          refine WP.skip ?_
          exact PO.meetK (x2, n2) ⟨hb, by simp only; omega, by simp only; omega⟩
      · clear hb hl hn
        rintro ⟨x3, n3⟩ ⟨hb, hl, hn⟩
        simp only at hb hl hn
        dsimp only
        refine WP.seq ?_
        refine WP.reg ?_
        refine WL.e e_move <| WL.e e_move <| WL.e (e_conv (c := ((x3 : Nat) : Int)) (by rw [Tryz.underlying56]; rfl) Tryz.underlying5 rfl (by rw [wu8, UInt8.toNat_ofNat']; congr 1; omega)) ?_
        refine WL.e (e_idxS (n := x3) (b := UInt8.ofNat (bitsLen x3)) Tryz.underlying9 (hb := tab_all _ (by kernel_rfl) hl)) <| WL.e (e_conv (c := ((bitsLen x3 : Nat) : Int)) (by rw [Tryz.underlying5]; rfl) Tryz.underlying3 rfl (by have h9 : bitsLen x3 ≤ 8 := bitsLen_lt (k := 8) hl; rw [UInt8.toNat_ofNat', Nat.mod_eq_of_lt (by omega)]; exact w_i64 (by omega) (by omega))) <| WL.e (e_addN (h := by have h9 : bitsLen x3 ≤ 8 := bitsLen_lt (k := 8) hl; omega)) <| WL.e e_assign ?_
        refine WL.next ?_
        refine WP.ret ?_
        rw [show bitsLen x = n3 + bitsLen x3 from hb] at hK
        exact PO.fin Tryz.results178 (rv_tmp rv_nil) hK
theorem L_spec {g : World} (x : Nat) (hx : x < 18446744073709551616) : Spec Tryz.prog g 142 [.int .u64 x] [] fun K R => K (.int .i64 (bitsLen x : Nat)) R := by
  refine Spec.intro Tryz.func142 rfl Tryz.ntmps142 rfl fun R K hK => ?_
  refine WP.seq ?_
  refine WP.reg ?_
  refine WL.e e_assign ?_
  refine WL.next ?_
  refine WP.seq ?_
  refine WP.cond_f rfl ?_
  refine WP.skip ?_
  refine PO.next ?_
  refine WP.seq ?_
  refine WP.reg ?_
  refine WL.e e_move ?_
  refine WL.h (h_call (L64_spec x hx) k178 ?_)
  refine WL.e e_assign ?_
  refine WL.next ?_
  refine WP.ret ?_
  exact PO.fin Tryz.results142 (rv_tmp rv_nil) hK
theorem NP2_spec {g : World} (x : Nat) (hx : x ≤ 68719476736) : Spec Tryz.prog g 200 [.int .i64 x] [] fun K R => K (.int .u64 ((2 ^ bitsLen x : Nat) : Int)) R := by
  refine Spec.intro Tryz.func200 rfl Tryz.ntmps200 rfl fun R K hK => ?_
  refine WP.seq ?_
  refine WP.reg ?_
  refine WL.e e_assign ?_
  refine WL.next ?_
  refine WP.seq ?_
  refine WP.reg ?_
  refine WL.e e_move <| WL.e (e_conv (c := ((x : Nat) : Int)) (by rw [Tryz.underlying3]; rfl) Tryz.underlying238 rfl (by rw [wu64, UInt64.toNat_ofNat']; congr 1; omega)) ?_
  refine WL.h (h_call (L_spec x (by omega)) k142 ?_)
  refine WL.e (e_shl (c := ((2 ^ bitsLen x : Nat) : Int)) rfl rfl (by omega) (by have h9 : bitsLen x ≤ 37 := bitsLen_lt (k := 37) (by omega); simp only [IntKind.bits]; omega) (by have h9 : bitsLen x ≤ 37 := bitsLen_lt (k := 37) (by omega); have h10 : 2 ^ bitsLen x ≤ 2 ^ 37 := Nat.pow_le_pow_right (by decide) h9; rw [Int.one_mul, Int.toNat_natCast, show ((2 : Int) ^ bitsLen x) = ((2 ^ bitsLen x : Nat) : Int) by simp, wu64, UInt64.toNat_ofNat', Nat.mod_eq_of_lt (by omega)])) <| WL.e e_assign ?_
  refine WL.next ?_
  refine WP.ret ?_
  exact PO.fin Tryz.results200 (rv_tmp rv_nil) hK
theorem Xor_spec {g : World} {q : Nat} (r : UInt64) : Spec Tryz.prog g 201 [.pointer (some ⟨q, 0, none⟩)] [cl q 299 [.int .u64 (r).toNat]] fun K R => K (.int .u64 (xorNext r).toNat) (cl q 299 [.int .u64 (xorNext r).toNat] :: R) := by
  refine Spec.intro Tryz.func201 rfl Tryz.ntmps201 rfl fun R K hK => ?_
  refine WP.seq ?_
  refine WP.reg ?_
  refine WL.e e_assign ?_
  refine WL.next ?_
  refine WP.seq ?_
  refine WP.draws mixedOk 10 ?_
  refine RW.e 0 rfl e_move <| RW.e 1 rfl e_nil <| RW.e 2 rfl (e_load a299) <| RW.e 3 rfl e_move <| RW.e 4 rfl e_nil <| RW.e 5 rfl (e_load a299) <| RW.e 6 rfl (e_shl64 (m := 13) (by decide)) <| RW.e 7 rfl e_xor64 <| RW.e 8 rfl e_nil ?_
  refine RW.any (is := [9]) rfl ⟨?_, trivial⟩
  refine RWat.h' rfl rfl rfl ?_
  refine (h_store s299 ?_)
  refine ⟨trivial, ?_⟩
  refine RW.done ?_
  refine PO.next ?_
  refine WP.seq ?_
  refine WP.draws mixedOk 10 ?_
  refine RW.e 0 rfl e_move <| RW.e 1 rfl e_nil <| RW.e 2 rfl (e_load a299) <| RW.e 3 rfl e_move <| RW.e 4 rfl e_nil <| RW.e 5 rfl (e_load a299) <| RW.e 6 rfl (e_shr64 (m := 7) (by decide)) <| RW.e 7 rfl e_xor64 <| RW.e 8 rfl e_nil ?_
  refine RW.any (is := [9]) rfl ⟨?_, trivial⟩
  refine RWat.h' rfl rfl rfl ?_
  refine (h_store s299 ?_)
  refine ⟨trivial, ?_⟩
  refine RW.done ?_
  refine PO.next ?_
  refine WP.seq ?_
  refine WP.draws mixedOk 10 ?_
  refine RW.e 0 rfl e_move <| RW.e 1 rfl e_nil <| RW.e 2 rfl (e_load a299) <| RW.e 3 rfl e_move <| RW.e 4 rfl e_nil <| RW.e 5 rfl (e_load a299) <| RW.e 6 rfl (e_shl64 (m := 17) (by decide)) <| RW.e 7 rfl e_xor64 <| RW.e 8 rfl e_nil ?_
  refine RW.any (is := [9]) rfl ⟨?_, trivial⟩
  refine RWat.h' rfl rfl rfl ?_
  refine (h_store s299 ?_)
  refine ⟨trivial, ?_⟩
  refine RW.done ?_
  refine PO.next ?_
  refine WP.seq ?_
  refine WP.reg ?_
  refine WL.e e_move <| WL.e e_nil <| WL.e (e_load a299) <| WL.e e_assign ?_
  refine WL.next ?_
  refine WP.ret ?_
  exact PO.fin Tryz.results201 (rv_tmp rv_nil) hK
set_option maxHeartbeats 2000000 in
theorem Brk32_spec {g : World} {u : Value} (d : Array UInt32) (a b : Nat) (hab : a < b) (hb : b ≤ d.size) (hn : d.size ≤ 68719476736) : Spec Tryz.prog g 191 [u, .int .i64 a, .int .i64 b] [Sl 22 1 u32C u (d).toList] fun K R => K (.tuple #[]) (Sl 22 1 u32C u (breakPatterns d a b).toList :: R) := by
  refine Spec.intro Tryz.func191 rfl Tryz.ntmps191 rfl fun R K hK => ?_
  refine WP.seq ?_
  refine WP.reg ?_
  refine WL.e e_move <| WL.e e_move <| WL.e (e_subN) <| WL.e e_assign ?_
  refine WL.next ?_
  refine WP.seq ?_
  refine WP.reg ?_
  refine WL.e e_move <| WL.e e_geq ?_
  refine WL.next ?_
  refine WP.cond rfl (fun h1 => ?_) (fun h1 => ?_)
  · replace h1 : b - a ≥ 8 := by rw [decide_eq_true_eq] at h1; omega
    have hp := bitsLen_pow (x := b - a) (by omega)
    refine WP.seq ?_
    refine WP.reg ?_
    refine WL.e e_move <| WL.e (e_conv (c := ((UInt64.ofNat (b - a)).toNat : Int)) (by rw [Tryz.underlying3]; rfl) Tryz.underlying299 rfl (wu64 _)) ?_
    refine WL.h (h_alloc z299 fun b1 => ?_)
    refine WL.h' (h_store s299 ?_)
    refine WL.next ?_
    refine WP.seq ?_
    refine WP.reg ?_
    refine WL.e e_move ?_
    refine WL.h (h_call (NP2_spec (b - a) (by omega)) k200 ?_)
    refine WL.e e_assign ?_
    refine WL.next ?_
    refine WP.seq ?_
    refine WP.reg ?_
    refine WL.e e_move <| WL.e e_move <| WL.e (e_quoN (b := 4)) <| WL.e (e_mulN (b := 2)) <| WL.e (e_addN) <| WL.e (e_subN (b := 1)) <| WL.e e_assign ?_
    refine WL.next ?_
    refine WP.block ?_
    refine WP.loopK (fun (x : Nat × UInt64 × Array UInt32) => [(9, .int .i64 (((a + (b - a) / 4 * 2 - 1) + x.1 : Nat) : Int))]) (fun (x : Nat × UInt64 × Array UInt32) => Sl 22 1 u32C u (x.2.2).toList :: cl b1 299 [.int .u64 x.2.1.toNat] :: R) [(0, _), (1, _), (6, _), (7, _), (8, _)] (fun (x : Nat × UInt64 × Array UInt32) => x.2.2.size = d.size ∧ x.1 ≤ 3 ∧ x.2 = brk a (b - a) (2 ^ bitsLen (b - a)) (UInt64.ofNat (b - a), d) (a + (b - a) / 4 * 2 - 1) x.1) (fun (x : Nat × UInt64 × Array UInt32) => 3 - x.1) (0, UInt64.ofNat (b - a), d) (⟨rfl, Nat.zero_le _, rfl⟩) ?_
    rintro ⟨k, s1, d1⟩ ⟨hs1, hk, he⟩
    simp only at hs1 hk he
    dsimp only
    refine WP.seq ?_
    refine WP.seq ?_
    refine WP.reg ?_
    refine WL.e e_move <| WL.e e_move <| WL.e e_move <| WL.e (e_quoN (b := 4)) <| WL.e (e_mulN (b := 2)) <| WL.e (e_addN) <| WL.e (e_addN (b := 1)) <| WL.e e_leq ?_
    refine WL.next ?_
    refine WP.cond rfl (fun h2 => ?_) (fun h2 => ?_)
    · replace h2 : k < 3 := by rw [decide_eq_true_eq] at h2; omega
      refine WP.skip ?_
      refine PO.next ?_
      refine WP.seq ?_
      refine WP.block ?_
      refine WP.seq ?_
      refine WP.reg ?_
      refine WL.h (h_call (Xor_spec s1) k201 ?_)
      obtain ⟨ot, hot⟩ : ∃ o, (xorNext s1).toNat &&& ((2 ^ bitsLen (b - a)) - 1) = o := ⟨_, rfl⟩
      have hol : ot ≤ (2 ^ bitsLen (b - a)) - 1 := by rw [← hot]; exact Nat.and_le_right
      refine WL.e e_move <| WL.e (e_sub (c := (((2 ^ bitsLen (b - a)) - 1 : Nat) : Int)) rfl rfl (by have h0 : 0 < (2 ^ bitsLen (b - a)) := Nat.two_pow_pos _; rw [show (((2 ^ bitsLen (b - a)) : Nat) : Int) - 1 = (((2 ^ bitsLen (b - a)) - 1 : Nat) : Int) by omega, wu64, UInt64.toNat_ofNat', Nat.mod_eq_of_lt (by omega)])) <| WL.e (e_and64 (m := (2 ^ bitsLen (b - a)) - 1) (by omega)) <| WL.e (e_conv (c := ((ot : Nat) : Int)) (by rw [Tryz.underlying238]; rfl) Tryz.underlying3 rfl (by rw [hot]; exact w_i64 (by omega) (by omega))) <| WL.e e_assign ?_
      refine WL.next ?_
      refine WP.seq ?_
      refine WP.seq ?_
      refine WP.reg ?_
      refine WL.e e_move <| WL.e e_move <| WL.e e_geq ?_
      refine WL.next ?_
      refine WP.cond rfl (fun h3 => ?_) (fun h3 => ?_)
      · replace h3 : ot ≥ b - a := by rw [decide_eq_true_eq] at h3; omega
        refine WP.reg ?_
        refine WL.e e_move <| WL.e e_move <| WL.e (e_subN) <| WL.e e_assign ?_
        refine WL.next ?_
        refine WP.draws mixedOk 20 ?_
        refine RW.e 0 rfl e_move <| RW.e 1 rfl e_move <| RW.e 2 rfl e_move <| RW.e 3 rfl e_move <| RW.e 4 rfl e_move <| RW.e 5 rfl (e_addN) <| RW.e 6 rfl e_move <| RW.e 7 rfl e_move <| RW.e 8 rfl e_move <| RW.e 9 rfl (e_addN) <| RW.e 10 rfl (ea_ia sl82) <| RW.e 11 rfl (ea_load a22) ?_
        refine RW.e 12 rfl e_move <| RW.e 13 rfl e_move <| RW.e 14 rfl (ea_ia sl82) <| RW.e 15 rfl (ea_load a22) <| RW.e 16 rfl (ea_ia sl82) ?_
        refine RW.any (is := [17]) rfl ⟨?_, trivial⟩
        refine RWat.h' rfl rfl rfl ?_
        refine (ha_store s22 ?_)
        refine ⟨⟨⟨_, rfl, .inl ⟨rfl, (e_addN)⟩⟩, ⟨_, rfl, .inl ⟨rfl, e_move⟩⟩, ⟨_, rfl, .inl ⟨rfl, e_move⟩⟩, ⟨_, rfl, .inl ⟨rfl, e_move⟩⟩, trivial⟩, ?_⟩
        refine RW.e 18 rfl (ea_ia sl82) ?_
        refine RW.any (is := [19]) rfl ⟨?_, trivial⟩
        refine RWat.h' rfl rfl rfl ?_
        refine (ha_store s22 ?_)
        refine ⟨trivial, ?_⟩
        refine RW.done ?_
        refine PO.blockN ?_
        refine PO.next ?_
        refine WP.reg ?_
        refine WL.e e_move <| WL.e (e_addN (a := (a + (b - a) / 4 * 2 - 1) + k) (b := 1)) <| WL.e e_assign ?_
        refine WL.nil ?_
        exact PO.againK (k + 1, xorNext s1, swp d1 ((a + (b - a) / 4 * 2 - 1) + k) (a + (ot - (b - a)))) ⟨by simp only [swp_size]; omega, by simp only; omega, by simp only; show _ = breakStep _ _ _ (brk a (b - a) (2 ^ bitsLen (b - a)) (UInt64.ofNat (b - a), d) (a + (b - a) / 4 * 2 - 1) k) _; rw [← he]; simp only [breakStep]; rw [show (xorNext s1).toNat &&& ((2 ^ bitsLen (b - a)) - 1) = ot from hot, if_pos h3]⟩ (by simp only; omega)
      · replace h3 : ¬ (ot ≥ b - a) := by rw [decide_eq_false_iff_not] at h3; omega
        refine WP.skip ?_
        refine PO.next ?_
        refine WP.draws mixedOk 20 ?_
        refine RW.e 0 rfl e_move <| RW.e 1 rfl e_move <| RW.e 2 rfl e_move <| RW.e 3 rfl e_move <| RW.e 4 rfl e_move <| RW.e 5 rfl (e_addN) <| RW.e 6 rfl e_move <| RW.e 7 rfl e_move <| RW.e 8 rfl e_move <| RW.e 9 rfl (e_addN) <| RW.e 10 rfl (ea_ia sl82) <| RW.e 11 rfl (ea_load a22) ?_
        refine RW.e 12 rfl e_move <| RW.e 13 rfl e_move <| RW.e 14 rfl (ea_ia sl82) <| RW.e 15 rfl (ea_load a22) <| RW.e 16 rfl (ea_ia sl82) ?_
        refine RW.any (is := [17]) rfl ⟨?_, trivial⟩
        refine RWat.h' rfl rfl rfl ?_
        refine (ha_store s22 ?_)
        refine ⟨⟨⟨_, rfl, .inl ⟨rfl, (e_addN)⟩⟩, ⟨_, rfl, .inl ⟨rfl, e_move⟩⟩, ⟨_, rfl, .inl ⟨rfl, e_move⟩⟩, ⟨_, rfl, .inl ⟨rfl, e_move⟩⟩, trivial⟩, ?_⟩
        refine RW.e 18 rfl (ea_ia sl82) ?_
        refine RW.any (is := [19]) rfl ⟨?_, trivial⟩
        refine RWat.h' rfl rfl rfl ?_
        refine (ha_store s22 ?_)
        refine ⟨trivial, ?_⟩
        refine RW.done ?_
        refine PO.blockN ?_
        refine PO.next ?_
        refine WP.reg ?_
        refine WL.e e_move <| WL.e (e_addN (b := 1)) <| WL.e e_assign ?_
        refine WL.nil ?_
        exact PO.againK (k + 1, xorNext s1, swp d1 ((a + (b - a) / 4 * 2 - 1) + k) (a + (ot))) ⟨by simp only [swp_size]; omega, by simp only; omega, by simp only; show _ = breakStep _ _ _ (brk a (b - a) (2 ^ bitsLen (b - a)) (UInt64.ofNat (b - a), d) (a + (b - a) / 4 * 2 - 1) k) _; rw [← he]; simp only [breakStep]; rw [show (xorNext s1).toNat &&& ((2 ^ bitsLen (b - a)) - 1) = ot from hot, if_neg h3]⟩ (by simp only; omega)
    · obtain rfl : k = 3 := by rw [decide_eq_false_iff_not] at h2; omega
      rw [brk_eq h1, ← he] at hK
      refine WP.exit ?_
      refine PO.past nofun ?_
      refine PO.round nofun ?_
      refine PO.blockX ?_
      exact PO.fin Tryz.results191 rv_nil hK
  · replace h1 : ¬ b - a ≥ 8 := by rw [decide_eq_false_iff_not] at h1; omega
    rw [brk_no h1] at hK
    refine WP.skip ?_
    exact PO.fin Tryz.results191 rv_nil hK
set_option maxHeartbeats 4000000 in
theorem Pdq32r_spec {g : World} {u : Value} (m : Nat) : ∀ (d : Array UInt32) (a b limit : Nat), b - a ≤ m → a ≤ b → b ≤ d.size → d.size ≤ 68719476736 → limit ≤ 1000 → Below lt32 a b d → Spec Tryz.prog g 162 [u, .int .i64 a, .int .i64 b, .int .i64 limit] [Sl 22 1 u32C u (d).toList] fun K R => ∀ d', PermIn a b d d' → SortedIn lt32 a b d' → K (.tuple #[]) (Sl 22 1 u32C u (d').toList :: R) := by
  refine Nat.strongRecOn m (fun m ih => ?_)
  intro d a b limit hm hab hb hn hlim hbel
  refine Spec.intro Tryz.func162 rfl Tryz.ntmps162 rfl fun R K hK => ?_
  refine WP.seq ?_
  refine WP.reg ?_
  refine WL.e e_assign ?_
  refine WL.next ?_
  refine WP.seq ?_
  refine WP.reg ?_
  refine WL.e e_assign ?_
  refine WL.next ?_
  refine WP.block ?_
  refine WP.loopK (fun (x : Nat × Nat × Nat × Bool × Bool × Array UInt32) => [(1, .int .i64 x.1), (2, .int .i64 x.2.1), (3, .int .i64 x.2.2.1), (8, .bool x.2.2.2.1), (9, .bool x.2.2.2.2.1)]) (fun (x : Nat × Nat × Nat × Bool × Bool × Array UInt32) => Sl 22 1 u32C u (x.2.2.2.2.2).toList :: R) [(0, _)] (fun (x : Nat × Nat × Nat × Bool × Bool × Array UInt32) => x.1 ≤ x.2.1 ∧ x.2.1 ≤ d.size ∧ x.2.2.2.2.2.size = d.size ∧ x.2.2.1 ≤ limit ∧ x.2.1 - x.1 ≤ m ∧ Below lt32 x.1 x.2.1 x.2.2.2.2.2 ∧ ∀ R', PermIn x.1 x.2.1 x.2.2.2.2.2 R' → SortedIn lt32 x.1 x.2.1 R' → PermIn a b d R' ∧ SortedIn lt32 a b R') (fun (x : Nat × Nat × Nat × Bool × Bool × Array UInt32) => x.2.1 - x.1) (a, b, limit, true, true, d) (⟨hab, hb, rfl, Nat.le_refl _, hm, hbel, fun R h1 h2 => ⟨h1, h2⟩⟩) ?_
  rintro ⟨a1, b1, l1, wb, wp, d1⟩ ⟨hab1, hb1, hs1, hl1, hm1, hbe1, hC⟩
  simp only at hab1 hb1 hs1 hl1 hm1 hbe1 hC
  dsimp only
  refine WP.block ?_
  refine WP.seq ?_
  refine WP.reg ?_
  refine WL.e e_move <| WL.e e_move <| WL.e (e_subN) <| WL.e e_assign ?_
  refine WL.next ?_
  refine WP.seq ?_
  refine WP.seq ?_
  refine WP.reg ?_
  refine WL.e e_move <| WL.e e_leq ?_
  refine WL.next ?_
  refine WP.cond rfl (fun h1 => ?_) (fun h1 => ?_)
  · replace h1 : b1 - a1 ≤ 12 := by rw [decide_eq_true_eq] at h1; omega
    refine WP.seq ?_
    refine WP.reg ?_
    refine WL.e e_move <| WL.e e_move <| WL.e e_move ?_
    refine WL.h (h_call (Ins32_spec d1 a1 b1 (by omega) (by omega) (by omega)) k189 ?_)
    obtain ⟨k1, k2⟩ := insertionSort_holds swo32 d1 a1 b1 hab1 (by omega)
    refine WL.next ?_
    refine WP.ret ?_
    refine PO.past nofun ?_
    refine PO.blockR ?_
    refine PO.round nofun ?_
    refine PO.blockR ?_
    exact PO.fin Tryz.results162 rv_nil (hK _ (hC _ k1 k2).1 (hC _ k1 k2).2)
  · replace h1 : ¬ (b1 - a1 ≤ 12) := by rw [decide_eq_false_iff_not] at h1; omega
    refine WP.skip ?_
    refine PO.next ?_
    refine WP.seq ?_
    refine WP.seq ?_
    refine WP.reg ?_
    refine WL.e e_move <| WL.e e_eql ?_
    refine WL.next ?_
    refine WP.cond rfl (fun h2 => ?_) (fun h2 => ?_)
    · skip
      refine WP.seq ?_
      refine WP.reg ?_
      refine WL.e e_move <| WL.e e_move <| WL.e e_move ?_
      refine WL.h (h_call (Heap32_spec d1 a1 b1 (by omega) (by omega) (by omega)) k190 ?_)
      obtain ⟨k1, k2⟩ := heapSort_holds swo32 d1 a1 b1 hab1 (by omega)
      refine WL.next ?_
      refine WP.ret ?_
      refine PO.past nofun ?_
      refine PO.blockR ?_
      refine PO.round nofun ?_
      refine PO.blockR ?_
      exact PO.fin Tryz.results162 rv_nil (hK _ (hC _ k1 k2).1 (hC _ k1 k2).2)
    · skip
      refine WP.skip ?_
      refine PO.next ?_
      refine WP.cutR (fun (z : Nat × Array UInt32) => [(3, .int .i64 z.1)]) (fun (z : Nat × Array UInt32) => Sl 22 1 u32C u (z.2).toList :: R) [(0, _), (1, _), (2, _), (8, _), (9, _), (10, _), (19, _), (20, _), (21, _), (22, _), (23, _), (28, _), (29, _)] (fun (z : Nat × Array UInt32) => z.1 ≤ limit ∧ PermIn a1 b1 d1 z.2) ?_ ?_
      · skip
        refine WP.seq ?_
        refine WP.reg ?_
        refine WL.e e_move <| WL.e e_not ?_
        refine WL.next ?_
        refine WP.cond rfl (fun h3 => ?_) (fun h3 => ?_)
        · replace h2 : ¬ l1 = 0 := fun h => by rw [h] at h2; exact absurd h2 (by decide)
          refine WP.seq ?_
          refine WP.reg ?_
          refine WL.e e_move <| WL.e e_move <| WL.e e_move ?_
          refine WL.h (h_call (Brk32_spec d1 a1 b1 (by omega) (by omega) (by omega)) k191 ?_)
          refine WL.next ?_
          refine WP.reg ?_
          refine WL.e e_move <| WL.e (e_subN (b := 1)) <| WL.e e_assign ?_
          refine WL.nil ?_
          exact PO.meetK (l1 - 1, breakPatterns d1 a1 b1) ⟨by simp only; omega, breakPatterns_holds d1 a1 b1 hab1 (by omega)⟩
        · skip
          refine WP.skip ?_
          exact PO.meetK (l1, d1) ⟨hl1, permIn_refl _ _ _⟩
      · rintro ⟨l2, d2⟩ ⟨hl2, p12⟩
        simp only at hl2 p12
        dsimp only
        have hs2 : d2.size = d1.size := p12.1
        refine WP.seq ?_
        refine WP.reg ?_
        refine WL.e e_move <| WL.e e_move <| WL.e e_move ?_
        refine WL.h (h_call (Piv32_spec d2 a1 b1 (by omega) (by omega) (by omega)) k192 ?_)
        obtain ⟨hv1, hv2⟩ := choosePivot_holds lt32 d2 a1 b1 (by omega)
        generalize (choosePivot lt32 d2 a1 b1).1 = p at hv1 hv2 ⊢
        generalize hv (choosePivot lt32 d2 a1 b1).2 = hn1
        refine WL.e e_move <| WL.e e_extract <| WL.e e_extract <| WL.e e_assign <| WL.e e_assign ?_
        refine WL.next ?_
        refine WP.cutR (fun (z : Nat × Nat × Array UInt32) => [(11, .int .i64 z.1), (12, .int .i64 z.2.1)]) (fun (z : Nat × Nat × Array UInt32) => Sl 22 1 u32C u (z.2.2).toList :: R) [(0, _), (1, _), (2, _), (3, _), (8, _), (9, _), (10, _), (19, _), (20, _), (21, _), (22, _), (23, _), (28, _), (29, _), (42, _), (43, _), (44, _), (45, _), (46, _), (47, _), (48, _)] (fun (z : Nat × Nat × Array UInt32) => a1 ≤ z.1 ∧ z.1 < b1 ∧ PermIn a1 b1 d2 z.2.2) ?_ ?_
        · skip
          refine WP.seq ?_
          refine WP.reg ?_
          refine WL.e e_move <| WL.e e_eql ?_
          refine WL.next ?_
          refine WP.cond rfl (fun h4 => ?_) (fun h4 => ?_)
          · skip
            refine WP.seq ?_
            refine WP.reg ?_
            refine WL.e e_move <| WL.e e_move <| WL.e e_move ?_
            refine WL.h (h_call (Rev32_spec d2 a1 b1 (by omega) (by omega) (by omega)) k193 ?_)
            refine WL.next ?_
            refine WP.seq ?_
            refine WP.reg ?_
            refine WL.e e_move <| WL.e (e_subN (b := 1)) <| WL.e e_move <| WL.e e_move <| WL.e (e_subN) <| WL.e (e_subN) <| WL.e e_assign ?_
            refine WL.next ?_
            refine WP.reg ?_
            refine WL.e e_assign ?_
            refine WL.nil ?_
            exact PO.meetK (b1 - 1 - (p - a1), 1, reverseRange d2 a1 b1) ⟨by simp only; omega, by simp only; omega, reverseRange_holds d2 a1 b1 hab1 (by omega)⟩
          · skip
            refine WP.skip ?_
            exact PO.meetK (p, hn1, d2) ⟨hv1, hv2, permIn_refl _ _ _⟩
        · rintro ⟨p3, hn3, d3⟩ ⟨hp1, hp2, p23⟩
          simp only at hp1 hp2 p23
          dsimp only
          have hs3 : d3.size = d2.size := p23.1
          have B3 : Below lt32 a1 b1 d3 := (hbe1.perm (by omega) p12).perm (by omega) p23
          refine WP.cutR (fun (z : Array UInt32) => []) (fun (z : Array UInt32) => Sl 22 1 u32C u (z).toList :: R) [(0, _), (1, _), (2, _), (3, _), (8, _), (9, _), (10, _), (11, _), (12, _), (19, _), (20, _), (21, _), (22, _), (23, _), (28, _), (29, _), (42, _), (43, _), (44, _), (45, _), (46, _), (47, _), (48, _)] (fun (z : Array UInt32) => PermIn a1 b1 d3 z) ?_ ?_
          · skip
            refine WP.seq ?_
            refine WP.reg ?_
            refine WL.e e_move <| WL.e e_move ?_
            refine WL.bool 62 rfl (fun w1 => ?_) (fun w1 => ?_)
            · skip
              refine WL.e e_move <| WL.e e_pick_t <| WL.e e_move ?_
              refine WL.bool 65 rfl (fun w2 => ?_) (fun w2 => ?_)
              · skip
                refine WL.e e_move <| WL.e e_eql <| WL.e e_pick_t ?_
                refine WL.next ?_
                refine WP.cond rfl (fun h6 => ?_) (fun h6 => ?_)
                · skip
                  refine WP.seq ?_
                  refine WP.reg ?_
                  refine WL.e e_move <| WL.e e_move <| WL.e e_move ?_
                  refine WL.h (h_call (PIns32_spec d3 a1 b1 (by omega) (by omega) (by omega)) k194 ?_)
                  obtain ⟨k1, k2⟩ := partialInsertionSort_holds swo32 d3 a1 b1 (by omega) (by omega) B3
                  refine WL.next ?_
                  refine WP.cond rfl (fun h7 => ?_) (fun h7 => ?_)
                  · skip
                    refine WP.ret ?_
                    refine PO.round nofun ?_
                    refine PO.blockR ?_
                    refine PO.round nofun ?_
                    refine PO.blockR ?_
                    exact PO.fin Tryz.results162 rv_nil (hK _ (hC _ (permIn_trans _ _ _ _ _ p12 (permIn_trans _ _ _ _ _ p23 k1)) (k2 h7)).1 (hC _ (permIn_trans _ _ _ _ _ p12 (permIn_trans _ _ _ _ _ p23 k1)) (k2 h7)).2)
                  · skip
                    refine WP.skip ?_
                    exact PO.meetK _ k1
                · skip
                  refine WP.skip ?_
                  exact PO.meetK d3 (permIn_refl _ _ _)
              · skip
                refine WL.skip <| WL.skip <| WL.e e_pick_f ?_
                refine WL.next ?_
                refine WP.cond_f rfl ?_
                refine WP.skip ?_
                exact PO.meetK d3 (permIn_refl _ _ _)
            · skip
              refine WL.skip <| WL.e e_pick_f <| WL.e e_move <| WL.skip <| WL.skip <| WL.e e_pick_f ?_
              refine WL.next ?_
              refine WP.cond_f rfl ?_
              refine WP.skip ?_
              exact PO.meetK d3 (permIn_refl _ _ _)
          · rintro d4 p34
            have hs4 : d4.size = d3.size := p34.1
            have B4 : Below lt32 a1 b1 d4 := B3.perm (by omega) p34
            refine WP.cutR (fun (_ : Unit) => [(1, .int .i64 a1)]) (fun (_ : Unit) => Sl 22 1 u32C u (d4).toList :: R) [(0, _), (2, _), (3, _), (8, _), (9, _), (10, _), (11, _), (12, _), (19, _), (20, _), (21, _), (22, _), (23, _), (28, _), (29, _), (42, _), (43, _), (44, _), (45, _), (46, _), (47, _), (48, _)] (fun (_ : Unit) => True) ?_ ?_
            · skip
              refine WP.seq ?_
              refine WP.draws mixedOk 15 ?_
              refine RW.e 0 rfl e_move <| RW.e 1 rfl e_gtr <| RW.e 2 rfl e_move ?_
              refine RW.bool 75 rfl (fun g => ?_) (fun g => ?_)
              · replace g : a1 > 0 := by rw [decide_eq_true_eq] at g; omega
                refine RW.e 3 rfl e_move <| RW.e 4 rfl e_move <| RW.e 5 rfl (e_subN (b := 1)) <| RW.e 6 rfl (ea_ia sl82) <| RW.e 7 rfl (ea_load a22) <| RW.e 8 rfl e_move <| RW.e 9 rfl e_move <| RW.e 10 rfl (ea_ia sl82) <| RW.e 11 rfl (ea_load a22) ?_
                refine RW.any (is := [12]) rfl ⟨?_, trivial⟩
                refine RWat.h rfl rfl rfl ?_
                refine (h_call (Less32_spec _ _) k195 ?_)
                refine ⟨trivial, ?_⟩
                refine RW.e 13 rfl e_not <| RW.e 14 rfl e_pick_t ?_
                refine RW.done ?_
                refine PO.next ?_
                refine WP.cond rfl (fun h8 => ?_) (fun h8 => ?_)
                · replace h8 := nt h8
                  refine WP.seq ?_
                  refine WP.reg ?_
                  refine WL.e e_move <| WL.e e_move <| WL.e e_move <| WL.e e_move ?_
                  refine WL.h (h_call (PartE32_spec d4 a1 b1 p3 hp1 hp2 (by omega) (by omega)) k196 ?_)
                  rcases he : partitionEqual lt32 d4 a1 b1 p3 with ⟨mid, d5⟩
                  obtain ⟨q1, q2, q3, q4, q5⟩ := round_eq swo32 (partitionEqual_holds lt32) g hp1 hp2 (by omega) B4 h8 he
                  dsimp only
                  refine WL.e e_assign ?_
                  refine WL.next ?_
                  refine WP.seq ?_
                  refine WP.reg ?_
                  refine WL.e e_move <| WL.e e_assign ?_
                  refine WL.next ?_
                  refine WP.exit ?_
                  refine PO.round nofun ?_
                  refine PO.blockX ?_
                  exact PO.againK (mid, b1, l2, wb, wp, d5) ⟨by simp only; omega, by simp only; omega, by simp only; omega, by simp only; omega, by simp only; omega, q4, fun R' h1 h2 => hC R' (permIn_trans _ _ _ _ _ (permIn_trans _ _ _ _ _ p12 (permIn_trans _ _ _ _ _ p23 p34)) (q5 R' h1 h2).1) (q5 R' h1 h2).2⟩ (by simp only; omega)
                · skip
                  refine WP.skip ?_
                  exact PO.meetK () trivial
              · skip
                refine RW.skip 3 rfl <| RW.skip 4 rfl <| RW.skip 5 rfl <| RW.skip 6 rfl <| RW.skip 7 rfl <| RW.skip 8 rfl <| RW.skip 9 rfl <| RW.skip 10 rfl <| RW.skip 11 rfl <| RW.skip 12 rfl <| RW.skip 13 rfl <| RW.e 14 rfl e_pick_f ?_
                refine RW.done ?_
                refine PO.next ?_
                refine WP.cond_f rfl ?_
                refine WP.skip ?_
                exact PO.meetK () trivial
            · intro _ _
              refine WP.seq ?_
              refine WP.reg ?_
              refine WL.e e_move <| WL.e e_move <| WL.e e_move <| WL.e e_move ?_
              refine WL.h (h_call (Part32_spec d4 a1 b1 p3 hp1 hp2 (by omega) (by omega)) k197 ?_)
              rcases he : partition lt32 d4 a1 b1 p3 with ⟨mid, alr, d5⟩
              obtain ⟨q1, q2, q3, q4, q5, q6, q7⟩ := round_part swo32 (partition_holds lt32) hp1 hp2 (by omega) B4 he
              dsimp only
              refine WL.e e_move <| WL.e e_extract <| WL.e e_extract <| WL.e e_assign <| WL.e e_assign ?_
              refine WL.next ?_
              refine WP.seq ?_
              refine WP.reg ?_
              refine WL.e e_move <| WL.e e_assign ?_
              refine WL.next ?_
              refine WP.seq ?_
              refine WP.reg ?_
              refine WL.e e_move <| WL.e e_move <| WL.e (e_subN) <| WL.e e_move <| WL.e e_move <| WL.e (e_subN) <| WL.e e_assign <| WL.e e_assign ?_
              refine WL.next ?_
              refine WP.seq ?_
              refine WP.reg ?_
              refine WL.e e_move <| WL.e (e_quoN (b := 8)) <| WL.e e_assign ?_
              refine WL.next ?_
              refine WP.seq ?_
              refine WP.reg ?_
              refine WL.e e_move <| WL.e e_move <| WL.e e_lss ?_
              refine WL.next ?_
              refine WP.cond rfl (fun h9 => ?_) (fun h9 => ?_)
              · replace h9 : mid - a1 < b1 - mid := by rw [decide_eq_true_eq] at h9; omega
                refine WP.seq ?_
                refine WP.reg ?_
                refine WL.e e_move <| WL.e e_move <| WL.e e_geq <| WL.e e_assign ?_
                refine WL.next ?_
                refine WP.seq ?_
                refine WP.reg ?_
                refine WL.e e_move <| WL.e e_move <| WL.e e_move <| WL.e e_move ?_
                refine WL.h (h_call (ih (mid - a1) (by omega) d5 a1 mid l2 (Nat.le_refl _) (by omega) (by omega) (by omega) (by omega) q4) k162 ?_)
                intro d6 r1 r2
                have hs6 : d6.size = d5.size := r1.1
                refine WL.next ?_
                refine WP.reg ?_
                refine WL.e e_move <| WL.e (e_addN (b := 1)) <| WL.e e_assign ?_
                refine WL.nil ?_
                refine PO.blockN ?_
                exact PO.againK ((mid + 1), b1, l2, (decide (((mid - a1 : Nat) : Int) ≥ (((b1 - a1) / 8 : Nat) : Int))), alr, d6) ⟨by simp only; omega, by simp only; omega, by simp only; omega, by simp only; omega, by simp only; omega, (q6 d6 r1 r2).1, fun R' h1 h2 => hC R' (permIn_trans _ _ _ _ _ (permIn_trans _ _ _ _ _ p12 (permIn_trans _ _ _ _ _ p23 p34)) ((q6 d6 r1 r2).2 R' h1 h2).1) ((q6 d6 r1 r2).2 R' h1 h2).2⟩ (by simp only; omega)
              · replace h9 : ¬ (mid - a1 < b1 - mid) := by rw [decide_eq_false_iff_not] at h9; omega
                refine WP.seq ?_
                refine WP.reg ?_
                refine WL.e e_move <| WL.e e_move <| WL.e e_geq <| WL.e e_assign ?_
                refine WL.next ?_
                refine WP.seq ?_
                refine WP.reg ?_
                refine WL.e e_move <| WL.e e_move <| WL.e (e_addN (b := 1)) <| WL.e e_move <| WL.e e_move ?_
                refine WL.h (h_call (ih (b1 - (mid + 1)) (by omega) d5 (mid + 1) b1 l2 (Nat.le_refl _) (by omega) (by omega) (by omega) (by omega) q5) k162 ?_)
                intro d6 r1 r2
                have hs6 : d6.size = d5.size := r1.1
                refine WL.next ?_
                refine WP.reg ?_
                refine WL.e e_move <| WL.e e_assign ?_
                refine WL.nil ?_
                refine PO.blockN ?_
                exact PO.againK (a1, mid, l2, (decide (((b1 - mid : Nat) : Int) ≥ (((b1 - a1) / 8 : Nat) : Int))), alr, d6) ⟨by simp only; omega, by simp only; omega, by simp only; omega, by simp only; omega, by simp only; omega, (q7 d6 r1 r2).1, fun R' h1 h2 => hC R' (permIn_trans _ _ _ _ _ (permIn_trans _ _ _ _ _ p12 (permIn_trans _ _ _ _ _ p23 p34)) ((q7 d6 r1 r2).2 R' h1 h2).1) ((q7 d6 r1 r2).2 R' h1 h2).2⟩ (by simp only; omega)
theorem Sort32_spec {g : World} {u : Value} (xs : List UInt32) (hn : xs.length ≤ 68719476736) : Spec Tryz.prog g 129 [u] [Sl 22 1 u32C u xs] fun K R => ∀ ys, ys.Perm xs → (ys.Pairwise fun x y => x ≤ y) → K (.tuple #[]) (Sl 22 1 u32C u ys :: R) := by
  refine Spec.intro Tryz.func129 rfl Tryz.ntmps129 rfl fun R K hK => ?_
  refine WP.seq ?_
  refine WP.reg ?_
  refine WL.e e_move ?_
  refine WL.e (el_len (xs := xs) (enc := u32C) sl82 sl_rl) <| WL.e e_assign ?_
  refine WL.next ?_
  refine WP.reg ?_
  refine WL.e e_move <| WL.e e_move <| WL.e e_move <| WL.e (e_conv (c := ((xs.length : Nat) : Int)) (by rw [Tryz.underlying3]; rfl) Tryz.underlying238 rfl (by rw [wu64, UInt64.toNat_ofNat']; congr 1; omega)) ?_
  refine WL.h (h_call (L_spec xs.length (by omega)) k142 ?_)
  refine WL.h (h_call (Pdq32r_spec xs.length xs.toArray 0 xs.length (bitsLen xs.length) (by omega) (Nat.zero_le _) (by simp) (by simpa using hn) (by have := bitsLen_lt (k := 37) (x := xs.length) (by omega); omega) (Or.inl rfl)) k162 ?_)
  intro d' p1 p2
  obtain ⟨p3, p4⟩ := sort_done p1 p2
  refine WL.nil ?_
  exact PO.fin Tryz.results129 rv_nil (hK _ p3 p4)
end Go.SL
/- What the functions compute, in plain Lean: rows as they were. -/
set_option linter.unusedSimpArgs false
set_option linter.unusedVariables false
set_option linter.unusedSectionVars false
namespace Go.SL
open Go
structure WasM where
  at_ : UInt32
  val : UInt32
  gone : Bool
def WasM.c (w : WasM) : List Value := [.int .u32 w.at_.toNat, .int .u32 w.val.toNat, .bool w.gone]
theorem wasE : EncOk 3 WasM.c := ⟨fun _ => rfl, fun _ => rfl⟩
abbrev PS := List (ByteArray × List WasM)
/-- What a row was, behind a commit: the last one that is not behind it. -/
def findP (ws : List WasM) (n : UInt32) : UInt32 × Bool := match ws.reverse.find? fun w => decide (w.at_ ≤ n) with
  | some w => (w.val, !w.gone)
  | none => (0, false)
def valW (ws : List WasM) (n : UInt32) : Option UInt32 := if (findP ws n).2 then some (findP ws n).1 else none
def lastW (ws : List WasM) : UInt32 := (ws.getLast?.map (·.at_)).getD 0
/-- One change, at the commit 'n'. -/
def addW1 (ws : List WasM) (n : UInt32) (c : ChgM) : List WasM := (if ws ≠ [] ∧ lastW ws = n then ws.dropLast else ws) ++ [⟨n, c.val, c.gone⟩]
def putS (l : PS) (n : UInt32) (c : ChgM) : PS := setS l c.key (addW1 ((getS l c.key).getD []) n c)
def putsS (l : PS) (n : UInt32) (cs : List ChgM) : PS := cs.foldl (fun l c => putS l n c) l
theorem putsS_snoc (l : PS) (n : UInt32) (cs : List ChgM) (c : ChgM) : putsS l n (cs ++ [c]) = putS (putsS l n cs) n c := by simp [putsS]
/-- The rows behind a commit. -/
def stepP (n : UInt32) (r : List RowM) (p : ByteArray × List WasM) : List RowM := match valW p.2 n with
  | some v => setR r p.1 v
  | none => r
def rowsP (l : PS) (n : UInt32) : List RowM := l.foldl (stepP n) []
/-- Where what is kept begins. -/
def trimI (ws : List WasM) (n : UInt32) : Nat → Nat
  | 0 => 0
  | i + 1 => match ws[i + 1]? with
    | some w => if n < w.at_ then trimI ws n i else i + 1
    | none => 0
def trimW (ws : List WasM) (n : UInt32) : List WasM := ws.drop (trimI ws n (ws.length - 1))
def sinceP (l : PS) (n : UInt32) (s : SpanM) : Bool := l.any fun p => decide (n < lastW p.2) && meet (one p.1) s
instance memB (k : ByteArray) (l : List ByteArray) : Decidable (k ∈ l) := @List.instDecidableMemOfLawfulBEq _ instBEqOfDecidableEq _ k l
/-- A list from its end, each with its place. -/
def bwdK (ws : List WasM) : Nat → List (Nat × WasM)
  | 0 => []
  | k + 1 => (match ws[k]? with | some w => [(k, w)] | none => []) ++ bwdK ws k
theorem bwdK_map (ws : List WasM) : ∀ k, k ≤ ws.length → (bwdK ws k).map (·.2) = (ws.take k).reverse
  | 0, _ => by simp [bwdK]
  | k + 1, h => by
    have hx := List.getElem?_eq_getElem (show k < ws.length by omega)
    rw [bwdK, hx, take_snoc hx, List.map_append, bwdK_map ws k (by omega), List.reverse_append]; rfl
theorem findP_bwd (ws : List WasM) (n : UInt32) : findP ws n = match (bwdK ws ws.length).find? (fun x => decide (x.2.at_ ≤ n)) with
    | some x => (x.2.val, !x.2.gone)
    | none => (0, false) := by
  have h := bwdK_map ws ws.length (Nat.le_refl _)
  rw [List.take_length] at h
  unfold findP
  rw [← h, List.find?_map]
  simp only [Function.comp_def]
  cases (bwdK ws ws.length).find? fun x => decide (x.2.at_ ≤ n) <;> rfl
theorem findP_none {ws : List WasM} {n : UInt32} (h : Hist (fun _ (x : Nat × WasM) => ¬ x.2.at_ ≤ n) (bwdK ws ws.length)) : findP ws n = (0, false) := by
  rw [findP_bwd, List.find?_eq_none.2 (fun x hx => by simpa using hist_all h x hx)]
theorem findP_some {ws : List WasM} {n : UInt32} {pre : List (Nat × WasM)} {x : Nat × WasM} (hp : ∃ r, (pre ++ [x]) ++ r = bwdK ws ws.length) (h : Hist (fun _ (x : Nat × WasM) => ¬ x.2.at_ ≤ n) pre) (hx : ¬ ¬ x.2.at_ ≤ n) : findP ws n = (x.2.val, !x.2.gone) := by
  obtain ⟨r, hr⟩ := hp
  rw [findP_bwd, ← hr, List.append_assoc, List.find?_append, List.find?_eq_none.2 (fun y hy => by simpa using hist_all h y hy)]
  simp only [Classical.not_not] at hx
  simp [hx]
theorem ents_key {E z : Nat} {enc : WasM → List Value} {es : List (EntV ByteArray WasM)} (k : ByteArray) : RL (Ents E z enc es) z enc (svE es k).v (wsE es k) := by
  cases hf : findE es k with
  | none =>
    unfold svE wsE
    rw [hf]
    exact nil_rl
  | some e =>
    have h1 := ents_rl (E := E) (z := z) (enc := enc) (findE_key hf).1
    unfold svE wsE
    rw [hf]; exact h1
theorem of_lt32 {a b : UInt32} (h : decide (a < b) = true) : a < b := of_decide_eq_true h
theorem of_gt32 {a b : UInt32} (h : decide (a < b) = true) : a < b := of_decide_eq_true h
theorem of_ngt32 {a b : UInt32} (h : decide (a < b) = false) : ¬ a < b := of_decide_eq_false h
theorem of_le32 {a b : UInt32} (h : decide ((a.toNat : Int) ≤ (b.toNat : Int)) = true) : a ≤ b := by
  have := of_decide_eq_true h; rw [UInt32.le_iff_toNat_le]; omega
theorem of_nle32 {a b : UInt32} (h : decide ((a.toNat : Int) ≤ (b.toNat : Int)) = false) : ¬ a ≤ b := by
  have := of_decide_eq_false h; rw [UInt32.le_iff_toNat_le]; omega
theorem lastW_at {ws : List WasM} {w : WasM} (h : ws[ws.length - 1]? = some w) : lastW ws = w.at_ := by
  unfold lastW; rw [List.getLast?_eq_getElem?, h]; rfl
theorem since_mid (A B : List (EntV ByteArray WasM)) (y : EntV ByteArray WasM) (n : UInt32) (s : SpanM) : sinceP ((A ++ y :: B).map stE) n s = ((decide (n < lastW y.ws) && meet (one y.key) s) || sinceP ((A ++ B).map stE) n s) := by
  unfold sinceP
  simp only [List.map_append, List.map_cons, List.any_append, List.any_cons, stE]
  cases decide (n < lastW y.ws) && meet (one y.key) s <;> simp
theorem trimI_step {ws : List WasM} {n : UInt32} {j : Nat} {w : WasM} (h : ws[j]? = some w) (h0 : 0 < j) (hw : n < w.at_) : trimI ws n j = trimI ws n (j - 1) := by
  obtain ⟨i, rfl⟩ : ∃ i, j = i + 1 := ⟨j - 1, by omega⟩
  rw [trimI, h]; simp [hw]
theorem trimI_stay {ws : List WasM} {n : UInt32} {j : Nat} {w : WasM} (h : ws[j]? = some w) (h0 : 0 < j) (hw : ¬ n < w.at_) : trimI ws n j = j := by
  obtain ⟨i, rfl⟩ : ∃ i, j = i + 1 := ⟨j - 1, by omega⟩
  rw [trimI, h]; simp [hw]
/-- Some entries are cut. -/
structure TrimI (es : List (EntV ByteArray WasM)) (n : UInt32) (left st : List (EntV ByteArray WasM)) : Prop where
  nl : (left.map (·.key)).Nodup
  sub : ∀ y ∈ left, y ∈ st
  old : ∀ y ∈ left, y ∈ es
  keys : st.map (·.key) = es.map (·.key)
  nodup : (st.map (·.key)).Nodup
  val : st.map stE = es.map fun e => (e.key, if e.key ∈ left.map (·.key) then e.ws else trimW e.ws n)
theorem TrimI.first {es : List (EntV ByteArray WasM)} (h : (es.map (·.key)).Nodup) (n : UInt32) : TrimI es n es es := by
  refine ⟨h, fun _ h => h, fun _ h => h, rfl, h, List.map_congr_left fun e he => ?_⟩
  rw [if_pos (List.mem_map.2 ⟨e, he, rfl⟩)]; rfl
theorem TrimI.done {es st : List (EntV ByteArray WasM)} {n : UInt32} (h : TrimI es n [] st) : st.map stE = (es.map stE).map fun p => (p.1, trimW p.2 n) := by
  rw [h.val, List.map_map]; rfl
theorem TrimI.step {es left st A B : List (EntV ByteArray WasM)} {n : UInt32} {y : EntV ByteArray WasM} (h : TrimI es n left st) (hl : left = A ++ y :: B) {j : Nat} (hj : trimW y.ws n = y.ws.drop j) : TrimI es n (A ++ B) (setE st y.key (subS y.sv j y.ws.length 3) (y.ws.drop j)) := by
  have hy : y ∈ st := h.sub y (by rw [hl]; simp)
  have hfe := findE_mem h.nodup hy
  obtain ⟨A2, B2, h1, _, h3⟩ := delE_keys hfe
  have hnl := h.nl
  rw [hl, List.map_append, List.map_cons] at hnl
  have hno : y.key ∉ (A ++ B).map (·.key) := by
    rw [List.map_append]
    intro hm
    obtain ⟨a1, a2, a3⟩ := List.nodup_append.1 hnl
    rcases List.mem_append.1 hm with hm | hm
    · exact a3 _ hm _ (by simp) rfl
    · exact (List.nodup_cons.1 a2).1 hm
  have hkk : (setE st y.key (subS y.sv j y.ws.length 3) (y.ws.drop j)).map (·.key) = st.map (·.key) := by rw [h3, h1]; simp
  have hsub : ∀ z ∈ A ++ B, z ∈ left ∧ z.key ≠ y.key := fun z hz => ⟨by rw [hl]; simp only [List.mem_append, List.mem_cons] at hz ⊢; rcases hz with h | h; exact .inl h; exact .inr (.inr h), fun e => hno (e ▸ List.mem_map.2 ⟨z, hz, rfl⟩)⟩
  refine ⟨?_, fun z hz => ?_, fun z hz => h.old z (hsub z hz).1, by rw [hkk]; exact h.keys, by rw [hkk]; exact h.nodup, ?_⟩
  · rw [List.map_append]
    obtain ⟨a1, a2, a3⟩ := List.nodup_append.1 hnl
    exact List.nodup_append.2 ⟨a1, (List.nodup_cons.1 a2).2, fun a ha b hb => a3 a ha b (by simp [hb])⟩
  · obtain ⟨k1, k2⟩ := hsub z hz
    have := h.sub z k1
    rw [h1] at this
    rw [h3]
    simp only [List.mem_append, List.mem_cons] at this ⊢
    rcases this with h | rfl | h
    · exact .inl h
    · exact absurd rfl k2
    · exact .inr (.inr h)
  · -- place by place
    have hv := h.val
    apply List.ext_getElem?
    intro i
    have hi := congrArg (·[i]?) hv
    simp only [List.getElem?_map] at hi ⊢
    have hyi : st[A2.length]? = some y := by rw [h1]; simp
    have hset : (setE st y.key (subS y.sv j y.ws.length 3) (y.ws.drop j))[i]? = if i = A2.length then some ⟨y.key, subS y.sv j y.ws.length 3, y.ws.drop j⟩ else st[i]? := by
      rw [h3, h1]
      by_cases e : i = A2.length
      · subst e; simp
      · rw [if_neg e]
        rcases Nat.lt_or_ge i A2.length with hlt | hge
        · rw [List.getElem?_append_left hlt, List.getElem?_append_left hlt]
        · rw [List.getElem?_append_right hge, List.getElem?_append_right hge]
          obtain ⟨q, hq⟩ : ∃ q, i - A2.length = q + 1 := ⟨i - A2.length - 1, by omega⟩
          rw [hq]; simp
    rw [hset]
    by_cases e : i = A2.length
    · subst e
      rw [if_pos rfl]
      rw [hyi] at hi
      cases hE : es[A2.length]? with
      | none => rw [hE] at hi; simp at hi
      | some e0 =>
        rw [hE] at hi
        simp only [Option.map_some, Option.some.injEq, stE, Prod.mk.injEq] at hi ⊢
        obtain ⟨hi1, hi2⟩ := hi
        rw [← hi1] at hi2 ⊢
        rw [if_pos (by rw [hl]; simp)] at hi2
        rw [if_neg hno, ← hi2, hj]
        exact ⟨rfl, rfl⟩
    · rw [if_neg e]
      rw [hi]
      cases hE : es[i]? with
      | none => rfl
      | some e0 =>
        simp only [Option.map_some, Option.some.injEq, Prod.mk.injEq, true_and]
        have hne : e0.key ≠ y.key := fun ek => by
          have hlt := idx_lt hE
          have k1 : (es.map (·.key))[i]? = some y.key := by rw [List.getElem?_map, hE]; simp [ek]
          have k2 : (es.map (·.key))[A2.length]? = some y.key := by rw [← h.keys, List.getElem?_map, hyi]; rfl
          have hnd : (es.map (·.key)).Nodup := h.keys ▸ h.nodup
          exact e ((List.getElem?_inj (i := i) (by simpa using hlt) hnd).1 (k1.trans k2.symm))
        have hiff : e0.key ∈ left.map (·.key) ↔ e0.key ∈ (A ++ B).map (·.key) := by
          rw [hl]
          simp only [List.map_append, List.map_cons, List.mem_append, List.mem_cons]
          constructor
          · rintro (h | h | h)
            · exact .inl h
            · exact absurd h hne
            · exact .inr h
          · rintro (h | h)
            · exact .inl h
            · exact .inr (.inr h)
        simp only [hiff]
theorem chg_key {c : ChgM} (h : chgOk c = true) : keyOk c.key = true := by unfold chgOk at h; simp at h; exact h.1
theorem chg_gone {c : ChgM} (h : chgOk c = true) (g : c.gone = true) : c.val = 0 := by unfold chgOk at h; simp [g] at h; exact h.2
section
variable {P : Program} {g : World} {Γ : Env} {L M : List HP} {dst : Option Tmp} {t : TypeId} {pos : String} {aft : Array Edge} {gd : Option (Nat × Bool)}
theorem em_lookE {A : HP} {m : Value} {d : TypeDesc} {kt : TypeId} {es : List (EntV ByteArray WasM)} {x i : Operand} {T e : TypeId} {k : ByteArray} (ht : P.underlying T = some (.map kt e)) (hk : KeyOk P kt d eStr) (hz : (P.info? e).bind (·.zero) = some (.slice none 0 0)) (hA : RdM A eStr m (es.map kvE)) (hx : ev Γ x = some m := by rfl) (hi : ev Γ i = some (.string k) := by rfl) (hp : Pick L A M := by repeat first | exact .z | apply Pick.s) :
    EO P g ⟨dst, .lookup T x i false, t, pos, aft, gd⟩ Γ L (svE es k).v := mget_svE es k ▸ em_lookup ht hk hz hA hx hi hp
end
end Go.SL
