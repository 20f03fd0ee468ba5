/- VN VS: rules and walks, several texts in one. -/
import Derived.Test.YtdpmpcoekkhceaaGreatQG16
import Derived.Test.YtdpmpcoekkhceaaGreatProg
import Derived.KernelRfl
set_option linter.unusedSimpArgs false
set_option linter.unusedVariables false
namespace Go.SL.VN
open Go Go.Proofs Go.SL
theorem a22 : aggOf Tryz.prog 22 = some none := by kernel_rfl
theorem a299 : aggOf Tryz.prog 299 = some none := by kernel_rfl
theorem k142 : callable Tryz.prog 142 = true := by kernel_rfl
theorem k162 : callable Tryz.prog 162 = true := by kernel_rfl
theorem k178 : callable Tryz.prog 178 = true := by kernel_rfl
theorem k189 : callable Tryz.prog 189 = true := by kernel_rfl
theorem k190 : callable Tryz.prog 190 = true := by kernel_rfl
theorem k191 : callable Tryz.prog 191 = true := by kernel_rfl
theorem k192 : callable Tryz.prog 192 = true := by kernel_rfl
theorem k193 : callable Tryz.prog 193 = true := by kernel_rfl
theorem k194 : callable Tryz.prog 194 = true := by kernel_rfl
theorem k195 : callable Tryz.prog 195 = true := by kernel_rfl
theorem k196 : callable Tryz.prog 196 = true := by kernel_rfl
theorem k197 : callable Tryz.prog 197 = true := by kernel_rfl
theorem k200 : callable Tryz.prog 200 = true := by kernel_rfl
theorem k201 : callable Tryz.prog 201 = true := by kernel_rfl
theorem mixedOk : Tryz.prog.follows .mixedOrders = true := by kernel_rfl
theorem s22 : szOf Tryz.prog 22 = some 1 := by kernel_rfl
theorem s299 : szOf Tryz.prog 299 = some 1 := by kernel_rfl
theorem sl82 : slOf Tryz.prog 82 = some (22, 1, 4) := by kernel_rfl
theorem z299 : zeroOf Tryz.prog 299 = some [.int .u64 0] := by kernel_rfl
end Go.SL.VN
namespace Go.SL
open Go Go.Proofs VN
open Go.Sort
theorem L64_spec {g : World} (x : Nat) (hx : x < 18446744073709551616) : Spec Tryz.prog g 178 [.int .u64 x] [] fun K R => K (.int .i64 (bitsLen x : Nat)) R := by
  refine Spec.intro Tryz.func178 rfl Tryz.ntmps178 rfl fun R K hK => ?_
  have hb : bitsLen x = 0 + bitsLen x := by omega
  have hl := hx
  have hn := hx
  refine WP.seq ?_
  refine WP.reg ?_
  refine WL.e e_assign ?_
  refine WL.next ?_
  refine WP.cutR (fun (z : Nat × Nat) => [(0, .int .u64 z.1), (2, .int .i64 z.2)]) (fun (z : Nat × Nat) => R) [] (fun (z : Nat × Nat) => bitsLen x = z.2 + bitsLen z.1 ∧ z.1 < 4294967296 ∧ z.2 ≤ 32) ?_ ?_
  · skip
    refine WP.seq ?_
    refine WP.reg ?_
    refine WL.e e_move <| WL.e e_geq ?_
    refine WL.next ?_
    refine WP.cond rfl (fun h1 => ?_) (fun h1 => ?_)
    · replace h1 : 4294967296 ≤ x := by rw [decide_eq_true_eq] at h1; omega
      refine WP.seq ?_
      refine WP.reg ?_
      refine WL.e e_move <| WL.e (e_shr (c := ((x / 4294967296 : Nat) : Int)) rfl rfl (by decide) (by decide) (by simp)) <| WL.e e_assign ?_
      refine WL.next ?_
      refine WP.reg ?_
      refine WL.e e_assign ?_
      refine WL.nil ?_
      exact PO.meetK (x / 4294967296, 32) ⟨by simp only; rw [hb, bitsLen_shr 32 x h1]; rw [show (2 : Nat) ^ 32 = 4294967296 from rfl]; omega, by simp only; omega, by simp only; omega⟩
    · replace h1 : ¬ (4294967296 ≤ x) := by rw [decide_eq_false_iff_not] at h1; omega
      refine WP.skip ?_
      exact PO.meetK (x, 0) ⟨hb, by simp only; omega, by simp only; omega⟩
  · clear hb hl hn
    rintro ⟨x1, n1⟩ ⟨hb, hl, hn⟩
    simp only at hb hl hn
    dsimp only
    refine WP.cutR (fun (z : Nat × Nat) => [(0, .int .u64 z.1), (2, .int .i64 z.2)]) (fun (z : Nat × Nat) => R) [] (fun (z : Nat × Nat) => bitsLen x = z.2 + bitsLen z.1 ∧ z.1 < 65536 ∧ z.2 ≤ 48) ?_ ?_
    · skip
      refine WP.seq ?_
      refine WP.reg ?_
      refine WL.e e_move <| WL.e e_geq ?_
      refine WL.next ?_
      refine WP.cond rfl (fun h1 => ?_) (fun h1 => ?_)
      · replace h1 : 65536 ≤ x1 := by rw [decide_eq_true_eq] at h1; omega
        refine WP.seq ?_
        refine WP.reg ?_
        refine WL.e e_move <| WL.e (e_shr (c := ((x1 / 65536 : Nat) : Int)) rfl rfl (by decide) (by decide) (by simp)) <| WL.e e_assign ?_
        refine WL.next ?_
        refine WP.reg ?_
        refine WL.e e_move <| WL.e (e_addN (b := 16)) <| WL.e e_assign ?_
        refine WL.nil ?_
        exact PO.meetK (x1 / 65536, n1 + 16) ⟨by simp only; rw [hb, bitsLen_shr 16 x1 h1]; rw [show (2 : Nat) ^ 16 = 65536 from rfl]; omega, by simp only; omega, by simp only; omega⟩
      · replace h1 : ¬ (65536 ≤ x1) := by rw [decide_eq_false_iff_not] at h1; omega
        refine WP.skip ?_
        exact PO.meetK (x1, n1) ⟨hb, by simp only; omega, by simp only; omega⟩
    · clear hb hl hn
      rintro ⟨x2, n2⟩ ⟨hb, hl, hn⟩
      simp only at hb hl hn
      dsimp only
      refine WP.cutR (fun (z : Nat × Nat) => [(0, .int .u64 z.1), (2, .int .i64 z.2)]) (fun (z : Nat × Nat) => R) [] (fun (z : Nat × Nat) => bitsLen x = z.2 + bitsLen z.1 ∧ z.1 < 256 ∧ z.2 ≤ 56) ?_ ?_
      · skip
        refine WP.seq ?_
        refine WP.reg ?_
        refine WL.e e_move <| WL.e e_geq ?_
        refine WL.next ?_
        refine WP.cond rfl (fun h1 => ?_) (fun h1 => ?_)
        · replace h1 : 256 ≤ x2 := by rw [decide_eq_true_eq] at h1; omega
          refine WP.seq ?_
          refine WP.reg ?_
          refine WL.e e_move <| WL.e (e_shr (c := ((x2 / 256 : Nat) : Int)) rfl rfl (by decide) (by decide) (by simp)) <| WL.e e_assign ?_
          refine WL.next ?_
          refine WP.reg ?_
          refine WL.e e_move <| WL.e (e_addN (b := 8)) <| WL.e e_assign ?_
          refine WL.nil ?_
          exact PO.meetK (x2 / 256, n2 + 8) ⟨by simp only; rw [hb, bitsLen_shr 8 x2 h1]; rw [show (2 : Nat) ^ 8 = 256 from rfl]; omega, by simp only; omega, by simp only; omega⟩
        · replace h1 : ¬ (256 ≤ x2) := by rw [decide_eq_false_iff_not] at h1; omega
          refine WP.skip ?_
          exact PO.meetK (x2, n2) ⟨hb, by simp only; omega, by simp only; omega⟩
      · clear hb hl hn
        rintro ⟨x3, n3⟩ ⟨hb, hl, hn⟩
        simp only at hb hl hn
        dsimp only
        refine WP.seq ?_
        refine WP.reg ?_
        refine WL.e e_move <| WL.e e_move <| WL.e (e_conv (c := ((x3 : Nat) : Int)) (by rw [Tryz.underlying56]; rfl) Tryz.underlying5 rfl (by rw [wu8, UInt8.toNat_ofNat']; congr 1; omega)) ?_
        refine WL.e (e_idxS (n := x3) (b := UInt8.ofNat (bitsLen x3)) Tryz.underlying9 (hb := tab_all _ (by kernel_rfl) hl)) <| WL.e (e_conv (c := ((bitsLen x3 : Nat) : Int)) (by rw [Tryz.underlying5]; rfl) Tryz.underlying3 rfl (by have h9 : bitsLen x3 ≤ 8 := bitsLen_lt (k := 8) hl; rw [UInt8.toNat_ofNat', Nat.mod_eq_of_lt (by omega)]; exact w_i64 (by omega) (by omega))) <| WL.e (e_addN (h := by have h9 : bitsLen x3 ≤ 8 := bitsLen_lt (k := 8) hl; omega)) <| WL.e e_assign ?_
        refine WL.next ?_
        refine WP.ret ?_
        rw [show bitsLen x = n3 + bitsLen x3 from hb] at hK
        exact PO.fin Tryz.results178 (rv_tmp rv_nil) hK
theorem L_spec {g : World} (x : Nat) (hx : x < 18446744073709551616) : Spec Tryz.prog g 142 [.int .u64 x] [] fun K R => K (.int .i64 (bitsLen x : Nat)) R := by
  refine Spec.intro Tryz.func142 rfl Tryz.ntmps142 rfl fun R K hK => ?_
  refine WP.seq ?_
  refine WP.reg ?_
  refine WL.e e_assign ?_
  refine WL.next ?_
  refine WP.seq ?_
  refine WP.cond_f rfl ?_
  refine WP.skip ?_
  refine PO.next ?_
  refine WP.seq ?_
  refine WP.reg ?_
  refine WL.e e_move ?_
  refine WL.h (h_call (L64_spec x hx) k178 ?_)
  refine WL.e e_assign ?_
  refine WL.next ?_
  refine WP.ret ?_
  exact PO.fin Tryz.results142 (rv_tmp rv_nil) hK
theorem NP2_spec {g : World} (x : Nat) (hx : x ≤ 68719476736) : Spec Tryz.prog g 200 [.int .i64 x] [] fun K R => K (.int .u64 ((2 ^ bitsLen x : Nat) : Int)) R := by
  refine Spec.intro Tryz.func200 rfl Tryz.ntmps200 rfl fun R K hK => ?_
  refine WP.seq ?_
  refine WP.reg ?_
  refine WL.e e_assign ?_
  refine WL.next ?_
  refine WP.seq ?_
  refine WP.reg ?_
  refine WL.e e_move <| WL.e (e_conv (c := ((x : Nat) : Int)) (by rw [Tryz.underlying3]; rfl) Tryz.underlying238 rfl (by rw [wu64, UInt64.toNat_ofNat']; congr 1; omega)) ?_
  refine WL.h (h_call (L_spec x (by omega)) k142 ?_)
  refine WL.e (e_shl (c := ((2 ^ bitsLen x : Nat) : Int)) rfl rfl (by omega) (by have h9 : bitsLen x ≤ 37 := bitsLen_lt (k := 37) (by omega); simp only [IntKind.bits]; omega) (by have h9 : bitsLen x ≤ 37 := bitsLen_lt (k := 37) (by omega); have h10 : 2 ^ bitsLen x ≤ 2 ^ 37 := Nat.pow_le_pow_right (by decide) h9; rw [Int.one_mul, Int.toNat_natCast, show ((2 : Int) ^ bitsLen x) = ((2 ^ bitsLen x : Nat) : Int) by simp, wu64, UInt64.toNat_ofNat', Nat.mod_eq_of_lt (by omega)])) <| WL.e e_assign ?_
  refine WL.next ?_
  refine WP.ret ?_
  exact PO.fin Tryz.results200 (rv_tmp rv_nil) hK
theorem Xor_spec {g : World} {q : Nat} (r : UInt64) : Spec Tryz.prog g 201 [.pointer (some ⟨q, 0, none⟩)] [cl q 299 [.int .u64 (r).toNat]] fun K R => K (.int .u64 (xorNext r).toNat) (cl q 299 [.int .u64 (xorNext r).toNat] :: R) := by
  refine Spec.intro Tryz.func201 rfl Tryz.ntmps201 rfl fun R K hK => ?_
  refine WP.seq ?_
  refine WP.reg ?_
  refine WL.e e_assign ?_
  refine WL.next ?_
  refine WP.seq ?_
  refine WP.draws mixedOk 10 ?_
  refine RW.e 0 rfl e_move <| RW.e 1 rfl e_nil <| RW.e 2 rfl (e_load a299) <| RW.e 3 rfl e_move <| RW.e 4 rfl e_nil <| RW.e 5 rfl (e_load a299) <| RW.e 6 rfl (e_shl64 (m := 13) (by decide)) <| RW.e 7 rfl e_xor64 <| RW.e 8 rfl e_nil ?_
  refine RW.any (is := [9]) rfl ⟨?_, trivial⟩
  refine RWat.h' rfl rfl rfl ?_
  refine (h_store s299 ?_)
  refine ⟨trivial, ?_⟩
  refine RW.done ?_
  refine PO.next ?_
  refine WP.seq ?_
  refine WP.draws mixedOk 10 ?_
  refine RW.e 0 rfl e_move <| RW.e 1 rfl e_nil <| RW.e 2 rfl (e_load a299) <| RW.e 3 rfl e_move <| RW.e 4 rfl e_nil <| RW.e 5 rfl (e_load a299) <| RW.e 6 rfl (e_shr64 (m := 7) (by decide)) <| RW.e 7 rfl e_xor64 <| RW.e 8 rfl e_nil ?_
  refine RW.any (is := [9]) rfl ⟨?_, trivial⟩
  refine RWat.h' rfl rfl rfl ?_
  refine (h_store s299 ?_)
  refine ⟨trivial, ?_⟩
  refine RW.done ?_
  refine PO.next ?_
  refine WP.seq ?_
  refine WP.draws mixedOk 10 ?_
  refine RW.e 0 rfl e_move <| RW.e 1 rfl e_nil <| RW.e 2 rfl (e_load a299) <| RW.e 3 rfl e_move <| RW.e 4 rfl e_nil <| RW.e 5 rfl (e_load a299) <| RW.e 6 rfl (e_shl64 (m := 17) (by decide)) <| RW.e 7 rfl e_xor64 <| RW.e 8 rfl e_nil ?_
  refine RW.any (is := [9]) rfl ⟨?_, trivial⟩
  refine RWat.h' rfl rfl rfl ?_
  refine (h_store s299 ?_)
  refine ⟨trivial, ?_⟩
  refine RW.done ?_
  refine PO.next ?_
  refine WP.seq ?_
  refine WP.reg ?_
  refine WL.e e_move <| WL.e e_nil <| WL.e (e_load a299) <| WL.e e_assign ?_
  refine WL.next ?_
  refine WP.ret ?_
  exact PO.fin Tryz.results201 (rv_tmp rv_nil) hK
set_option maxHeartbeats 2000000 in
theorem Brk32_spec {g : World} {u : Value} (d : Array UInt32) (a b : Nat) (hab : a < b) (hb : b ≤ d.size) (hn : d.size ≤ 68719476736) : Spec Tryz.prog g 191 [u, .int .i64 a, .int .i64 b] [Sl 22 1 u32C u (d).toList] fun K R => K (.tuple #[]) (Sl 22 1 u32C u (breakPatterns d a b).toList :: R) := by
  refine Spec.intro Tryz.func191 rfl Tryz.ntmps191 rfl fun R K hK => ?_
  refine WP.seq ?_
  refine WP.reg ?_
  refine WL.e e_move <| WL.e e_move <| WL.e (e_subN) <| WL.e e_assign ?_
  refine WL.next ?_
  refine WP.seq ?_
  refine WP.reg ?_
  refine WL.e e_move <| WL.e e_geq ?_
  refine WL.next ?_
  refine WP.cond rfl (fun h1 => ?_) (fun h1 => ?_)
  · replace h1 : b - a ≥ 8 := by rw [decide_eq_true_eq] at h1; omega
    have hp := bitsLen_pow (x := b - a) (by omega)
    refine WP.seq ?_
    refine WP.reg ?_
    refine WL.e e_move <| WL.e (e_conv (c := ((UInt64.ofNat (b - a)).toNat : Int)) (by rw [Tryz.underlying3]; rfl) Tryz.underlying299 rfl (wu64 _)) ?_
    refine WL.h (h_alloc z299 fun b1 => ?_)
    refine WL.h' (h_store s299 ?_)
    refine WL.next ?_
    refine WP.seq ?_
    refine WP.reg ?_
    refine WL.e e_move ?_
    refine WL.h (h_call (NP2_spec (b - a) (by omega)) k200 ?_)
    refine WL.e e_assign ?_
    refine WL.next ?_
    refine WP.seq ?_
    refine WP.reg ?_
    refine WL.e e_move <| WL.e e_move <| WL.e (e_quoN (b := 4)) <| WL.e (e_mulN (b := 2)) <| WL.e (e_addN) <| WL.e (e_subN (b := 1)) <| WL.e e_assign ?_
    refine WL.next ?_
    refine WP.block ?_
    refine WP.loopK (fun (x : Nat × UInt64 × Array UInt32) => [(9, .int .i64 (((a + (b - a) / 4 * 2 - 1) + x.1 : Nat) : Int))]) (fun (x : Nat × UInt64 × Array UInt32) => Sl 22 1 u32C u (x.2.2).toList :: cl b1 299 [.int .u64 x.2.1.toNat] :: R) [(0, _), (1, _), (6, _), (7, _), (8, _)] (fun (x : Nat × UInt64 × Array UInt32) => x.2.2.size = d.size ∧ x.1 ≤ 3 ∧ x.2 = brk a (b - a) (2 ^ bitsLen (b - a)) (UInt64.ofNat (b - a), d) (a + (b - a) / 4 * 2 - 1) x.1) (fun (x : Nat × UInt64 × Array UInt32) => 3 - x.1) (0, UInt64.ofNat (b - a), d) (⟨rfl, Nat.zero_le _, rfl⟩) ?_
    rintro ⟨k, s1, d1⟩ ⟨hs1, hk, he⟩
    simp only at hs1 hk he
    dsimp only
    refine WP.seq ?_
    refine WP.seq ?_
    refine WP.reg ?_
    refine WL.e e_move <| WL.e e_move <| WL.e e_move <| WL.e (e_quoN (b := 4)) <| WL.e (e_mulN (b := 2)) <| WL.e (e_addN) <| WL.e (e_addN (b := 1)) <| WL.e e_leq ?_
    refine WL.next ?_
    refine WP.cond rfl (fun h2 => ?_) (fun h2 => ?_)
    · replace h2 : k < 3 := by rw [decide_eq_true_eq] at h2; omega
      refine WP.skip ?_
      refine PO.next ?_
      refine WP.seq ?_
      refine WP.block ?_
      refine WP.seq ?_
      refine WP.reg ?_
      refine WL.h (h_call (Xor_spec s1) k201 ?_)
      obtain ⟨ot, hot⟩ : ∃ o, (xorNext s1).toNat &&& ((2 ^ bitsLen (b - a)) - 1) = o := ⟨_, rfl⟩
      have hol : ot ≤ (2 ^ bitsLen (b - a)) - 1 := by rw [← hot]; exact Nat.and_le_right
      refine WL.e e_move <| WL.e (e_sub (c := (((2 ^ bitsLen (b - a)) - 1 : Nat) : Int)) rfl rfl (by have h0 : 0 < (2 ^ bitsLen (b - a)) := Nat.two_pow_pos _; rw [show (((2 ^ bitsLen (b - a)) : Nat) : Int) - 1 = (((2 ^ bitsLen (b - a)) - 1 : Nat) : Int) by omega, wu64, UInt64.toNat_ofNat', Nat.mod_eq_of_lt (by omega)])) <| WL.e (e_and64 (m := (2 ^ bitsLen (b - a)) - 1) (by omega)) <| WL.e (e_conv (c := ((ot : Nat) : Int)) (by rw [Tryz.underlying238]; rfl) Tryz.underlying3 rfl (by rw [hot]; exact w_i64 (by omega) (by omega))) <| WL.e e_assign ?_
      refine WL.next ?_
      refine WP.seq ?_
      refine WP.seq ?_
      refine WP.reg ?_
      refine WL.e e_move <| WL.e e_move <| WL.e e_geq ?_
      refine WL.next ?_
      refine WP.cond rfl (fun h3 => ?_) (fun h3 => ?_)
      · replace h3 : ot ≥ b - a := by rw [decide_eq_true_eq] at h3; omega
        refine WP.reg ?_
        refine WL.e e_move <| WL.e e_move <| WL.e (e_subN) <| WL.e e_assign ?_
        refine WL.next ?_
        refine WP.draws mixedOk 20 ?_
        refine RW.e 0 rfl e_move <| RW.e 1 rfl e_move <| RW.e 2 rfl e_move <| RW.e 3 rfl e_move <| RW.e 4 rfl e_move <| RW.e 5 rfl (e_addN) <| RW.e 6 rfl e_move <| RW.e 7 rfl e_move <| RW.e 8 rfl e_move <| RW.e 9 rfl (e_addN) <| RW.e 10 rfl (ea_ia sl82) <| RW.e 11 rfl (ea_load a22) ?_
        refine RW.e 12 rfl e_move <| RW.e 13 rfl e_move <| RW.e 14 rfl (ea_ia sl82) <| RW.e 15 rfl (ea_load a22) <| RW.e 16 rfl (ea_ia sl82) ?_
        refine RW.any (is := [17]) rfl ⟨?_, trivial⟩
        refine RWat.h' rfl rfl rfl ?_
        refine (ha_store s22 ?_)
        refine ⟨⟨⟨_, rfl, .inl ⟨rfl, (e_addN)⟩⟩, ⟨_, rfl, .inl ⟨rfl, e_move⟩⟩, ⟨_, rfl, .inl ⟨rfl, e_move⟩⟩, ⟨_, rfl, .inl ⟨rfl, e_move⟩⟩, trivial⟩, ?_⟩
        refine RW.e 18 rfl (ea_ia sl82) ?_
        refine RW.any (is := [19]) rfl ⟨?_, trivial⟩
        refine RWat.h' rfl rfl rfl ?_
        refine (ha_store s22 ?_)
        refine ⟨trivial, ?_⟩
        refine RW.done ?_
        refine PO.blockN ?_
        refine PO.next ?_
        refine WP.reg ?_
        refine WL.e e_move <| WL.e (e_addN (a := (a + (b - a) / 4 * 2 - 1) + k) (b := 1)) <| WL.e e_assign ?_
        refine WL.nil ?_
        exact PO.againK (k + 1, xorNext s1, swp d1 ((a + (b - a) / 4 * 2 - 1) + k) (a + (ot - (b - a)))) ⟨by simp only [swp_size]; omega, by simp only; omega, by simp only; show _ = breakStep _ _ _ (brk a (b - a) (2 ^ bitsLen (b - a)) (UInt64.ofNat (b - a), d) (a + (b - a) / 4 * 2 - 1) k) _; rw [← he]; simp only [breakStep]; rw [show (xorNext s1).toNat &&& ((2 ^ bitsLen (b - a)) - 1) = ot from hot, if_pos h3]⟩ (by simp only; omega)
      · replace h3 : ¬ (ot ≥ b - a) := by rw [decide_eq_false_iff_not] at h3; omega
        refine WP.skip ?_
        refine PO.next ?_
        refine WP.draws mixedOk 20 ?_
        refine RW.e 0 rfl e_move <| RW.e 1 rfl e_move <| RW.e 2 rfl e_move <| RW.e 3 rfl e_move <| RW.e 4 rfl e_move <| RW.e 5 rfl (e_addN) <| RW.e 6 rfl e_move <| RW.e 7 rfl e_move <| RW.e 8 rfl e_move <| RW.e 9 rfl (e_addN) <| RW.e 10 rfl (ea_ia sl82) <| RW.e 11 rfl (ea_load a22) ?_
        refine RW.e 12 rfl e_move <| RW.e 13 rfl e_move <| RW.e 14 rfl (ea_ia sl82) <| RW.e 15 rfl (ea_load a22) <| RW.e 16 rfl (ea_ia sl82) ?_
        refine RW.any (is := [17]) rfl ⟨?_, trivial⟩
        refine RWat.h' rfl rfl rfl ?_
        refine (ha_store s22 ?_)
        refine ⟨⟨⟨_, rfl, .inl ⟨rfl, (e_addN)⟩⟩, ⟨_, rfl, .inl ⟨rfl, e_move⟩⟩, ⟨_, rfl, .inl ⟨rfl, e_move⟩⟩, ⟨_, rfl, .inl ⟨rfl, e_move⟩⟩, trivial⟩, ?_⟩
        refine RW.e 18 rfl (ea_ia sl82) ?_
        refine RW.any (is := [19]) rfl ⟨?_, trivial⟩
        refine RWat.h' rfl rfl rfl ?_
        refine (ha_store s22 ?_)
        refine ⟨trivial, ?_⟩
        refine RW.done ?_
        refine PO.blockN ?_
        refine PO.next ?_
        refine WP.reg ?_
        refine WL.e e_move <| WL.e (e_addN (b := 1)) <| WL.e e_assign ?_
        refine WL.nil ?_
        exact PO.againK (k + 1, xorNext s1, swp d1 ((a + (b - a) / 4 * 2 - 1) + k) (a + (ot))) ⟨by simp only [swp_size]; omega, by simp only; omega, by simp only; show _ = breakStep _ _ _ (brk a (b - a) (2 ^ bitsLen (b - a)) (UInt64.ofNat (b - a), d) (a + (b - a) / 4 * 2 - 1) k) _; rw [← he]; simp only [breakStep]; rw [show (xorNext s1).toNat &&& ((2 ^ bitsLen (b - a)) - 1) = ot from hot, if_neg h3]⟩ (by simp only; omega)
    · obtain rfl : k = 3 := by rw [decide_eq_false_iff_not] at h2; omega
      rw [brk_eq h1, ← he] at hK
      refine WP.exit ?_
      refine PO.past nofun ?_
      refine PO.round nofun ?_
      refine PO.blockX ?_
      exact PO.fin Tryz.results191 rv_nil hK
  · replace h1 : ¬ b - a ≥ 8 := by rw [decide_eq_false_iff_not] at h1; omega
    rw [brk_no h1] at hK
    refine WP.skip ?_
    exact PO.fin Tryz.results191 rv_nil hK
set_option maxHeartbeats 4000000 in
theorem Pdq32r_spec {g : World} {u : Value} (m : Nat) : ∀ (d : Array UInt32) (a b limit : Nat), b - a ≤ m → a ≤ b → b ≤ d.size → d.size ≤ 68719476736 → limit ≤ 1000 → Below lt32 a b d → Spec Tryz.prog g 162 [u, .int .i64 a, .int .i64 b, .int .i64 limit] [Sl 22 1 u32C u (d).toList] fun K R => ∀ d', PermIn a b d d' → SortedIn lt32 a b d' → K (.tuple #[]) (Sl 22 1 u32C u (d').toList :: R) := by
  refine Nat.strongRecOn m (fun m ih => ?_)
  intro d a b limit hm hab hb hn hlim hbel
  refine Spec.intro Tryz.func162 rfl Tryz.ntmps162 rfl fun R K hK => ?_
  refine WP.seq ?_
  refine WP.reg ?_
  refine WL.e e_assign ?_
  refine WL.next ?_
  refine WP.seq ?_
  refine WP.reg ?_
  refine WL.e e_assign ?_
  refine WL.next ?_
  refine WP.block ?_
  refine WP.loopK (fun (x : Nat × Nat × Nat × Bool × Bool × Array UInt32) => [(1, .int .i64 x.1), (2, .int .i64 x.2.1), (3, .int .i64 x.2.2.1), (8, .bool x.2.2.2.1), (9, .bool x.2.2.2.2.1)]) (fun (x : Nat × Nat × Nat × Bool × Bool × Array UInt32) => Sl 22 1 u32C u (x.2.2.2.2.2).toList :: R) [(0, _)] (fun (x : Nat × Nat × Nat × Bool × Bool × Array UInt32) => x.1 ≤ x.2.1 ∧ x.2.1 ≤ d.size ∧ x.2.2.2.2.2.size = d.size ∧ x.2.2.1 ≤ limit ∧ x.2.1 - x.1 ≤ m ∧ Below lt32 x.1 x.2.1 x.2.2.2.2.2 ∧ ∀ R', PermIn x.1 x.2.1 x.2.2.2.2.2 R' → SortedIn lt32 x.1 x.2.1 R' → PermIn a b d R' ∧ SortedIn lt32 a b R') (fun (x : Nat × Nat × Nat × Bool × Bool × Array UInt32) => x.2.1 - x.1) (a, b, limit, true, true, d) (⟨hab, hb, rfl, Nat.le_refl _, hm, hbel, fun R h1 h2 => ⟨h1, h2⟩⟩) ?_
  rintro ⟨a1, b1, l1, wb, wp, d1⟩ ⟨hab1, hb1, hs1, hl1, hm1, hbe1, hC⟩
  simp only at hab1 hb1 hs1 hl1 hm1 hbe1 hC
  dsimp only
  refine WP.block ?_
  refine WP.seq ?_
  refine WP.reg ?_
  refine WL.e e_move <| WL.e e_move <| WL.e (e_subN) <| WL.e e_assign ?_
  refine WL.next ?_
  refine WP.seq ?_
  refine WP.seq ?_
  refine WP.reg ?_
  refine WL.e e_move <| WL.e e_leq ?_
  refine WL.next ?_
  refine WP.cond rfl (fun h1 => ?_) (fun h1 => ?_)
  · replace h1 : b1 - a1 ≤ 12 := by rw [decide_eq_true_eq] at h1; omega
    refine WP.seq ?_
    refine WP.reg ?_
    refine WL.e e_move <| WL.e e_move <| WL.e e_move ?_
    refine WL.h (h_call (Ins32_spec d1 a1 b1 (by omega) (by omega) (by omega)) k189 ?_)
    obtain ⟨k1, k2⟩ := insertionSort_holds swo32 d1 a1 b1 hab1 (by omega)
    refine WL.next ?_
    refine WP.ret ?_
    refine PO.past nofun ?_
    refine PO.blockR ?_
    refine PO.round nofun ?_
    refine PO.blockR ?_
    exact PO.fin Tryz.results162 rv_nil (hK _ (hC _ k1 k2).1 (hC _ k1 k2).2)
  · replace h1 : ¬ (b1 - a1 ≤ 12) := by rw [decide_eq_false_iff_not] at h1; omega
    refine WP.skip ?_
    refine PO.next ?_
    refine WP.seq ?_
    refine WP.seq ?_
    refine WP.reg ?_
    refine WL.e e_move <| WL.e e_eql ?_
    refine WL.next ?_
    refine WP.cond rfl (fun h2 => ?_) (fun h2 => ?_)
    · skip
      refine WP.seq ?_
      refine WP.reg ?_
      refine WL.e e_move <| WL.e e_move <| WL.e e_move ?_
      refine WL.h (h_call (Heap32_spec d1 a1 b1 (by omega) (by omega) (by omega)) k190 ?_)
      obtain ⟨k1, k2⟩ := heapSort_holds swo32 d1 a1 b1 hab1 (by omega)
      refine WL.next ?_
      refine WP.ret ?_
      refine PO.past nofun ?_
      refine PO.blockR ?_
      refine PO.round nofun ?_
      refine PO.blockR ?_
      exact PO.fin Tryz.results162 rv_nil (hK _ (hC _ k1 k2).1 (hC _ k1 k2).2)
    · skip
      refine WP.skip ?_
      refine PO.next ?_
      refine WP.cutR (fun (z : Nat × Array UInt32) => [(3, .int .i64 z.1)]) (fun (z : Nat × Array UInt32) => Sl 22 1 u32C u (z.2).toList :: R) [(0, _), (1, _), (2, _), (8, _), (9, _), (10, _), (19, _), (20, _), (21, _), (22, _), (23, _), (28, _), (29, _)] (fun (z : Nat × Array UInt32) => z.1 ≤ limit ∧ PermIn a1 b1 d1 z.2) ?_ ?_
      · skip
        refine WP.seq ?_
        refine WP.reg ?_
        refine WL.e e_move <| WL.e e_not ?_
        refine WL.next ?_
        refine WP.cond rfl (fun h3 => ?_) (fun h3 => ?_)
        · replace h2 : ¬ l1 = 0 := fun h => by rw [h] at h2; exact absurd h2 (by decide)
          refine WP.seq ?_
          refine WP.reg ?_
          refine WL.e e_move <| WL.e e_move <| WL.e e_move ?_
          refine WL.h (h_call (Brk32_spec d1 a1 b1 (by omega) (by omega) (by omega)) k191 ?_)
          refine WL.next ?_
          refine WP.reg ?_
          refine WL.e e_move <| WL.e (e_subN (b := 1)) <| WL.e e_assign ?_
          refine WL.nil ?_
          exact PO.meetK (l1 - 1, breakPatterns d1 a1 b1) ⟨by simp only; omega, breakPatterns_holds d1 a1 b1 hab1 (by omega)⟩
        · skip
          refine WP.skip ?_
          exact PO.meetK (l1, d1) ⟨hl1, permIn_refl _ _ _⟩
      · rintro ⟨l2, d2⟩ ⟨hl2, p12⟩
        simp only at hl2 p12
        dsimp only
        have hs2 : d2.size = d1.size := p12.1
        refine WP.seq ?_
        refine WP.reg ?_
        refine WL.e e_move <| WL.e e_move <| WL.e e_move ?_
        refine WL.h (h_call (Piv32_spec d2 a1 b1 (by omega) (by omega) (by omega)) k192 ?_)
        obtain ⟨hv1, hv2⟩ := choosePivot_holds lt32 d2 a1 b1 (by omega)
        generalize (choosePivot lt32 d2 a1 b1).1 = p at hv1 hv2 ⊢
        generalize hv (choosePivot lt32 d2 a1 b1).2 = hn1
        refine WL.e e_move <| WL.e e_extract <| WL.e e_extract <| WL.e e_assign <| WL.e e_assign ?_
        refine WL.next ?_
        refine WP.cutR (fun (z : Nat × Nat × Array UInt32) => [(11, .int .i64 z.1), (12, .int .i64 z.2.1)]) (fun (z : Nat × Nat × Array UInt32) => Sl 22 1 u32C u (z.2.2).toList :: R) [(0, _), (1, _), (2, _), (3, _), (8, _), (9, _), (10, _), (19, _), (20, _), (21, _), (22, _), (23, _), (28, _), (29, _), (42, _), (43, _), (44, _), (45, _), (46, _), (47, _), (48, _)] (fun (z : Nat × Nat × Array UInt32) => a1 ≤ z.1 ∧ z.1 < b1 ∧ PermIn a1 b1 d2 z.2.2) ?_ ?_
        · skip
          refine WP.seq ?_
          refine WP.reg ?_
          refine WL.e e_move <| WL.e e_eql ?_
          refine WL.next ?_
          refine WP.cond rfl (fun h4 => ?_) (fun h4 => ?_)
          · skip
            refine WP.seq ?_
            refine WP.reg ?_
            refine WL.e e_move <| WL.e e_move <| WL.e e_move ?_
            refine WL.h (h_call (Rev32_spec d2 a1 b1 (by omega) (by omega) (by omega)) k193 ?_)
            refine WL.next ?_
            refine WP.seq ?_
            refine WP.reg ?_
            refine WL.e e_move <| WL.e (e_subN (b := 1)) <| WL.e e_move <| WL.e e_move <| WL.e (e_subN) <| WL.e (e_subN) <| WL.e e_assign ?_
            refine WL.next ?_
            refine WP.reg ?_
            refine WL.e e_assign ?_
            refine WL.nil ?_
            exact PO.meetK (b1 - 1 - (p - a1), 1, reverseRange d2 a1 b1) ⟨by simp only; omega, by simp only; omega, reverseRange_holds d2 a1 b1 hab1 (by omega)⟩
          · skip
            refine WP.skip ?_
            exact PO.meetK (p, hn1, d2) ⟨hv1, hv2, permIn_refl _ _ _⟩
        · rintro ⟨p3, hn3, d3⟩ ⟨hp1, hp2, p23⟩
          simp only at hp1 hp2 p23
          dsimp only
          have hs3 : d3.size = d2.size := p23.1
          have B3 : Below lt32 a1 b1 d3 := (hbe1.perm (by omega) p12).perm (by omega) p23
          refine WP.cutR (fun (z : Array UInt32) => []) (fun (z : Array UInt32) => Sl 22 1 u32C u (z).toList :: R) [(0, _), (1, _), (2, _), (3, _), (8, _), (9, _), (10, _), (11, _), (12, _), (19, _), (20, _), (21, _), (22, _), (23, _), (28, _), (29, _), (42, _), (43, _), (44, _), (45, _), (46, _), (47, _), (48, _)] (fun (z : Array UInt32) => PermIn a1 b1 d3 z) ?_ ?_
          · skip
            refine WP.seq ?_
            refine WP.reg ?_
            refine WL.e e_move <| WL.e e_move ?_
            refine WL.bool 62 rfl (fun w1 => ?_) (fun w1 => ?_)
            · skip
              refine WL.e e_move <| WL.e e_pick_t <| WL.e e_move ?_
              refine WL.bool 65 rfl (fun w2 => ?_) (fun w2 => ?_)
              · skip
                refine WL.e e_move <| WL.e e_eql <| WL.e e_pick_t ?_
                refine WL.next ?_
                refine WP.cond rfl (fun h6 => ?_) (fun h6 => ?_)
                · skip
                  refine WP.seq ?_
                  refine WP.reg ?_
                  refine WL.e e_move <| WL.e e_move <| WL.e e_move ?_
                  refine WL.h (h_call (PIns32_spec d3 a1 b1 (by omega) (by omega) (by omega)) k194 ?_)
                  obtain ⟨k1, k2⟩ := partialInsertionSort_holds swo32 d3 a1 b1 (by omega) (by omega) B3
                  refine WL.next ?_
                  refine WP.cond rfl (fun h7 => ?_) (fun h7 => ?_)
                  · skip
                    refine WP.ret ?_
                    refine PO.round nofun ?_
                    refine PO.blockR ?_
                    refine PO.round nofun ?_
                    refine PO.blockR ?_
                    exact PO.fin Tryz.results162 rv_nil (hK _ (hC _ (permIn_trans _ _ _ _ _ p12 (permIn_trans _ _ _ _ _ p23 k1)) (k2 h7)).1 (hC _ (permIn_trans _ _ _ _ _ p12 (permIn_trans _ _ _ _ _ p23 k1)) (k2 h7)).2)
                  · skip
                    refine WP.skip ?_
                    exact PO.meetK _ k1
                · skip
                  refine WP.skip ?_
                  exact PO.meetK d3 (permIn_refl _ _ _)
              · skip
                refine WL.skip <| WL.skip <| WL.e e_pick_f ?_
                refine WL.next ?_
                refine WP.cond_f rfl ?_
                refine WP.skip ?_
                exact PO.meetK d3 (permIn_refl _ _ _)
            · skip
              refine WL.skip <| WL.e e_pick_f <| WL.e e_move <| WL.skip <| WL.skip <| WL.e e_pick_f ?_
              refine WL.next ?_
              refine WP.cond_f rfl ?_
              refine WP.skip ?_
              exact PO.meetK d3 (permIn_refl _ _ _)
          · rintro d4 p34
            have hs4 : d4.size = d3.size := p34.1
            have B4 : Below lt32 a1 b1 d4 := B3.perm (by omega) p34
            refine WP.cutR (fun (_ : Unit) => [(1, .int .i64 a1)]) (fun (_ : Unit) => Sl 22 1 u32C u (d4).toList :: R) [(0, _), (2, _), (3, _), (8, _), (9, _), (10, _), (11, _), (12, _), (19, _), (20, _), (21, _), (22, _), (23, _), (28, _), (29, _), (42, _), (43, _), (44, _), (45, _), (46, _), (47, _), (48, _)] (fun (_ : Unit) => True) ?_ ?_
            · skip
              refine WP.seq ?_
              refine WP.draws mixedOk 15 ?_
              refine RW.e 0 rfl e_move <| RW.e 1 rfl e_gtr <| RW.e 2 rfl e_move ?_
              refine RW.bool 75 rfl (fun g => ?_) (fun g => ?_)
              · replace g : a1 > 0 := by rw [decide_eq_true_eq] at g; omega
                refine RW.e 3 rfl e_move <| RW.e 4 rfl e_move <| RW.e 5 rfl (e_subN (b := 1)) <| RW.e 6 rfl (ea_ia sl82) <| RW.e 7 rfl (ea_load a22) <| RW.e 8 rfl e_move <| RW.e 9 rfl e_move <| RW.e 10 rfl (ea_ia sl82) <| RW.e 11 rfl (ea_load a22) ?_
                refine RW.any (is := [12]) rfl ⟨?_, trivial⟩
                refine RWat.h rfl rfl rfl ?_
                refine (h_call (Less32_spec _ _) k195 ?_)
                refine ⟨trivial, ?_⟩
                refine RW.e 13 rfl e_not <| RW.e 14 rfl e_pick_t ?_
                refine RW.done ?_
                refine PO.next ?_
                refine WP.cond rfl (fun h8 => ?_) (fun h8 => ?_)
                · replace h8 := nt h8
                  refine WP.seq ?_
                  refine WP.reg ?_
                  refine WL.e e_move <| WL.e e_move <| WL.e e_move <| WL.e e_move ?_
                  refine WL.h (h_call (PartE32_spec d4 a1 b1 p3 hp1 hp2 (by omega) (by omega)) k196 ?_)
                  rcases he : partitionEqual lt32 d4 a1 b1 p3 with ⟨mid, d5⟩
                  obtain ⟨q1, q2, q3, q4, q5⟩ := round_eq swo32 (partitionEqual_holds lt32) g hp1 hp2 (by omega) B4 h8 he
                  dsimp only
                  refine WL.e e_assign ?_
                  refine WL.next ?_
                  refine WP.seq ?_
                  refine WP.reg ?_
                  refine WL.e e_move <| WL.e e_assign ?_
                  refine WL.next ?_
                  refine WP.exit ?_
                  refine PO.round nofun ?_
                  refine PO.blockX ?_
                  exact PO.againK (mid, b1, l2, wb, wp, d5) ⟨by simp only; omega, by simp only; omega, by simp only; omega, by simp only; omega, by simp only; omega, q4, fun R' h1 h2 => hC R' (permIn_trans _ _ _ _ _ (permIn_trans _ _ _ _ _ p12 (permIn_trans _ _ _ _ _ p23 p34)) (q5 R' h1 h2).1) (q5 R' h1 h2).2⟩ (by simp only; omega)
                · skip
                  refine WP.skip ?_
                  exact PO.meetK () trivial
              · skip
                refine RW.skip 3 rfl <| RW.skip 4 rfl <| RW.skip 5 rfl <| RW.skip 6 rfl <| RW.skip 7 rfl <| RW.skip 8 rfl <| RW.skip 9 rfl <| RW.skip 10 rfl <| RW.skip 11 rfl <| RW.skip 12 rfl <| RW.skip 13 rfl <| RW.e 14 rfl e_pick_f ?_
                refine RW.done ?_
                refine PO.next ?_
                refine WP.cond_f rfl ?_
                refine WP.skip ?_
                exact PO.meetK () trivial
            · intro _ _
              refine WP.seq ?_
              refine WP.reg ?_
              refine WL.e e_move <| WL.e e_move <| WL.e e_move <| WL.e e_move ?_
              refine WL.h (h_call (Part32_spec d4 a1 b1 p3 hp1 hp2 (by omega) (by omega)) k197 ?_)
              rcases he : partition lt32 d4 a1 b1 p3 with ⟨mid, alr, d5⟩
              obtain ⟨q1, q2, q3, q4, q5, q6, q7⟩ := round_part swo32 (partition_holds lt32) hp1 hp2 (by omega) B4 he
              dsimp only
              refine WL.e e_move <| WL.e e_extract <| WL.e e_extract <| WL.e e_assign <| WL.e e_assign ?_
              refine WL.next ?_
              refine WP.seq ?_
              refine WP.reg ?_
              refine WL.e e_move <| WL.e e_assign ?_
              refine WL.next ?_
              refine WP.seq ?_
              refine WP.reg ?_
              refine WL.e e_move <| WL.e e_move <| WL.e (e_subN) <| WL.e e_move <| WL.e e_move <| WL.e (e_subN) <| WL.e e_assign <| WL.e e_assign ?_
              refine WL.next ?_
              refine WP.seq ?_
              refine WP.reg ?_
              refine WL.e e_move <| WL.e (e_quoN (b := 8)) <| WL.e e_assign ?_
              refine WL.next ?_
              refine WP.seq ?_
              refine WP.reg ?_
              refine WL.e e_move <| WL.e e_move <| WL.e e_lss ?_
              refine WL.next ?_
              refine WP.cond rfl (fun h9 => ?_) (fun h9 => ?_)
              · replace h9 : mid - a1 < b1 - mid := by rw [decide_eq_true_eq] at h9; omega
                refine WP.seq ?_
                refine WP.reg ?_
                refine WL.e e_move <| WL.e e_move <| WL.e e_geq <| WL.e e_assign ?_
                refine WL.next ?_
                refine WP.seq ?_
                refine WP.reg ?_
                refine WL.e e_move <| WL.e e_move <| WL.e e_move <| WL.e e_move ?_
                refine WL.h (h_call (ih (mid - a1) (by omega) d5 a1 mid l2 (Nat.le_refl _) (by omega) (by omega) (by omega) (by omega) q4) k162 ?_)
                intro d6 r1 r2
                have hs6 : d6.size = d5.size := r1.1
                refine WL.next ?_
                refine WP.reg ?_
                refine WL.e e_move <| WL.e (e_addN (b := 1)) <| WL.e e_assign ?_
                refine WL.nil ?_
                refine PO.blockN ?_
                exact PO.againK ((mid + 1), b1, l2, (decide (((mid - a1 : Nat) : Int) ≥ (((b1 - a1) / 8 : Nat) : Int))), alr, d6) ⟨by simp only; omega, by simp only; omega, by simp only; omega, by simp only; omega, by simp only; omega, (q6 d6 r1 r2).1, fun R' h1 h2 => hC R' (permIn_trans _ _ _ _ _ (permIn_trans _ _ _ _ _ p12 (permIn_trans _ _ _ _ _ p23 p34)) ((q6 d6 r1 r2).2 R' h1 h2).1) ((q6 d6 r1 r2).2 R' h1 h2).2⟩ (by simp only; omega)
              · replace h9 : ¬ (mid - a1 < b1 - mid) := by rw [decide_eq_false_iff_not] at h9; omega
                refine WP.seq ?_
                refine WP.reg ?_
                refine WL.e e_move <| WL.e e_move <| WL.e e_geq <| WL.e e_assign ?_
                refine WL.next ?_
                refine WP.seq ?_
                refine WP.reg ?_
                refine WL.e e_move <| WL.e e_move <| WL.e (e_addN (b := 1)) <| WL.e e_move <| WL.e e_move ?_
                refine WL.h (h_call (ih (b1 - (mid + 1)) (by omega) d5 (mid + 1) b1 l2 (Nat.le_refl _) (by omega) (by omega) (by omega) (by omega) q5) k162 ?_)
                intro d6 r1 r2
                have hs6 : d6.size = d5.size := r1.1
                refine WL.next ?_
                refine WP.reg ?_
                refine WL.e e_move <| WL.e e_assign ?_
                refine WL.nil ?_
                refine PO.blockN ?_
                exact PO.againK (a1, mid, l2, (decide (((b1 - mid : Nat) : Int) ≥ (((b1 - a1) / 8 : Nat) : Int))), alr, d6) ⟨by simp only; omega, by simp only; omega, by simp only; omega, by simp only; omega, by simp only; omega, (q7 d6 r1 r2).1, fun R' h1 h2 => hC R' (permIn_trans _ _ _ _ _ (permIn_trans _ _ _ _ _ p12 (permIn_trans _ _ _ _ _ p23 p34)) ((q7 d6 r1 r2).2 R' h1 h2).1) ((q7 d6 r1 r2).2 R' h1 h2).2⟩ (by simp only; omega)
theorem Sort32_spec {g : World} {u : Value} (xs : List UInt32) (hn : xs.length ≤ 68719476736) : Spec Tryz.prog g 129 [u] [Sl 22 1 u32C u xs] fun K R => ∀ ys, ys.Perm xs → (ys.Pairwise fun x y => x ≤ y) → K (.tuple #[]) (Sl 22 1 u32C u ys :: R) := by
  refine Spec.intro Tryz.func129 rfl Tryz.ntmps129 rfl fun R K hK => ?_
  refine WP.seq ?_
  refine WP.reg ?_
  refine WL.e e_move ?_
  refine WL.e (el_len (xs := xs) (enc := u32C) sl82 sl_rl) <| WL.e e_assign ?_
  refine WL.next ?_
  refine WP.reg ?_
  refine WL.e e_move <| WL.e e_move <| WL.e e_move <| WL.e (e_conv (c := ((xs.length : Nat) : Int)) (by rw [Tryz.underlying3]; rfl) Tryz.underlying238 rfl (by rw [wu64, UInt64.toNat_ofNat']; congr 1; omega)) ?_
  refine WL.h (h_call (L_spec xs.length (by omega)) k142 ?_)
  refine WL.h (h_call (Pdq32r_spec xs.length xs.toArray 0 xs.length (bitsLen xs.length) (by omega) (Nat.zero_le _) (by simp) (by simpa using hn) (by have := bitsLen_lt (k := 37) (x := xs.length) (by omega); omega) (Or.inl rfl)) k162 ?_)
  intro d' p1 p2
  obtain ⟨p3, p4⟩ := sort_done p1 p2
  refine WL.nil ?_
  exact PO.fin Tryz.results129 rv_nil (hK _ p3 p4)
end Go.SL
set_option linter.unusedSimpArgs false
set_option linter.unusedVariables false
namespace Go.SL.VS
open Go Go.Proofs Go.SL
theorem a22 : aggOf Tryz.prog 22 = some none := by kernel_rfl
theorem mixedOk : Tryz.prog.follows .mixedOrders = true := by kernel_rfl
theorem s22 : szOf Tryz.prog 22 = some 1 := by kernel_rfl
theorem sl82 : slOf Tryz.prog 82 = some (22, 1, 4) := by kernel_rfl
theorem z22 : zeroOf Tryz.prog 22 = some [.int .u32 0] := by kernel_rfl
end Go.SL.VS
namespace Go.SL
open Go Go.Proofs VS
set_option maxHeartbeats 2000000 in
theorem CompactU_spec {g : World} {u : Value} (xs : List UInt32) (hs : SortedU xs) (hn : xs.length ≤ 68719476736) : Spec Tryz.prog g 153 [u] [Sl 22 1 u32C (u) (xs)] fun K R => ∀ a n c ys, StrictU ys → (∀ x, x ∈ ys ↔ x ∈ xs) → K (.slice a n c) (Sl 22 1 u32C (.slice a n c) (ys) :: R) := by
  refine Spec.intro Tryz.func153 rfl Tryz.ntmps153 rfl fun R K hK => ?_
  refine WP.seq ?_
  refine WP.reg ?_
  refine WL.e e_assign ?_
  refine WL.next ?_
  refine WP.seq ?_
  refine WP.seq ?_
  refine WP.reg ?_
  refine WL.e e_move ?_
  refine WL.e (el_len (xs := xs) sl82 sl_rl) <| WL.e e_lss ?_
  refine WL.next ?_
  refine WP.cond rfl (fun h0 => ?_) (fun h0 => ?_)
  · have hx2 : StrictU xs := by match xs, h0 with
      | [], _ => exact List.Pairwise.nil
      | [x], _ => simp
      | x :: y :: l, h => simp at h; omega
    refine WP.seq ?_
    refine WP.reg ?_
    refine WL.e e_move <| WL.e e_assign ?_
    refine WL.next ?_
    refine WP.ret ?_
    refine PO.past nofun ?_
    refine PO.sh (u := u) fun a9 m9 c9 e9 => ?_
    subst e9
    exact PO.fin Tryz.results153 (rv_tmp rv_nil) (hK a9 m9 c9 xs hx2 (fun _ => Iff.rfl))
  · replace h0 : 2 ≤ xs.length := by rw [decide_eq_false_iff_not] at h0; omega
    refine WP.skip ?_
    refine PO.next ?_
    refine WP.seq ?_
    refine WP.seq ?_
    refine WP.reg ?_
    refine WL.e e_assign ?_
    refine WL.next ?_
    refine WP.block ?_
    refine WP.loopK (fun (i : Nat) => [(3, .int .i64 i)]) (fun (i : Nat) => Sl 22 1 u32C (u) (xs) :: R) [(0, _)] (fun (i : Nat) => 1 ≤ i ∧ i ≤ xs.length ∧ StrictU (xs.take i)) (fun (i : Nat) => xs.length - i) 1 (⟨Nat.le_refl _, by omega, by match xs, h0 with
      | x :: l, _ => simp⟩) ?_
    rintro i0 ⟨hi1, hi2, hst⟩
    refine WP.seq ?_
    refine WP.seq ?_
    refine WP.reg ?_
    refine WL.e e_move <| WL.e e_move ?_
    refine WL.e (el_len (xs := xs) sl82 sl_rl) <| WL.e e_lss ?_
    refine WL.next ?_
    refine WP.cond rfl (fun h1 => ?_) (fun h1 => ?_)
    · have hlt : i0 < xs.length := by rw [decide_eq_true_eq] at h1; omega
      obtain ⟨a, ha⟩ : ∃ a, xs[i0]? = some a := ⟨_, List.getElem?_eq_getElem hlt⟩
      obtain ⟨b, hb⟩ : ∃ b, xs[i0 - 1]? = some b := ⟨_, List.getElem?_eq_getElem (by omega)⟩
      refine WP.skip ?_
      refine PO.next ?_
      refine WP.seq ?_
      refine WP.block ?_
      refine WP.seq ?_
      refine WP.draws mixedOk 10 ?_
      refine RW.e 0 rfl e_move <| RW.e 1 rfl e_move ?_
      refine RW.e 2 rfl (el_ia (j := i0) (xs := xs) sl82 sl_rl hlt) ?_
      refine RW.e 3 rfl (el_load0 (j := i0) (a := a) a22 u32E sl_rl ha) <| RW.e 4 rfl e_move <| RW.e 5 rfl e_move <| RW.e 6 rfl (e_subN (b := 1)) ?_
      refine RW.e 7 rfl (el_ia (j := i0 - 1) (xs := xs) sl82 sl_rl (by omega)) ?_
      refine RW.e 8 rfl (el_load0 (j := i0 - 1) (a := b) a22 u32E sl_rl hb) <| RW.e 9 rfl (e_eql32) ?_
      refine RW.done ?_
      refine PO.next ?_
      refine WP.cond rfl (fun h2 => ?_) (fun h2 => ?_)
      · obtain rfl : a = b := by simpa using h2
        have hI0 := CmpI.start hst hi1 ha hb
        refine WP.seq ?_
        refine WP.reg ?_
        refine WL.e e_move <| WL.e e_move ?_
        refine WL.e (el_from (lo := i0) (xs := xs) sl82 sl_rl (by omega)) <| WL.e e_assign ?_
        refine WL.next ?_
        refine WP.seq ?_
        refine WP.seq ?_
        refine WP.reg ?_
        refine WL.e e_assign ?_
        refine WL.next ?_
        refine WP.block ?_
        refine WP.loopK (fun (x : Nat × Nat × List UInt32) => [(5, .int .i64 x.1), (3, .int .i64 x.2.1)]) (fun (x : Nat × Nat × List UInt32) => Sl 22 1 u32C (u) (x.2.2) :: R) [(0, _), (4, _), (10, _), (11, _), (12, _), (13, _), (16, _), (17, _), (18, _), (19, _), (20, _), (21, _), (22, _), (23, _), (24, _), (25, _), (26, _), (27, _), (28, _)] (fun (x : Nat × Nat × List UInt32) => 1 ≤ x.1 ∧ i0 + x.1 ≤ xs.length ∧ CmpI xs x.2.2 x.2.1 (i0 + x.1)) (fun (x : Nat × Nat × List UInt32) => xs.length - x.1) (1, i0, xs) (⟨Nat.le_refl _, by simp only; omega, hI0⟩) ?_
        rintro ⟨k, i, ds⟩ ⟨hk1, hk2, hI⟩
        simp only at hk1 hk2 hI
        dsimp only
        have hdl := hI.len
        have hic := hI.ic
        have hi1 := hI.i1
        have hFR : RL (Sl 22 1 u32C (u) (ds)) 1 u32C (subV u i0 xs.length none 1) (ds.drop i0) := by
          have := RL.from_ (lo := i0) u32E (sl_rl (E := 22) (u := u) (xs := ds)) (by omega)
          rwa [hdl] at this
        refine WP.seq ?_
        refine WP.seq ?_
        refine WP.reg ?_
        refine WL.e e_move <| WL.e e_move ?_
        refine WL.e (el_len (xs := ds.drop i0) sl82 hFR) <| WL.e e_lss ?_
        refine WL.next ?_
        refine WP.cond rfl (fun h3 => ?_) (fun h3 => ?_)
        · have hlt2 : i0 + k < xs.length := by rw [decide_eq_true_eq, List.length_drop] at h3; omega
          obtain ⟨c, hc⟩ : ∃ a, xs[i0 + k]? = some a := ⟨_, List.getElem?_eq_getElem hlt2⟩
          obtain ⟨d, hd⟩ : ∃ a, xs[i0 + k - 1]? = some a := ⟨_, List.getElem?_eq_getElem (by omega)⟩
          have hc2 : (ds.drop i0)[k]? = some c := by rw [List.getElem?_drop, hI.rest _ (by omega)]; exact hc
          have hd2 : (ds.drop i0)[k - 1]? = some d := by rw [List.getElem?_drop, show i0 + (k - 1) = i0 + k - 1 by omega, hI.rest _ (Nat.le_refl _)]; exact hd
          refine WP.skip ?_
          refine PO.next ?_
          refine WP.seq ?_
          refine WP.block ?_
          refine WP.seq ?_
          refine WP.draws mixedOk 10 ?_
          refine RW.e 0 rfl e_move <| RW.e 1 rfl e_move ?_
          refine RW.e 2 rfl (el_ia (j := k) (xs := ds.drop i0) sl82 hFR (by rw [List.length_drop]; omega)) ?_
          refine RW.e 3 rfl (el_load0 (j := k) (a := c) a22 u32E hFR hc2) <| RW.e 4 rfl e_move <| RW.e 5 rfl e_move <| RW.e 6 rfl (e_subN (b := 1)) ?_
          refine RW.e 7 rfl (el_ia (j := k - 1) (xs := ds.drop i0) sl82 hFR (by rw [List.length_drop]; omega)) ?_
          refine RW.e 8 rfl (el_load0 (j := k - 1) (a := d) a22 u32E hFR hd2) <| RW.e 9 rfl (e_neq32) ?_
          refine RW.done ?_
          refine PO.next ?_
          refine WP.cond rfl (fun h4 => ?_) (fun h4 => ?_)
          · have hne : c ≠ d := by simpa using h4
            refine WP.seq ?_
            refine WP.reg ?_
            refine WL.e e_move <| WL.e e_move <| WL.e e_move <| WL.e e_move ?_
            refine WL.e (el_ia (j := k) (xs := ds.drop i0) sl82 hFR (by rw [List.length_drop]; omega)) ?_
            refine WL.e (el_load0 (j := k) (a := c) a22 u32E hFR hc2) ?_
            refine WL.e (el_ia (j := i) (xs := ds) sl82 sl_rl (by omega)) ?_
            refine WL.h' (hl_store (xs := ds) (j := i) c s22 u32E (by omega) ?_)
            refine WL.next ?_
            refine WP.reg ?_
            refine WL.e e_move <| WL.e (e_addN (b := 1)) <| WL.e e_assign ?_
            refine WL.nil ?_
            refine PO.blockN ?_
            refine PO.next ?_
            refine WP.reg ?_
            refine WL.e e_move <| WL.e (e_addN (b := 1)) <| WL.e e_assign ?_
            refine WL.nil ?_
            exact PO.againK (k + 1, i + 1, ds.set i c) ⟨by simp only; omega, by simp only; omega, hI.put hs hc hd hne⟩ (by simp only; omega)
          · obtain rfl : c = d := by simpa using h4
            refine WP.skip ?_
            refine PO.blockN ?_
            refine PO.next ?_
            refine WP.reg ?_
            refine WL.e e_move <| WL.e (e_addN (b := 1)) <| WL.e e_assign ?_
            refine WL.nil ?_
            exact PO.againK (k + 1, i, ds) ⟨by simp only; omega, by simp only; omega, hI.same hc hd⟩ (by simp only; omega)
        · have hend : i0 + k = xs.length := by rw [decide_eq_false_iff_not, List.length_drop] at h3; omega
          refine WP.exit ?_
          refine PO.past nofun ?_
          refine PO.round nofun ?_
          refine PO.blockX ?_
          refine PO.next ?_
          refine WP.seq ?_
          refine WP.reg ?_
          refine WL.e e_move <| WL.e e_move ?_
          refine WL.e (el_from (lo := i) (xs := ds) sl82 sl_rl (by omega)) ?_
          refine WL.h' (hl_clear (lo := i) (xs := ds) 0 sl82 z22 u32E rfl (by omega) (by omega) ?_)
          refine WL.next ?_
          refine WP.seq ?_
          refine WP.reg ?_
          refine WL.e e_move <| WL.e e_move ?_
          refine WL.e (el_to (hi := i) (xs := ds.take i ++ List.replicate (ds.length - i) 0) sl82 sl_rl (by simp; omega)) <| WL.e e_assign ?_
          refine WL.next ?_
          refine WP.ret ?_
          refine PO.blockR ?_
          refine PO.past nofun ?_
          refine PO.round nofun ?_
          refine PO.blockR ?_
          refine PO.past nofun ?_
          refine PO.conv (conv1 (A := Sl 22 1 u32C (u) (ds.take i ++ List.replicate (ds.length - i) 0)) (B := Sl 22 1 u32C (subV u 0 i none 1) (ds.take i)) (fun S h => by have h2 := sl_to (i := i) u32E h (by simp; omega); rwa [List.take_left' (by simp; omega)] at h2) (by repeat first | exact .z | apply Put.s)) ?_
          refine PO.sh (u := subV u 0 i none 1) fun a9 m9 c9 e9 => ?_
          rw [e9]
          exact PO.fin Tryz.results153 (rv_tmp rv_nil) (hK a9 m9 c9 (ds.take i) hI.str (fun x => by rw [hI.mem, hend, List.take_length]))
      · have hne : a ≠ b := by simpa using h2
        refine WP.skip ?_
        refine PO.blockN ?_
        refine PO.next ?_
        refine WP.reg ?_
        refine WL.e e_move <| WL.e (e_addN (b := 1)) <| WL.e e_assign ?_
        refine WL.nil ?_
        exact PO.againK (i0 + 1) ⟨by omega, by omega, strict_step hs hst hi1 ha hb hne⟩ (by omega)
    · have hst2 : StrictU xs := by rwa [List.take_of_length_le (show xs.length ≤ i0 by rw [decide_eq_false_iff_not] at h1; omega)] at hst
      refine WP.exit ?_
      refine PO.past nofun ?_
      refine PO.round nofun ?_
      refine PO.blockX ?_
      refine PO.next ?_
      refine WP.seq ?_
      refine WP.reg ?_
      refine WL.e e_move <| WL.e e_assign ?_
      refine WL.next ?_
      refine WP.ret ?_
      refine PO.sh (u := u) fun a9 m9 c9 e9 => ?_
      subst e9
      exact PO.fin Tryz.results153 (rv_tmp rv_nil) (hK a9 m9 c9 xs hst2 (fun _ => Iff.rfl))
end Go.SL
