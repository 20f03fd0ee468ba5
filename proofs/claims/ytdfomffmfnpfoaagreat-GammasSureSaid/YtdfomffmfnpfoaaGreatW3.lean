import Derived.Test.YtdfomffmfnpfoaaGreatM3
import Derived.Test.YtdfomffmfnpfoaaGreatProg
import Derived.KernelRfl
set_option linter.unusedSimpArgs false
set_option linter.unusedVariables false
namespace Go.SL.W3
open Go Go.Proofs Go.SL
theorem a5 : aggOf Tryz.prog 5 = some none := by kernel_rfl
theorem a81 : aggOf Tryz.prog 81 = some none := by kernel_rfl
theorem k104 : callable Tryz.prog 104 = true := by kernel_rfl
theorem k119 : callable Tryz.prog 119 = true := by kernel_rfl
theorem k62 : callable Tryz.prog 62 = true := by kernel_rfl
theorem k93 : callable Tryz.prog 93 = true := by kernel_rfl
theorem k94 : callable Tryz.prog 94 = true := by kernel_rfl
theorem k95 : callable Tryz.prog 95 = true := by kernel_rfl
theorem k96 : callable Tryz.prog 96 = true := by kernel_rfl
theorem mixedOk : Tryz.prog.follows .mixedOrders = true := by kernel_rfl
theorem s5 : szOf Tryz.prog 5 = some 1 := by kernel_rfl
theorem s81 : szOf Tryz.prog 81 = some 1 := by kernel_rfl
theorem sl81 : slOf Tryz.prog 81 = some (5, 1, 1) := by kernel_rfl
theorem z5 : zeroOf Tryz.prog 5 = some [.int .u8 0] := by kernel_rfl
theorem z81 : zeroOf Tryz.prog 81 = some [.slice none 0 0] := by kernel_rfl
end Go.SL.W3
namespace Go.SL
open Go Go.Proofs W3
theorem tell_spec {g : World} {b : Nat} {u : Value} {xs : List UInt8} (lo : Nat) (n : UInt32) (h : lo + 4 ≤ xs.length) (hb : xs.length ≤ 68719476736) : Spec Tryz.prog g 94 [.int .i64 lo, .int .u32 n.toNat, .pointer (some ⟨b, 0, none⟩)] [cl b 81 [u], Sl 5 1 eB u (xs)] fun K R => K (.tuple #[]) (cl b 81 [u] :: Sl 5 1 eB u (over xs lo (numB n 4)) :: R) := by
  refine Spec.intro Tryz.func94 rfl Tryz.ntmps94 rfl fun R K hK => ?_
  refine WP.seq ?_
  refine WP.reg ?_
  refine WL.e e_move ?_
  refine WL.next ?_
  refine WP.block ?_
  rw [show Sl 5 1 eB u (xs) = Sl 5 1 eB u (over xs lo ((numB n 4).take 0)) by rw [List.take_zero, over_nil xs lo (by omega)]]
  refine WP.loopK (fun (i : Nat) => [(6, .int .i64 i)]) (fun (i : Nat) => cl b 81 [u] :: Sl 5 1 eB u (over xs lo ((numB n 4).take i)) :: R) [(0, _), (1, _), (2, _)] (fun (i : Nat) => i ≤ 4) (fun (i : Nat) => 4 - i) 0 (by omega) ?_
  intro i hx1
  refine WP.seq ?_
  refine WP.reg ?_
  refine WL.e e_lss ?_
  refine WL.next ?_
  refine WP.seq ?_
  refine WP.cond rfl (fun h1 => ?_) (fun h1 => ?_)
  · have hlt : i < 4 := by simp at h1; omega
    refine WP.skip ?_
    refine PO.next ?_
    refine WP.seq ?_
    refine WP.block ?_
    refine WP.seq ?_
    refine WP.reg ?_
    refine WL.e e_move <| WL.e e_assign ?_
    refine WL.next ?_
    refine WP.draws mixedOk 12 ?_
    refine RW.e 0 rfl (e_load a81) <| RW.e 1 rfl e_move <| RW.e 2 rfl e_move <| RW.e 3 rfl (e_add (c := ((lo + i : Nat) : Int)) rfl rfl (by rw [w_i64 (by omega) (by omega)]; omega)) <| RW.e 4 rfl e_move <| RW.e 5 rfl e_move <| RW.e 6 rfl (e_sub (c := ((3 - i : Nat) : Int)) rfl rfl (by rw [w_i64 (by omega) (by omega)]; omega)) <| RW.e 7 rfl (e_mul (c := ((8 * (3 - i) : Nat) : Int)) rfl rfl (by rw [w_i64 (by omega) (by omega)]; omega)) <| RW.e 8 rfl (e_shrN (k := .u32) (m := 8 * (3 - i)) (by simp [IntKind.bits]; omega)) <| RW.e 9 rfl (e_c8 (by rw [Tryz.underlying31]; rfl) Tryz.underlying5) ?_
    refine RW.e 10 rfl (el_ia (j := lo + i) (xs := over xs lo ((numB n 4).take i)) sl81 sl_rl (by rw [over_len _ _ _ (by omega)]; omega)) ?_
    refine RW.any (is := [11]) rfl ⟨?_, trivial⟩
    refine RWat.h' rfl rfl rfl ?_
    refine (hl_store (j := lo + i) (xs := over xs lo ((numB n 4).take i)) (UInt8.ofNat (n.toNat / 2 ^ (8 * (3 - i)))) s5 eB_ok (by rw [over_len _ _ _ (by omega)]; omega) ?_)
    rw [over_set xs (numB n 4) lo i _ (by rw [numB_len]; exact h) (by (obtain rfl | rfl | rfl | rfl : i = 0 ∨ i = 1 ∨ i = 2 ∨ i = 3 := by omega) <;> rfl)]
    refine ⟨trivial, ?_⟩
    refine RW.done ?_
    refine PO.blockN ?_
    refine PO.next ?_
    refine WP.reg ?_
    refine WL.e (e_add rfl rfl (w_i64 (by omega) (by omega))) <| WL.e e_move ?_
    refine WL.nil ?_
    exact PO.againK (i + 1) (by omega) (by omega)
  · obtain rfl : i = 4 := by simp at h1; omega
    rw [show (numB n 4).take 4 = numB n 4 from List.take_of_length_le (by rw [numB_len]; omega)]
    refine WP.exit ?_
    refine PO.past nofun ?_
    refine PO.round nofun ?_
    refine PO.blockX ?_
    exact PO.fin Tryz.results94 rv_nil hK

theorem CloneB_spec {g : World} {A : HP} {u : Value} {xs : List UInt8} (hA : RL A 1 eB u xs) (hb : xs.length ≤ 68719476736) : Spec Tryz.prog g 104 [u] [A] fun K R => ∀ a m c, K (.slice a m c) (Sl 5 1 eB (.slice a m c) xs :: A :: R) := by
  refine Spec.intro Tryz.func104 rfl Tryz.ntmps104 rfl fun R K hK => ?_
  refine WP.seq ?_
  refine WP.reg ?_
  refine WL.e e_assign ?_
  refine WL.next ?_
  refine WP.seq ?_
  refine WP.seq ?_
  refine WP.reg ?_
  refine WL.e e_move ?_
  refine WL.e (e_slnil sl81 hA) ?_
  refine WL.next ?_
  refine WP.cond rfl (fun h => ?_) (fun h => ?_)
  · refine WP.know (φ := xs = []) (Pick.know (A := A) (by exact .z) fun S hS => ?_) fun hx => ?_
    · rcases hA S hS with ⟨h0, _⟩ | ⟨b, o, c, l, t, e, _⟩
      · simpa using h0
      · rw [e] at h; cases h
    subst hx
    refine WP.nils 5 1 eB none ?_
    refine WP.seq ?_
    refine WP.reg ?_
    refine WL.e e_assign ?_
    refine WL.next ?_
    refine WP.ret ?_
    refine PO.past nofun ?_
    exact PO.fin Tryz.results104 (rv_tmp rv_nil) (hK none 0 0)
  · skip
    refine WP.skip ?_
    refine PO.next ?_
    refine WP.seq ?_
    refine WP.reg ?_
    refine WL.h (h_bs0 sl81 (enc := eB) fun a1 n1 c1 => ?_)
    refine WL.e e_move ?_
    refine WL.h (hl_append (xs := []) (ys := xs) sl81 eB_ok z5 hA (by simp; omega) fun a2 n2 c2 => ?_)
    rw [List.nil_append]
    refine WL.e e_assign ?_
    refine WL.next ?_
    refine WP.ret ?_
    exact PO.fin Tryz.results104 (rv_tmp rv_nil) (hK a2 n2 c2)

theorem EqualB_spec {g : World} {A B : HP} {u v : Value} {xs ys : List UInt8} (hA : RL A 1 eB u xs) (hB : RL B 1 eB v ys) (hb : xs.length ≤ 68719476736) : Spec Tryz.prog g 119 [u, v] [A, B] fun K R => K (.bool (xs == ys)) (A :: B :: R) := by
  refine Spec.intro Tryz.func119 rfl Tryz.ntmps119 rfl fun R K hK => ?_
  refine WP.seq ?_
  refine WP.reg ?_
  refine WL.e e_assign ?_
  refine WL.next ?_
  refine WP.seq ?_
  refine WP.seq ?_
  refine WP.reg ?_
  refine WL.e e_move ?_
  refine WL.e (el_len sl81 hA) <| WL.e e_move ?_
  refine WL.e (el_len sl81 hB) <| WL.e e_neq ?_
  refine WL.next ?_
  refine WP.cond rfl (fun h => ?_) (fun h => ?_)
  · skip
    refine WP.seq ?_
    refine WP.reg ?_
    refine WL.e e_assign ?_
    refine WL.next ?_
    refine WP.ret ?_
    refine PO.past nofun ?_
    exact PO.finE Tryz.results119 (rv_tmp rv_nil) (congrArg Value.bool (Eq.symm (beq_eq_false_iff_ne.2 (by rintro rfl; simp at h)))) hK
  · replace h : xs.length = ys.length := by simp at h; omega
    refine WP.skip ?_
    refine PO.next ?_
    refine WP.seq ?_
    refine WP.seq ?_
    refine WP.reg ?_
    refine WL.e e_move ?_
    refine WL.e (el_len sl81 hA) <| WL.e e_move ?_
    refine WL.next ?_
    refine WP.block ?_
    refine WP.loopK (fun (i : Nat) => [(13, .int .i64 i)]) (fun (i : Nat) => A :: B :: R) [(0, _), (1, _), (12, _)] (fun (i : Nat) => i ≤ xs.length ∧ xs.take i = ys.take i) (fun (i : Nat) => xs.length - i) 0 (⟨by omega, by simp⟩) ?_
    rintro i ⟨hx1, hx2⟩
    refine WP.seq ?_
    refine WP.reg ?_
    refine WL.e e_lss ?_
    refine WL.next ?_
    refine WP.seq ?_
    refine WP.cond rfl (fun h2 => ?_) (fun h2 => ?_)
    · have hlt : i < xs.length := by simp at h2; omega
      obtain ⟨x, hx⟩ : ∃ c, xs[i]? = some c := ⟨xs[i], List.getElem?_eq_getElem hlt⟩
      obtain ⟨y, hy⟩ : ∃ c, ys[i]? = some c := ⟨ys[i], List.getElem?_eq_getElem (by omega)⟩
      refine WP.skip ?_
      refine PO.next ?_
      refine WP.seq ?_
      refine WP.block ?_
      refine WP.seq ?_
      refine WP.reg ?_
      refine WL.e e_move <| WL.e e_assign ?_
      refine WL.next ?_
      refine WP.seq ?_
      refine WP.draws mixedOk 9 ?_
      refine RW.e 0 rfl e_move <| RW.e 1 rfl e_move ?_
      refine RW.e 2 rfl (el_ia sl81 hA hlt) ?_
      refine RW.e 3 rfl (el_load0 a5 eB_ok hA hx) <| RW.e 4 rfl e_move <| RW.e 5 rfl e_move ?_
      refine RW.e 6 rfl (el_ia (j := i) sl81 hB (by omega)) ?_
      refine RW.e 7 rfl (el_load0 a5 eB_ok hB hy) <| RW.e 8 rfl (e_neq8) ?_
      refine RW.done ?_
      refine PO.next ?_
      refine WP.cond rfl (fun h3 => ?_) (fun h3 => ?_)
      · skip
        refine WP.seq ?_
        refine WP.reg ?_
        refine WL.e e_assign ?_
        refine WL.next ?_
        refine WP.ret ?_
        refine PO.blockR ?_
        refine PO.past nofun ?_
        refine PO.round nofun ?_
        refine PO.blockR ?_
        refine PO.past nofun ?_
        exact PO.finE Tryz.results119 (rv_tmp rv_nil) (congrArg Value.bool (Eq.symm (beq_eq_false_iff_ne.2 (by rintro rfl; rw [hx] at hy; cases hy; simp at h3)))) hK
      · skip
        refine WP.skip ?_
        refine PO.blockN ?_
        refine PO.next ?_
        refine WP.reg ?_
        refine WL.e (e_add rfl rfl (w_i64 (by omega) (by omega))) <| WL.e e_move ?_
        refine WL.nil ?_
        exact PO.againK (i + 1) ⟨by omega, by rw [take_snoc hx, take_snoc hy, hx2, show x = y by simpa using h3]⟩ (by omega)
    · have hfin : xs = ys := by rw [List.take_of_length_le (by simp at h2; omega), List.take_of_length_le (by simp at h2; omega)] at hx2; exact hx2
      refine WP.exit ?_
      refine PO.past nofun ?_
      refine PO.round nofun ?_
      refine PO.blockX ?_
      refine PO.next ?_
      refine WP.seq ?_
      refine WP.reg ?_
      refine WL.e e_assign ?_
      refine WL.next ?_
      refine WP.ret ?_
      exact PO.finE Tryz.results119 (rv_tmp rv_nil) (by rw [hfin]; simp) hK

theorem BEqual_spec {g : World} {A B : HP} {u v : Value} {xs ys : List UInt8} (hA : RL A 1 eB u xs) (hB : RL B 1 eB v ys) : Spec Tryz.prog g 82 [u, v] [A, B] fun K R => K (.bool (xs == ys)) (A :: B :: R) := by
  refine Spec.intro Tryz.func82 rfl Tryz.ntmps82 rfl fun R K hK => ?_
  refine WP.seq ?_
  refine WP.reg ?_
  refine WL.e e_assign ?_
  refine WL.next ?_
  refine WP.seq ?_
  refine WP.reg ?_
  refine WL.e e_move ?_
  refine WL.e (e_b2s Tryz.underlying81 Tryz.underlying5 Tryz.underlying9 hA) <| WL.e e_move ?_
  refine WL.e (e_b2s Tryz.underlying81 Tryz.underlying5 Tryz.underlying9 hB) <| WL.e e_seq <| WL.e e_assign ?_
  refine WL.next ?_
  refine WP.ret ?_
  exact PO.finE Tryz.results82 (rv_tmp rv_nil) (by simp [text_beq]) hK

theorem Put_spec {g : World} {A : HP} {u : Value} {b : List UInt8} (hA : RL A 1 eB u b) : Spec Tryz.prog g 62 [u] [A] fun K R => (16384 < b.length → K (.tuple #[.slice none 0 0, .int .i64 3]) (A :: R)) ∧ (b.length ≤ 16384 → ∀ a m c, K (.tuple #[.slice a m c, .int .i64 0]) (Sl 5 1 eB (.slice a m c) (frame b) :: A :: R)) := by
  refine Spec.intro Tryz.func62 rfl Tryz.ntmps62 rfl fun R K hK => ?_
  refine WP.seq ?_
  refine WP.reg ?_
  refine WL.e e_assign <| WL.e e_assign ?_
  refine WL.next ?_
  refine WP.seq ?_
  refine WP.reg ?_
  refine WL.e e_move ?_
  refine WL.e (el_len sl81 hA) <| WL.e e_assign ?_
  refine WL.next ?_
  refine WP.seq ?_
  refine WP.seq ?_
  refine WP.reg ?_
  refine WL.e e_move <| WL.e e_gtr ?_
  refine WL.next ?_
  refine WP.cond rfl (fun h => ?_) (fun h => ?_)
  · skip
    refine WP.seq ?_
    refine WP.reg ?_
    refine WL.e e_assign <| WL.e e_assign ?_
    refine WL.next ?_
    refine WP.ret ?_
    refine PO.past nofun ?_
    exact PO.fin Tryz.results62 (rv_tmp (rv_tmp rv_nil)) (hK.1 (by simp at h; omega))
  · replace h : b.length ≤ 16384 := by simp at h; omega
    have hs1 := secs_le b.length
    have hs2 := secs_ub b.length
    refine WP.skip ?_
    refine PO.next ?_
    refine WP.seq ?_
    refine WP.reg ?_
    refine WL.e e_move ?_
    refine WL.h (h_call (sectors_spec b.length (by omega)) k93 ?_)
    refine WL.e (e_mul (c := ((secs b.length * 64 : Nat) : Int)) rfl rfl (by rw [w_i64 (by omega) (by omega)]; omega)) ?_
    refine WL.h (hl_make (enc := eB) (n := secs b.length * 64) (0 : UInt8) sl81 z5 (by omega) fun a5 n5 c5 => ?_)
    refine WL.h (h_alloc z81 fun b1 => ?_)
    refine WL.h' (h_store s81 ?_)
    refine WL.next ?_
    refine WP.seq ?_
    refine WP.reg ?_
    refine WL.e e_makeFunc <| WL.e e_assign ?_
    refine WL.next ?_
    refine WP.seq ?_
    refine WP.reg ?_
    refine WL.e e_move <| WL.e e_move <| WL.e (e_c32 (by rw [Tryz.underlying3]; rfl) Tryz.underlying31) ?_
    refine WL.h (h_callv (fs := []) (cs := [.pointer (some ⟨b1, 0, none⟩)]) (args := [.int .i64 (0 : Nat), .int .u32 (UInt32.ofNat b.length).toNat]) (tell_spec (xs := List.replicate (secs b.length * 64) (0 : UInt8)) 0 (UInt32.ofNat b.length) (by simp; omega) (by simp; omega)) k94 ?_)
    rw [show numB (UInt32.ofNat b.length) 4 = head4 b from rfl, frame1]
    refine WL.next ?_
    refine WP.seq ?_
    refine WP.reg ?_
    refine WL.e e_move <| WL.e (e_load a81) ?_
    refine WL.e (el_to3 (hi := 4) (xs := head4 b ++ List.replicate (secs b.length * 64 - 4) 0) sl81 sl_rl (by simp; omega)) ?_
    refine WL.h (h_call (SumOf_spec (b := head4 b) (by have := RL.sub (lo := 0) (hi := 4) (mx := some 4) eB_ok (sl_rl (E := 5) (z := 1) (enc := eB) (u := .slice a5 n5 c5) (xs := head4 b ++ List.replicate (secs b.length * 64 - 4) 0)) (by omega) (by simp; omega) (by rintro m ⟨⟩; simp; omega); rwa [List.drop_zero, List.take_left' (head4_len b)] at this) (by rw [head4_len]; omega)) k96 ?_)
    refine WL.e e_move ?_
    refine WL.h (h_call (On_spec (sumOn 0 (head4 b)) hA (by omega)) k95 ?_)
    refine WL.h (h_callv (fs := []) (cs := [.pointer (some ⟨b1, 0, none⟩)]) (args := [.int .i64 (4 : Nat), .int .u32 (sumOn (sumOn 0 (head4 b)) b).toNat]) (tell_spec (xs := head4 b ++ List.replicate (secs b.length * 64 - 4) 0) 4 (sumOn (sumOn 0 (head4 b)) b) (by simp [head4_len]; omega) (by simp [head4_len]; omega)) k94 ?_)
    rw [show numB (sumOn (sumOn 0 (head4 b)) b) 4 = sum4 b from rfl, frame2]
    refine WL.next ?_
    refine WP.seq ?_
    refine WP.reg ?_
    refine WL.e (e_load a81) ?_
    refine WL.e (el_from (lo := 8) (xs := head4 b ++ sum4 b ++ List.replicate (secs b.length * 64 - 8) 0) sl81 sl_rl (by simp [head4_len, sum4_len]; omega)) <| WL.e e_move ?_
    refine WL.h (hl_copy (lo := 8) (xs := head4 b ++ sum4 b ++ List.replicate (secs b.length * 64 - 8) 0) sl81 eB_ok (by simp [head4_len, sum4_len]; omega) hA ?_)
    rw [frame3]
    refine WL.next ?_
    refine WP.seq ?_
    refine WP.reg ?_
    refine WL.e (e_load a81) <| WL.e e_assign <| WL.e e_assign ?_
    refine WL.next ?_
    refine WP.ret ?_
    exact PO.fin Tryz.results62 (rv_tmp (rv_tmp rv_nil)) (hK.2 h a5 n5 c5)

theorem Get_spec {g : World} {A : HP} {u : Value} {b : List UInt8} (hA : RL A 1 eB u b) (hb : b.length ≤ 68719476736) : Spec Tryz.prog g 106 [u] [A] fun K R => (getF b = none → K (.tuple #[.slice none 0 0, .int .i64 0, .int .i64 4]) (A :: R)) ∧ (∀ rec many, getF b = some (rec, many) → ∀ a m c, K (.tuple #[.slice a m c, .int .i64 many, .int .i64 0]) (Sl 5 1 eB (.slice a m c) (rec) :: A :: R)) := by
  refine Spec.intro Tryz.func106 rfl Tryz.ntmps106 rfl fun R K hK => ?_
  refine WP.seq ?_
  refine WP.reg ?_
  refine WL.e e_assign <| WL.e e_assign <| WL.e e_assign ?_
  refine WL.next ?_
  refine WP.seq ?_
  refine WP.seq ?_
  refine WP.reg ?_
  refine WL.e e_move ?_
  refine WL.e (el_len sl81 hA) <| WL.e e_lss ?_
  refine WL.next ?_
  refine WP.cond rfl (fun h1 => ?_) (fun h1 => ?_)
  · replace h1 : b.length < 8 := by simp at h1; omega
    refine WP.seq ?_
    refine WP.reg ?_
    refine WL.e e_assign <| WL.e e_assign <| WL.e e_assign ?_
    refine WL.next ?_
    refine WP.ret ?_
    refine PO.past nofun ?_
    exact PO.fin Tryz.results106 (rv_tmp (rv_tmp (rv_tmp rv_nil))) (hK.1 (by simp [getF, h1]))
  · replace h1 : ¬ b.length < 8 := by simp at h1; omega
    have hA4 : RL A 1 eB (subV u 0 4 none 1) (b.take 4) := RL.to_ eB_ok hA (by omega)
    have hl4 : (b.take 4).length = 4 := by simp; omega
    refine WP.skip ?_
    refine PO.next ?_
    refine WP.seq ?_
    refine WP.reg ?_
    refine WL.e e_assign ?_
    refine WL.next ?_
    refine WP.seq ?_
    refine WP.seq ?_
    refine WP.reg ?_
    refine WL.e e_move ?_
    refine WL.e (el_to (hi := 4) sl81 hA (by omega)) ?_
    refine WL.e (el_len sl81 hA4) <| WL.e e_move ?_
    refine WL.next ?_
    refine WP.block ?_
    refine WP.loopK (fun (x : Nat × UInt32) => [(17, .int .i64 x.1), (5, .int .u32 x.2.toNat)]) (fun (x : Nat × UInt32) => A :: R) [(0, _), (2, _), (3, _), (4, _), (15, _), (16, _)] (fun (x : Nat × UInt32) => x.1 ≤ 4 ∧ x.2 = beN ((b.take 4).take x.1)) (fun (x : Nat × UInt32) => 4 - x.1) (0, 0) (⟨by omega, by simp [beN]⟩) ?_
    rintro ⟨x, n⟩ ⟨hx1, hx2⟩
    simp only at hx1 hx2
    dsimp only
    refine WP.seq ?_
    refine WP.reg ?_
    refine WL.e e_lss ?_
    refine WL.next ?_
    refine WP.seq ?_
    refine WP.cond rfl (fun h2 => ?_) (fun h2 => ?_)
    · have hlt : x < (b.take 4).length := by simp at h2; omega
      obtain ⟨c, hc⟩ : ∃ c, (b.take 4)[x]? = some c := ⟨_, List.getElem?_eq_getElem hlt⟩
      refine WP.skip ?_
      refine PO.next ?_
      refine WP.seq ?_
      refine WP.block ?_
      refine WP.seq ?_
      refine WP.reg ?_
      refine WL.e (el_ia sl81 hA4 hlt) ?_
      refine WL.e (el_load0 a5 eB_ok hA4 hc) <| WL.e e_assign ?_
      refine WL.next ?_
      refine WP.reg ?_
      refine WL.e e_move <| WL.e (e_shl32 (m := 8) (by decide)) <| WL.e e_move <| WL.e (e_c8to32 (by rw [Tryz.underlying5]; rfl) Tryz.underlying31) <| WL.e e_or32 <| WL.e e_assign ?_
      refine WL.nil ?_
      refine PO.blockN ?_
      refine PO.next ?_
      refine WP.reg ?_
      refine WL.e (e_add rfl rfl (w_i64 (by omega) (by omega))) <| WL.e e_move ?_
      refine WL.nil ?_
      exact PO.againK (x + 1, (n <<< 8) ||| c.toUInt32) ⟨by simp only; omega, by simp only; rw [take_snoc hc, beN, List.foldl_append, ← beN, ← hx2]; rfl⟩ (by simp only; omega)
    · obtain rfl : n = beN (b.take 4) := by rw [hx2, List.take_of_length_le (by simp at h2; omega)]
      clear hx2
      refine WP.exit ?_
      refine PO.past nofun ?_
      refine PO.round nofun ?_
      refine PO.blockX ?_
      refine PO.next ?_
      refine WP.seq ?_
      refine WP.seq ?_
      refine WP.reg ?_
      refine WL.e e_move <| WL.e (e_gtr32 (b := 16384)) ?_
      refine WL.next ?_
      refine WP.cond rfl (fun h3 => ?_) (fun h3 => ?_)
      · replace h3 : 16384 < (beN (b.take 4)).toNat := by simpa [UInt32.lt_iff_toNat_lt] using h3
        refine WP.seq ?_
        refine WP.reg ?_
        refine WL.e e_assign <| WL.e e_assign <| WL.e e_assign ?_
        refine WL.next ?_
        refine WP.ret ?_
        refine PO.past nofun ?_
        exact PO.fin Tryz.results106 (rv_tmp (rv_tmp (rv_tmp rv_nil))) (hK.1 (by simp [getF, h1, h3]))
      · replace h3 : ¬ 16384 < (beN (b.take 4)).toNat := by simpa [UInt32.lt_iff_toNat_lt] using h3
        obtain ⟨n, hn⟩ : ∃ n, n = (beN (b.take 4)).toNat := ⟨_, rfl⟩
        rw [← hn] at h3
        rw [← hn]
        have hs1 := secs_le n
        have hs2 := secs_ub n
        refine WP.skip ?_
        refine PO.next ?_
        refine WP.seq ?_
        refine WP.reg ?_
        refine WL.e e_move <| WL.e (e_conv (c := (n : Int)) (by rw [Tryz.underlying31]; rfl) Tryz.underlying3 rfl (w_i64 (by omega) (by omega))) <| WL.e (e_add (c := ((8 + n : Nat) : Int)) rfl rfl (by rw [w_i64 (by omega) (by omega)]; omega)) <| WL.e e_assign ?_
        refine WL.next ?_
        refine WP.seq ?_
        refine WP.reg ?_
        refine WL.e e_move <| WL.e (e_conv (c := (n : Int)) (by rw [Tryz.underlying31]; rfl) Tryz.underlying3 rfl (w_i64 (by omega) (by omega))) ?_
        refine WL.h (h_call (sectors_spec n (by omega)) k93 ?_)
        refine WL.e e_assign ?_
        refine WL.next ?_
        refine WP.seq ?_
        refine WP.seq ?_
        refine WP.reg ?_
        refine WL.e e_move <| WL.e (e_mul (c := ((secs n * 64 : Nat) : Int)) rfl rfl (by rw [w_i64 (by omega) (by omega)]; omega)) <| WL.e e_move ?_
        refine WL.e (el_len sl81 hA) <| WL.e e_gtr ?_
        refine WL.next ?_
        refine WP.cond rfl (fun h4 => ?_) (fun h4 => ?_)
        · replace h4 : b.length < secs n * 64 := by simp at h4; omega
          refine WP.seq ?_
          refine WP.reg ?_
          refine WL.e e_assign <| WL.e e_assign <| WL.e e_assign ?_
          refine WL.next ?_
          refine WP.ret ?_
          refine PO.past nofun ?_
          exact PO.fin Tryz.results106 (rv_tmp (rv_tmp (rv_tmp rv_nil))) (hK.1 (by simp [getF, h1, ← hn, h3, h4]))
        · replace h4 : ¬ b.length < secs n * 64 := by simp at h4; omega
          have hA8 : RL A 1 eB (subV u 8 (8 + n) (some (8 + n)) 1) ((b.drop 8).take n) := by have := RL.sub (lo := 8) (hi := 8 + n) (mx := some (8 + n)) eB_ok hA (by omega) (by omega) (by rintro m ⟨⟩; omega); rwa [show 8 + n - 8 = n by omega] at this
          refine WP.skip ?_
          refine PO.next ?_
          refine WP.seq ?_
          refine WP.reg ?_
          refine WL.e e_move <| WL.e e_move <| WL.e e_move ?_
          refine WL.e (el_fromto3 (lo := 8) (hi := 8 + n) sl81 hA (by omega) (by omega)) ?_
          refine WL.h (h_call (CloneB_spec hA8 (by simp; omega)) k104 ?_)
          intro a6 n6 c6
          refine WL.e e_assign ?_
          refine WL.next ?_
          refine WP.seq ?_
          refine WP.reg ?_
          refine WL.e e_move ?_
          refine WL.h (h_call (Put_spec (b := (b.drop 8).take n) sl_rl) k62 ?_)
          refine ⟨fun hx => absurd hx (by simp; omega), fun _ a7 n7 c7 => ?_⟩
          refine WL.e e_move <| WL.e e_extract <| WL.e e_extract <| WL.e e_assign <| WL.e e_assign ?_
          refine WL.next ?_
          refine WP.seq ?_
          refine WP.seq ?_
          refine WP.reg ?_
          refine WL.e e_move <| WL.e e_move <| WL.e e_move <| WL.e (e_mul (c := ((secs n * 64 : Nat) : Int)) rfl rfl (by rw [w_i64 (by omega) (by omega)]; omega)) ?_
          refine WL.e (el_to (hi := secs n * 64) sl81 hA (by omega)) ?_
          refine WL.h (h_call (EqualB_spec (xs := frame ((b.drop 8).take n)) sl_rl (RL.to_ (hi := secs n * 64) eB_ok hA (by omega)) (by rw [frame_len, show ((b.drop 8).take n).length = n by simp; omega]; omega)) k119 ?_)
          refine WL.e e_not ?_
          refine WL.next ?_
          refine WP.cond rfl (fun h5 => ?_) (fun h5 => ?_)
          · skip
            refine WP.seq ?_
            refine WP.reg ?_
            refine WL.e e_assign <| WL.e e_assign <| WL.e e_assign ?_
            refine WL.next ?_
            refine WP.ret ?_
            refine PO.past nofun ?_
            exact PO.fin Tryz.results106 (rv_tmp (rv_tmp (rv_tmp rv_nil))) (hK.1 (by simp at h5; simp [getF, h1, ← hn, h3, h4, h5]))
          · skip
            refine WP.skip ?_
            refine PO.next ?_
            refine WP.seq ?_
            refine WP.reg ?_
            refine WL.e e_move <| WL.e e_move <| WL.e e_assign <| WL.e e_assign <| WL.e e_assign ?_
            refine WL.next ?_
            refine WP.ret ?_
            exact PO.fin Tryz.results106 (rv_tmp (rv_tmp (rv_tmp rv_nil))) (hK.2 ((b.drop 8).take n) (secs n) (by simp at h5; simp [getF, h1, ← hn, h3, h4, h5]) a6 n6 c6)

end Go.SL
