/- W1 SLn M2 W2 SLo: rules and walks, several texts in one. -/
import Derived.Test.YtdpmpcoekkhceaaGreatQD5
import Derived.Test.YtdpmpcoekkhceaaGreatProg
import Derived.KernelRfl
set_option linter.unusedSimpArgs false
set_option linter.unusedVariables false
namespace Go.SL.W1
open Go Go.Proofs Go.SL
theorem a108 : aggOf Tryz.prog 108 = some (some 3) := by kernel_rfl
theorem a22 : aggOf Tryz.prog 22 = some none := by kernel_rfl
theorem a4 : aggOf Tryz.prog 4 = some none := by kernel_rfl
theorem a9 : aggOf Tryz.prog 9 = some none := by kernel_rfl
theorem f108_0 : fldOf Tryz.prog 108 0 = some 0 := by kernel_rfl
theorem f108_1 : fldOf Tryz.prog 108 1 = some 1 := by kernel_rfl
theorem f108_2 : fldOf Tryz.prog 108 2 = some 2 := by kernel_rfl
theorem k100 : callable Tryz.prog 100 = true := by kernel_rfl
theorem k101 : callable Tryz.prog 101 = true := by kernel_rfl
theorem k102 : callable Tryz.prog 102 = true := by kernel_rfl
theorem k85 : callable Tryz.prog 85 = true := by kernel_rfl
theorem k97 : callable Tryz.prog 97 = true := by kernel_rfl
theorem k98 : callable Tryz.prog 98 = true := by kernel_rfl
theorem k99 : callable Tryz.prog 99 = true := by kernel_rfl
theorem mixedOk : Tryz.prog.follows .mixedOrders = true := by kernel_rfl
theorem s108 : szOf Tryz.prog 108 = some 3 := by kernel_rfl
theorem sl103 : slOf Tryz.prog 103 = some (108, 3, 24) := by kernel_rfl
theorem sl114 : slOf Tryz.prog 114 = some (5, 1, 1) := by kernel_rfl
theorem z108 : zeroOf Tryz.prog 108 = some [.string .empty, .int .u32 0, .bool false] := by kernel_rfl
theorem z5 : zeroOf Tryz.prog 5 = some [.int .u8 0] := by kernel_rfl
end Go.SL.W1
namespace Go.SL
open Go Go.Proofs W1
theorem asks_spec {g : World} (b : Bool) (e : Int) : Spec Tryz.prog g 98 [.bool b, .int .i64 e] [] fun K R => K (.int .i64 (if b then 0 else e)) R := by
  refine Spec.intro Tryz.func98 rfl Tryz.ntmps98 rfl fun R K hK => ?_
  refine WP.seq ?_
  refine WP.reg ?_
  refine WL.e e_assign ?_
  refine WL.next ?_
  refine WP.seq ?_
  refine WP.seq ?_
  refine WP.reg ?_
  refine WL.e e_move ?_
  refine WL.next ?_
  refine WP.cond rfl (fun g1 => ?_) (fun g1 => ?_)
  · skip
    refine WP.seq ?_
    refine WP.reg ?_
    refine WL.e e_assign ?_
    refine WL.next ?_
    refine WP.ret ?_
    refine PO.past nofun ?_
    exact PO.finE Tryz.results98 (rv_tmp rv_nil) (by simp_all) hK
  · skip
    refine WP.skip ?_
    refine PO.next ?_
    refine WP.seq ?_
    refine WP.reg ?_
    refine WL.e e_move <| WL.e e_assign ?_
    refine WL.next ?_
    refine WP.ret ?_
    exact PO.finE Tryz.results98 (rv_tmp rv_nil) (by simp_all) hK
theorem may_spec {g : World} (c : ChgM) : Spec Tryz.prog g 97 [c.v] [] fun K R => K (.int .i64 (if chgOk c then 0 else 1)) R := by
  refine Spec.intro Tryz.func97 rfl Tryz.ntmps97 rfl fun R K hK => ?_
  refine WP.seq ?_
  refine WP.reg ?_
  refine WL.h (h_box fun b1 => ?_)
  refine WL.e e_assign ?_
  refine WL.next ?_
  refine WP.seq ?_
  refine WP.reg ?_
  refine WL.e (e_fa f108_0) <| WL.e (e_load a9) ?_
  refine WL.h (h_call (Check_spec _) k85 ?_)
  refine WL.e e_move ?_
  refine WL.bool 6 rfl (fun g1 => ?_) (fun g1 => ?_)
  · skip
    refine WL.e (e_fa f108_2) <| WL.e (e_load a4) <| WL.e e_not <| WL.e e_move ?_
    refine WL.bool 10 rfl (fun g2 => ?_) (fun g2 => ?_)
    · skip
      refine WL.skip <| WL.skip <| WL.skip <| WL.e e_pick_t <| WL.e e_pick_t ?_
      refine WL.h (h_call (asks_spec _ _) k98 ?_)
      refine WL.e e_assign ?_
      refine WL.next ?_
      refine WP.ret ?_
      exact PO.finE Tryz.results97 (rv_tmp rv_nil) (by simp_all [chgOk]) hK
    · skip
      refine WL.e (e_fa f108_1) <| WL.e (e_load a22) <| WL.e (e_eql32 (b := 0)) <| WL.e e_pick_f <| WL.e e_pick_t ?_
      refine WL.h (h_call (asks_spec _ _) k98 ?_)
      refine WL.e e_assign ?_
      refine WL.next ?_
      refine WP.ret ?_
      exact PO.finE Tryz.results97 (rv_tmp rv_nil) (by simp_all [chgOk]) hK
  · skip
    refine WL.skip <| WL.skip <| WL.skip <| WL.skip <| WL.skip <| WL.skip <| WL.skip <| WL.skip <| WL.e e_pick_f ?_
    refine WL.h (h_call (asks_spec _ _) k98 ?_)
    refine WL.e e_assign ?_
    refine WL.next ?_
    refine WP.ret ?_
    exact PO.finE Tryz.results97 (rv_tmp rv_nil) (by simp_all [chgOk]) hK
theorem number_spec {g : World} {u : Value} {xs : List UInt8} (n : UInt32) (k : Nat) (hk : k ≤ 4) (hb : xs.length + k ≤ 68719476736) : Spec Tryz.prog g 101 [u, .int .u32 n.toNat, .int .i64 k] [Sl 5 1 eB u xs] fun K R => ∀ a m c, K (.slice a m c) (Sl 5 1 eB (.slice a m c) (xs ++ numB n k) :: R) := by
  refine Spec.intro Tryz.func101 rfl Tryz.ntmps101 rfl fun R K hK => ?_
  refine WP.seq ?_
  refine WP.reg ?_
  refine WL.e e_assign ?_
  refine WL.next ?_
  refine WP.seq ?_
  refine WP.seq ?_
  refine WP.reg ?_
  refine WL.e e_move <| WL.e (e_sub rfl rfl (w_i64 (by omega) (by omega))) <| WL.e e_assign ?_
  refine WL.next ?_
  refine WP.block ?_
  refine WP.loopK (fun (x : Value × Nat × List UInt8) => [(0, x.1), (7, .int .i64 ((x.2.1 : Int) - 1))]) (fun (x : Value × Nat × List UInt8) => Sl 5 1 eB x.1 x.2.2 :: R) [(1, _), (6, _)] (fun (x : Value × Nat × List UInt8) => x.2.1 ≤ k ∧ x.2.2 ++ numB n x.2.1 = xs ++ numB n k) (fun (x : Value × Nat × List UInt8) => x.2.1) (u, k, xs) (⟨Nat.le_refl _, rfl⟩) ?_
  rintro ⟨u1, j, pre⟩ ⟨hx1, hx2⟩
  simp only at hx1 hx2
  dsimp only
  refine WP.seq ?_
  refine WP.seq ?_
  refine WP.reg ?_
  refine WL.e e_move <| WL.e e_geq ?_
  refine WL.next ?_
  refine WP.cond rfl (fun h => ?_) (fun h => ?_)
  · obtain ⟨m, rfl⟩ : ∃ m, j = m + 1 := ⟨j - 1, by simp at h; omega⟩
    have hpl : pre.length + (m + 1) = xs.length + k := by have := congrArg List.length hx2; simpa [numB_len] using this
    refine WP.skip ?_
    refine PO.next ?_
    refine WP.seq ?_
    refine WP.block ?_
    refine WP.reg ?_
    refine WL.e e_move <| WL.e e_move <| WL.e e_move <| WL.e (e_mul (c := ((8 * m : Nat) : Int)) rfl rfl (by rw [w_i64 (by omega) (by omega)]; omega)) <| WL.e (e_shrN (k := .u32) (m := 8 * m) (by simp [IntKind.bits]; omega)) <| WL.e (e_c8 (by rw [Tryz.underlying22]; rfl) Tryz.underlying5) ?_
    refine WL.h (h_bs sl114 z5 (.o (.tmp 19) rfl <| .n) fun b1 => ?_)
    refine WL.h (hl_append (xs := pre) sl114 eB_ok z5 (lit_rl eB_ok [UInt8.ofNat (n.toNat / 2 ^ (8 * m))] rfl) (by simp; omega) fun a2 n2 c2 => ?_)
    refine WL.e e_assign ?_
    refine WL.nil ?_
    refine PO.blockN ?_
    refine PO.next ?_
    refine WP.reg ?_
    refine WL.e e_move <| WL.e (e_sub (c := (m : Int) - 1) rfl rfl (by rw [w_i64 (by omega) (by omega)]; omega)) <| WL.e e_assign ?_
    refine WL.nil ?_
    exact PO.againK (.slice a2 n2 c2, m, pre ++ [UInt8.ofNat (n.toNat / 2 ^ (8 * m))]) ⟨by simp only; omega, by rw [← hx2]; simp [numB]⟩ (by simp only; omega)
  · obtain rfl : j = 0 := by simp at h; omega
    refine WP.exit ?_
    refine PO.past nofun ?_
    refine PO.round nofun ?_
    refine PO.blockX ?_
    refine PO.next ?_
    refine WP.seq ?_
    refine WP.reg ?_
    refine WL.e e_move <| WL.e e_assign ?_
    refine WL.next ?_
    refine WP.ret ?_
    refine PO.sh (u := u1) ?_
    rintro a1 n1 c1 rfl
    exact PO.fin Tryz.results101 (rv_tmp rv_nil) (by have := hK a1 n1 c1; rw [← hx2] at this; simpa [numB] using this)
theorem text_spec {g : World} {u : Value} {xs : List UInt8} (s : ByteArray) (hb : xs.length + s.size + 1 ≤ 68719476736) : Spec Tryz.prog g 102 [u, .string s] [Sl 5 1 eB u xs] fun K R => ∀ a m c, K (.slice a m c) (Sl 5 1 eB (.slice a m c) (xs ++ textB s) :: R) := by
  refine Spec.intro Tryz.func102 rfl Tryz.ntmps102 rfl fun R K hK => ?_
  refine WP.seq ?_
  refine WP.reg ?_
  refine WL.e e_assign ?_
  refine WL.next ?_
  refine WP.seq ?_
  refine WP.reg ?_
  refine WL.e e_move <| WL.e e_move <| WL.e (e_len_str Tryz.underlying9) <| WL.e (e_c8 (by rw [Tryz.underlying3]; rfl) Tryz.underlying5) ?_
  refine WL.h (h_bs sl114 z5 (.o (.tmp 8) rfl <| .n) fun b1 => ?_)
  refine WL.h (hl_append (xs := xs) sl114 eB_ok z5 (lit_rl eB_ok [UInt8.ofNat s.size] rfl) (by simp; omega) fun a2 n2 c2 => ?_)
  refine WL.e e_move ?_
  refine WL.h (hl_append_s (xs := xs ++ [UInt8.ofNat s.size]) sl114 Tryz.underlying9 z5 (s := s) (by simp; omega) fun a3 n3 c3 => ?_)
  rw [List.append_assoc]
  refine WL.e e_assign ?_
  refine WL.next ?_
  refine WP.ret ?_
  exact PO.fin Tryz.results102 (rv_tmp rv_nil) (hK a3 n3 c3)
theorem chg_spec {g : World} {u : Value} {xs : List UInt8} (c : ChgM) (hb : xs.length + (chgB c).length ≤ 68719476736) : Spec Tryz.prog g 100 [u, c.v] [Sl 5 1 eB u xs] fun K R => ∀ a m k, K (.slice a m k) (Sl 5 1 eB (.slice a m k) (xs ++ chgB c) :: R) := by
  refine Spec.intro Tryz.func100 rfl Tryz.ntmps100 rfl fun R K hK => ?_
  refine WP.seq ?_
  refine WP.reg ?_
  refine WL.h (h_box fun b1 => ?_)
  refine WL.e e_assign ?_
  refine WL.next ?_
  refine WP.seq ?_
  refine WP.reg ?_
  refine WL.e e_assign ?_
  refine WL.next ?_
  refine WP.seq ?_
  refine WP.seq ?_
  refine WP.reg ?_
  refine WL.e (e_fa f108_2) <| WL.e (e_load a4) ?_
  refine WL.next ?_
  refine WP.cond rfl (fun hg => ?_) (fun hg => ?_)
  · skip
    refine WP.reg ?_
    refine WL.e e_assign ?_
    refine WL.next ?_
    refine WP.seq ?_
    refine WP.draws mixedOk 11 ?_
    refine RW.e 0 rfl e_move <| RW.e 1 rfl (e_fa f108_0) <| RW.e 2 rfl (e_load a9) <| RW.e 4 rfl e_move <| RW.e 7 rfl (e_fa f108_1) <| RW.e 8 rfl (e_load a22) ?_
    refine RW.any (is := [3, 5]) rfl ⟨?_, ?_, trivial⟩
    · skip
      refine RWat.h rfl rfl rfl ?_
      refine (h_call (text_spec (xs := xs) c.key (by simp [chgB, textB, bytesOf_len, numB_len] at hb; omega)) k102 ?_)
      intro a2 n2 c2
      refine ⟨⟨⟨_, rfl, .inl ⟨rfl, (e_load a22)⟩⟩, ⟨_, rfl, .inl ⟨rfl, (e_fa f108_1)⟩⟩, ⟨_, rfl, .inl ⟨rfl, e_move⟩⟩, trivial⟩, ?_⟩
      refine RW.any (is := [5]) rfl ⟨?_, trivial⟩
      refine RWat.h rfl rfl rfl ?_
      refine (h_bs sl114 z5 (.o (.tmp 12) rfl <| .n) fun b2 => ?_)
      refine ⟨⟨⟨_, rfl, .inl ⟨rfl, (e_load a22)⟩⟩, ⟨_, rfl, .inl ⟨rfl, (e_fa f108_1)⟩⟩, trivial⟩, ?_⟩
      refine RW.any (is := [6]) rfl ⟨?_, trivial⟩
      refine RWat.h rfl rfl rfl ?_
      refine (hl_append (xs := xs ++ textB c.key) sl114 eB_ok z5 (lit_rl eB_ok [1] rfl) (by simp [chgB, textB, bytesOf_len, numB_len] at hb ⊢; omega) fun a3 n3 c3 => ?_)
      refine ⟨⟨⟨_, rfl, .inl ⟨rfl, (e_load a22)⟩⟩, ⟨_, rfl, .inl ⟨rfl, (e_fa f108_1)⟩⟩, trivial⟩, ?_⟩
      refine RW.any (is := [9]) rfl ⟨?_, trivial⟩
      refine RWat.h rfl rfl rfl ?_
      refine (h_call (number_spec (xs := xs ++ textB c.key ++ [1]) c.val 4 (by decide) (by simp [chgB, textB, bytesOf_len, numB_len] at hb ⊢; omega)) k101 ?_)
      intro a4 n4 c4
      refine ⟨trivial, ?_⟩
      refine RW.e 10 rfl e_assign ?_
      refine RW.done ?_
      refine PO.next ?_
      refine WP.ret ?_
      exact PO.fin Tryz.results100 (rv_tmp rv_nil) (by have := hK a4 n4 c4; rwa [show xs ++ chgB c = xs ++ textB c.key ++ [1] ++ numB c.val 4 by simp [chgB, hg]] at this)
    · skip
      refine RWat.h rfl rfl rfl ?_
      refine (h_bs sl114 z5 (.o (.tmp 12) rfl <| .n) fun b3 => ?_)
      refine ⟨⟨⟨_, rfl, .inl ⟨rfl, (e_load a22)⟩⟩, ⟨_, rfl, .inl ⟨rfl, (e_fa f108_1)⟩⟩, ⟨_, rfl, .inl ⟨rfl, (e_load a9)⟩⟩, ⟨_, rfl, .inl ⟨rfl, (e_fa f108_0)⟩⟩, ⟨_, rfl, .inl ⟨rfl, e_move⟩⟩, trivial⟩, ?_⟩
      refine RW.any (is := [3]) rfl ⟨?_, trivial⟩
      refine RWat.h rfl rfl rfl ?_
      refine (h_call (text_spec (xs := xs) c.key (by simp [chgB, textB, bytesOf_len, numB_len] at hb; omega)) k102 ?_)
      intro a2 n2 c2
      refine ⟨⟨⟨_, rfl, .inl ⟨rfl, (e_load a22)⟩⟩, ⟨_, rfl, .inl ⟨rfl, (e_fa f108_1)⟩⟩, trivial⟩, ?_⟩
      refine RW.any (is := [6]) rfl ⟨?_, trivial⟩
      refine RWat.h rfl rfl rfl ?_
      refine (hl_append (xs := xs ++ textB c.key) sl114 eB_ok z5 (lit_rl eB_ok [1] rfl) (by simp [chgB, textB, bytesOf_len, numB_len] at hb ⊢; omega) fun a3 n3 c3 => ?_)
      refine ⟨⟨⟨_, rfl, .inl ⟨rfl, (e_load a22)⟩⟩, ⟨_, rfl, .inl ⟨rfl, (e_fa f108_1)⟩⟩, trivial⟩, ?_⟩
      refine RW.any (is := [9]) rfl ⟨?_, trivial⟩
      refine RWat.h rfl rfl rfl ?_
      refine (h_call (number_spec (xs := xs ++ textB c.key ++ [1]) c.val 4 (by decide) (by simp [chgB, textB, bytesOf_len, numB_len] at hb ⊢; omega)) k101 ?_)
      intro a4 n4 c4
      refine ⟨trivial, ?_⟩
      refine RW.e 10 rfl e_assign ?_
      refine RW.done ?_
      refine PO.next ?_
      refine WP.ret ?_
      exact PO.fin Tryz.results100 (rv_tmp rv_nil) (by have := hK a4 n4 c4; rwa [show xs ++ chgB c = xs ++ textB c.key ++ [1] ++ numB c.val 4 by simp [chgB, hg]] at this)
  · skip
    refine WP.skip ?_
    refine PO.next ?_
    refine WP.seq ?_
    refine WP.draws mixedOk 11 ?_
    refine RW.e 0 rfl e_move <| RW.e 1 rfl (e_fa f108_0) <| RW.e 2 rfl (e_load a9) <| RW.e 4 rfl e_move <| RW.e 7 rfl (e_fa f108_1) <| RW.e 8 rfl (e_load a22) ?_
    refine RW.any (is := [3, 5]) rfl ⟨?_, ?_, trivial⟩
    · skip
      refine RWat.h rfl rfl rfl ?_
      refine (h_call (text_spec (xs := xs) c.key (by simp [chgB, textB, bytesOf_len, numB_len] at hb; omega)) k102 ?_)
      intro a2 n2 c2
      refine ⟨⟨⟨_, rfl, .inl ⟨rfl, (e_load a22)⟩⟩, ⟨_, rfl, .inl ⟨rfl, (e_fa f108_1)⟩⟩, ⟨_, rfl, .inl ⟨rfl, e_move⟩⟩, trivial⟩, ?_⟩
      refine RW.any (is := [5]) rfl ⟨?_, trivial⟩
      refine RWat.h rfl rfl rfl ?_
      refine (h_bs sl114 z5 (.o (.tmp 12) rfl <| .n) fun b4 => ?_)
      refine ⟨⟨⟨_, rfl, .inl ⟨rfl, (e_load a22)⟩⟩, ⟨_, rfl, .inl ⟨rfl, (e_fa f108_1)⟩⟩, trivial⟩, ?_⟩
      refine RW.any (is := [6]) rfl ⟨?_, trivial⟩
      refine RWat.h rfl rfl rfl ?_
      refine (hl_append (xs := xs ++ textB c.key) sl114 eB_ok z5 (lit_rl eB_ok [0] rfl) (by simp [chgB, textB, bytesOf_len, numB_len] at hb ⊢; omega) fun a3 n3 c3 => ?_)
      refine ⟨⟨⟨_, rfl, .inl ⟨rfl, (e_load a22)⟩⟩, ⟨_, rfl, .inl ⟨rfl, (e_fa f108_1)⟩⟩, trivial⟩, ?_⟩
      refine RW.any (is := [9]) rfl ⟨?_, trivial⟩
      refine RWat.h rfl rfl rfl ?_
      refine (h_call (number_spec (xs := xs ++ textB c.key ++ [0]) c.val 4 (by decide) (by simp [chgB, textB, bytesOf_len, numB_len] at hb ⊢; omega)) k101 ?_)
      intro a4 n4 c4
      refine ⟨trivial, ?_⟩
      refine RW.e 10 rfl e_assign ?_
      refine RW.done ?_
      refine PO.next ?_
      refine WP.ret ?_
      exact PO.fin Tryz.results100 (rv_tmp rv_nil) (by have := hK a4 n4 c4; rwa [show xs ++ chgB c = xs ++ textB c.key ++ [0] ++ numB c.val 4 by simp [chgB, hg]] at this)
    · skip
      refine RWat.h rfl rfl rfl ?_
      refine (h_bs sl114 z5 (.o (.tmp 12) rfl <| .n) fun b5 => ?_)
      refine ⟨⟨⟨_, rfl, .inl ⟨rfl, (e_load a22)⟩⟩, ⟨_, rfl, .inl ⟨rfl, (e_fa f108_1)⟩⟩, ⟨_, rfl, .inl ⟨rfl, (e_load a9)⟩⟩, ⟨_, rfl, .inl ⟨rfl, (e_fa f108_0)⟩⟩, ⟨_, rfl, .inl ⟨rfl, e_move⟩⟩, trivial⟩, ?_⟩
      refine RW.any (is := [3]) rfl ⟨?_, trivial⟩
      refine RWat.h rfl rfl rfl ?_
      refine (h_call (text_spec (xs := xs) c.key (by simp [chgB, textB, bytesOf_len, numB_len] at hb; omega)) k102 ?_)
      intro a2 n2 c2
      refine ⟨⟨⟨_, rfl, .inl ⟨rfl, (e_load a22)⟩⟩, ⟨_, rfl, .inl ⟨rfl, (e_fa f108_1)⟩⟩, trivial⟩, ?_⟩
      refine RW.any (is := [6]) rfl ⟨?_, trivial⟩
      refine RWat.h rfl rfl rfl ?_
      refine (hl_append (xs := xs ++ textB c.key) sl114 eB_ok z5 (lit_rl eB_ok [0] rfl) (by simp [chgB, textB, bytesOf_len, numB_len] at hb ⊢; omega) fun a3 n3 c3 => ?_)
      refine ⟨⟨⟨_, rfl, .inl ⟨rfl, (e_load a22)⟩⟩, ⟨_, rfl, .inl ⟨rfl, (e_fa f108_1)⟩⟩, trivial⟩, ?_⟩
      refine RW.any (is := [9]) rfl ⟨?_, trivial⟩
      refine RWat.h rfl rfl rfl ?_
      refine (h_call (number_spec (xs := xs ++ textB c.key ++ [0]) c.val 4 (by decide) (by simp [chgB, textB, bytesOf_len, numB_len] at hb ⊢; omega)) k101 ?_)
      intro a4 n4 c4
      refine ⟨trivial, ?_⟩
      refine RW.e 10 rfl e_assign ?_
      refine RW.done ?_
      refine PO.next ?_
      refine WP.ret ?_
      exact PO.fin Tryz.results100 (rv_tmp rv_nil) (by have := hK a4 n4 c4; rwa [show xs ++ chgB c = xs ++ textB c.key ++ [0] ++ numB c.val 4 by simp [chgB, hg]] at this)
theorem put_spec {g : World} {A : HP} {u y1 y2 : Value} {l : List ChgM} (hA : RL A 3 ChgM.c u l) (most : Nat) (hl : l.length ≤ 68719476736)
    (h1 : ∀ c, CallV Tryz.prog g y1 [c.v] [] fun K R => K (.int .i64 (if chgOk c then 0 else 1)) R)
    (h2 : ∀ u xs c, xs.length + (chgB c).length ≤ 68719476736 → CallV Tryz.prog g y2 [u, c.v] [Sl 5 1 eB u xs] fun K R => ∀ a m c', K (.slice a m c') (Sl 5 1 eB (.slice a m c') (xs ++ chgB c) :: R))
    (hb : 2 + (l.flatMap chgB).length ≤ 68719476736) :
    Spec Tryz.prog g 99 [u, .int .i64 most, y1, y2] [A] fun K R => (l.all chgOk = false → K (.tuple #[.slice none 0 0, .int .i64 1]) (A :: R)) ∧ (l.all chgOk = true → ¬ l.length ≤ most → K (.tuple #[.slice none 0 0, .int .i64 3]) (A :: R)) ∧
      (l.all chgOk = true → l.length ≤ most → ∀ a m c, K (.tuple #[.slice a m c, .int .i64 0]) (Sl 5 1 eB (.slice a m c) (chgsB l) :: A :: R)) := by
  refine Spec.intro Tryz.func99 rfl Tryz.ntmps99 rfl fun R K hK => ?_
  refine WP.seq ?_
  refine WP.reg ?_
  refine WL.e e_assign <| WL.e e_assign ?_
  refine WL.next ?_
  refine WP.seq ?_
  refine WP.reg ?_
  refine WL.e e_assign ?_
  refine WL.next ?_
  refine WP.seq ?_
  refine WP.seq ?_
  refine WP.reg ?_
  refine WL.e e_move ?_
  refine WL.e (el_len sl103 hA) <| WL.e e_move ?_
  refine WL.next ?_
  refine WP.block ?_
  refine WP.loopK (fun (x : Nat) => [(18, .int .i64 x), (10, .int .i64 0)]) (fun (x : Nat) => A :: R) [(0, _), (1, _), (2, _), (3, _), (16, _), (17, _)] (fun (x : Nat) => x ≤ l.length ∧ (l.take x).all chgOk = true) (fun (x : Nat) => l.length - x) 0 (⟨Nat.zero_le _, by simp⟩) ?_
  rintro x ⟨hx1, hx2⟩
  try dsimp only
  refine WP.seq ?_
  refine WP.reg ?_
  refine WL.e e_lss ?_
  refine WL.next ?_
  refine WP.seq ?_
  refine WP.cond rfl (fun g1 => ?_) (fun g1 => ?_)
  · have hlt : x < l.length := by simp at g1; omega
    obtain ⟨c, hc⟩ : ∃ c, l[x]? = some c := ⟨l[x], List.getElem?_eq_getElem hlt⟩
    refine WP.skip ?_
    refine PO.next ?_
    refine WP.seq ?_
    refine WP.block ?_
    refine WP.seq ?_
    refine WP.reg ?_
    refine WL.e (el_ia sl103 hA hlt) ?_
    refine WL.e (el_loadN a108 chgE hA hc) ?_
    refine WL.h (h_alloc z108 fun b1 => ?_)
    refine WL.h' (h_store s108 ?_)
    refine WL.next ?_
    refine WP.seq ?_
    refine WP.reg ?_
    refine WL.e e_move <| WL.e (e_loadN a108) ?_
    refine WL.h (h_cally (h1 c) ?_)
    refine WL.next ?_
    refine WP.block ?_
    refine WP.seq ?_
    refine WP.reg ?_
    refine WL.e e_eql <| WL.e e_assign ?_
    refine WL.next ?_
    refine WP.cond rfl (fun h => ?_) (fun h => ?_)
    · replace h : chgOk c = false := by cases hq : chgOk c <;> simp_all
      refine WP.seq ?_
      refine WP.reg ?_
      refine WL.e e_assign <| WL.e e_assign ?_
      refine WL.next ?_
      refine WP.ret ?_
      refine PO.blockR ?_
      refine PO.blockR ?_
      refine PO.past nofun ?_
      refine PO.round nofun ?_
      refine PO.blockR ?_
      refine PO.past nofun ?_
      exact PO.fin Tryz.results99 (rv_tmp (rv_tmp rv_nil)) (hK.1 (by rw [Bool.eq_false_iff]; intro e; rw [List.all_eq_true] at e; have := e c (List.mem_of_getElem? hc); rw [h] at this; cases this))
    · replace h : chgOk c = true := by cases hq : chgOk c <;> simp_all
      refine WP.seq ?_
      refine WP.reg ?_
      refine WL.e e_eql <| WL.e e_assign ?_
      refine WL.next ?_
      refine WP.cond rfl (fun h9 => ?_) (fun h9 => ?_)
      · simp [h] at h9
      · skip
        refine WP.skip ?_
        refine PO.blockN ?_
        refine PO.blockN ?_
        refine PO.next ?_
        refine WP.reg ?_
        refine WL.e (e_add rfl rfl (w_i64 (by omega) (by omega))) <| WL.e e_move ?_
        refine WL.nil ?_
        exact PO.againK (x + 1) ⟨by omega, by rw [List.take_add_one, hc]; simp [hx2, h]⟩ (by omega)
  · have hall : l.all chgOk = true := by (rw [List.take_of_length_le (by simp at g1; omega)] at hx2; exact hx2)
    refine WP.exit ?_
    refine PO.past nofun ?_
    refine PO.round nofun ?_
    refine PO.blockX ?_
    refine PO.next ?_
    refine WP.seq ?_
    refine WP.seq ?_
    refine WP.reg ?_
    refine WL.e e_move <| WL.e e_neq <| WL.e e_move ?_
    refine WL.bool 32 rfl (fun h0 => ?_) (fun h0 => ?_)
    · simp at h0 -- end
    · skip
      refine WL.e e_move ?_
      refine WL.e (el_len sl103 hA) <| WL.e e_move <| WL.e e_gtr <| WL.e e_pick_f ?_
      refine WL.next ?_
      refine WP.cond rfl (fun g3 => ?_) (fun g3 => ?_)
      · skip
        refine WP.seq ?_
        refine WP.reg ?_
        refine WL.e e_assign <| WL.e e_assign ?_
        refine WL.next ?_
        refine WP.ret ?_
        refine PO.past nofun ?_
        exact PO.fin Tryz.results99 (rv_tmp (rv_tmp rv_nil)) (hK.2.1 hall (by simp at g3; omega))
      · skip
        refine WP.skip ?_
        refine PO.next ?_
        refine WP.seq ?_
        refine WP.reg ?_
        refine WL.e e_move ?_
        refine WL.e (el_len sl103 hA) <| WL.e (e_conv (by rw [Tryz.underlying3]; rfl) Tryz.underlying22 rfl rfl) ?_
        refine WL.nils 5 1 eB none ?_
        refine WL.h (h_call (number_spec (xs := []) (UInt32.ofNat l.length) 2 (by decide) (by simp)) k101 ?_)
        intro a2 n2 c2
        refine WL.e e_assign ?_
        refine WL.next ?_
        refine WP.seq ?_
        refine WP.seq ?_
        refine WP.reg ?_
        refine WL.e e_move ?_
        refine WL.e (el_len sl103 hA) <| WL.e e_move ?_
        refine WL.next ?_
        refine WP.block ?_
        refine WP.loopK (fun (x : Nat × Value) => [(44, .int .i64 x.1), (13, x.2)]) (fun (x : Nat × Value) => Sl 5 1 eB x.2 (numB (UInt32.ofNat l.length) 2 ++ (l.take x.1).flatMap chgB) :: A :: R) [(3, _), (42, _), (43, _)] (fun (x : Nat × Value) => x.1 ≤ l.length) (fun (x : Nat × Value) => l.length - x.1) (0, .slice a2 n2 c2) (Nat.zero_le _) ?_
        rintro ⟨x, u3⟩ hx1
        simp only at hx1
        dsimp only
        refine WP.seq ?_
        refine WP.reg ?_
        refine WL.e e_lss ?_
        refine WL.next ?_
        refine WP.seq ?_
        refine WP.cond rfl (fun g4 => ?_) (fun g4 => ?_)
        · have hlt : x < l.length := by simp at g4; omega
          obtain ⟨c, hc⟩ : ∃ c, l[x]? = some c := ⟨l[x], List.getElem?_eq_getElem hlt⟩
          refine WP.skip ?_
          refine PO.next ?_
          refine WP.seq ?_
          refine WP.block ?_
          refine WP.seq ?_
          refine WP.reg ?_
          refine WL.e (el_ia sl103 hA hlt) ?_
          refine WL.e (el_loadN a108 chgE hA hc) ?_
          refine WL.h (h_alloc z108 fun b2 => ?_)
          refine WL.h' (h_store s108 ?_)
          refine WL.next ?_
          refine WP.reg ?_
          refine WL.e e_move <| WL.e e_move <| WL.e (e_loadN a108) ?_
          refine WL.h (h_cally (h2 u3 _ c ?_) ?_)
          · have := flat_part chgB hc; simp only [List.length_append, numB_len]; omega
          intro a4 n4 c4
          rw [show numB (UInt32.ofNat l.length) 2 ++ (l.take x).flatMap chgB ++ chgB c = numB (UInt32.ofNat l.length) 2 ++ (l.take (x + 1)).flatMap chgB by rw [List.take_add_one, hc]; simp]
          refine WL.e e_assign ?_
          refine WL.nil ?_
          refine PO.blockN ?_
          refine PO.next ?_
          refine WP.reg ?_
          refine WL.e (e_add rfl rfl (w_i64 (by omega) (by omega))) <| WL.e e_move ?_
          refine WL.nil ?_
          exact PO.againK (x + 1, .slice a4 n4 c4) (by simp only; omega) (by simp only; omega)
        · have hfin : l.take x = l := List.take_of_length_le (by simp at g4; omega)
          rw [hfin]
          refine WP.exit ?_
          refine PO.past nofun ?_
          refine PO.round nofun ?_
          refine PO.blockX ?_
          refine PO.next ?_
          refine WP.seq ?_
          refine WP.reg ?_
          refine WL.e e_move <| WL.e e_assign <| WL.e e_assign ?_
          refine WL.next ?_
          refine WP.ret ?_
          refine PO.sh (u := u3) ?_
          rintro a3 n3 c3 rfl
          exact PO.fin Tryz.results99 (rv_tmp (rv_tmp rv_nil)) (hK.2.2 hall (by simp at g3; omega) a3 n3 c3)
theorem PutChanges_spec {g : World} {A : HP} {u : Value} {l : List ChgM} (hA : RL A 3 ChgM.c u l) (hl : l.length ≤ 68719476736) (hb : 2 + (l.flatMap chgB).length ≤ 68719476736) :
    Spec Tryz.prog g 55 [u] [A] fun K R => (l.all chgOk = false → K (.tuple #[.slice none 0 0, .int .i64 1]) (A :: R)) ∧ (l.all chgOk = true → ¬ l.length ≤ 4096 → K (.tuple #[.slice none 0 0, .int .i64 3]) (A :: R)) ∧
      (l.all chgOk = true → l.length ≤ 4096 → ∀ a m c, K (.tuple #[.slice a m c, .int .i64 0]) (Sl 5 1 eB (.slice a m c) (chgsB l) :: A :: R)) := by
  refine Spec.intro Tryz.func55 rfl Tryz.ntmps55 rfl fun R K hK => ?_
  refine WP.seq ?_
  refine WP.reg ?_
  refine WL.e e_assign <| WL.e e_assign ?_
  refine WL.next ?_
  refine WP.seq ?_
  refine WP.reg ?_
  refine WL.e e_assign ?_
  refine WL.next ?_
  refine WP.seq ?_
  refine WP.reg ?_
  refine WL.e e_move <| WL.e e_move ?_
  refine WL.h (h_call (put_spec hA 4096 hl (fun c => CallV.of_spec (fs := []) (cs := []) (may_spec c) k97) (fun u xs c h => CallV.of_spec (fs := []) (cs := []) (chg_spec c h) k100) hb) k99 ?_)
  refine ⟨fun h1 => ?_, fun h1 h2 => ?_, fun h1 h2 a3 n3 c3 => ?_⟩
  · skip
    refine WL.e e_extract <| WL.e e_extract <| WL.e e_assign <| WL.e e_assign ?_
    refine WL.next ?_
    refine WP.ret ?_
    exact PO.fin Tryz.results55 (rv_tmp (rv_tmp rv_nil)) (hK.1 h1)
  · skip
    refine WL.e e_extract <| WL.e e_extract <| WL.e e_assign <| WL.e e_assign ?_
    refine WL.next ?_
    refine WP.ret ?_
    exact PO.fin Tryz.results55 (rv_tmp (rv_tmp rv_nil)) (hK.2.1 h1 h2)
  · skip
    refine WL.e e_extract <| WL.e e_extract <| WL.e e_assign <| WL.e e_assign ?_
    refine WL.next ?_
    refine WP.ret ?_
    exact PO.fin Tryz.results55 (rv_tmp (rv_tmp rv_nil)) (hK.2.2 h1 h2 a3 n3 c3)
end Go.SL
/- The steps of the walk: bits; blocks as a whole. -/
set_option linter.unusedSimpArgs false
set_option linter.unusedVariables false
set_option linter.unusedSectionVars false
namespace Go.SL
open Go
theorem bv32 (a : UInt32) : BitVec.ofInt IntKind.u32.bits (a.toNat : Int) = a.toBitVec := by
  show BitVec.ofInt 32 _ = _
  apply BitVec.eq_of_toNat_eq; simp
theorem bv8 (a : UInt8) : BitVec.ofInt IntKind.u8.bits (a.toNat : Int) = a.toBitVec := by
  show BitVec.ofInt 8 _ = _
  apply BitVec.eq_of_toNat_eq; simp
theorem back32 (x : BitVec 32) : IntKind.u32.wrap (x.toNat : Int) = ((⟨x⟩ : UInt32).toNat : Int) := by
  rw [wu32]; congr 1; show (UInt32.ofNat x.toNat).toNat = x.toNat; simp
theorem back8 (x : BitVec 8) : IntKind.u8.wrap (x.toNat : Int) = ((⟨x⟩ : UInt8).toNat : Int) := by
  rw [wu8]; congr 1; show (UInt8.ofNat x.toNat).toNat = x.toNat; simp
theorem band32 (a b : UInt32) : bits .and .u32 (a.toNat : Int) (b.toNat : Int) = ((a &&& b).toNat : Int) := by unfold bits; simp only [bv32]; exact back32 _
theorem bor32 (a b : UInt32) : bits .or .u32 (a.toNat : Int) (b.toNat : Int) = ((a ||| b).toNat : Int) := by unfold bits; simp only [bv32]; exact back32 _
theorem bxor32 (a b : UInt32) : bits .xor .u32 (a.toNat : Int) (b.toNat : Int) = ((a ^^^ b).toNat : Int) := by unfold bits; simp only [bv32]; exact back32 _
theorem bxor8 (a b : UInt8) : bits .xor .u8 (a.toNat : Int) (b.toNat : Int) = ((a ^^^ b).toNat : Int) := by unfold bits; simp only [bv8]; exact back8 _
section
variable {P : Program} {r : Option Nat} {g : World} {Γ : Env} {L M : List HP} {Q : Post} {dst : Option Tmp} {t : TypeId} {pos : String} {aft : Array Edge} {gd : Option (Nat × Bool)}
section
variable {xt yt ot : TypeId} {x y : Operand} {a b : UInt32} {p q : UInt8}
theorem e_and32 (hx : ev Γ x = some (.int .u32 a.toNat) := by rfl) (hy : ev Γ y = some (.int .u32 b.toNat) := by rfl) : EO P g ⟨dst, .binOp .and xt x y yt, t, pos, aft, gd⟩ Γ L (.int .u32 (a &&& b).toNat) := e_bits (by simp) hx hy (band32 a b)
theorem e_or32 (hx : ev Γ x = some (.int .u32 a.toNat) := by rfl) (hy : ev Γ y = some (.int .u32 b.toNat) := by rfl) : EO P g ⟨dst, .binOp .or xt x y yt, t, pos, aft, gd⟩ Γ L (.int .u32 (a ||| b).toNat) := e_bits (by simp) hx hy (bor32 a b)
theorem e_xor32 (hx : ev Γ x = some (.int .u32 a.toNat) := by rfl) (hy : ev Γ y = some (.int .u32 b.toNat) := by rfl) : EO P g ⟨dst, .binOp .xor xt x y yt, t, pos, aft, gd⟩ Γ L (.int .u32 (a ^^^ b).toNat) := e_bits (by simp) hx hy (bxor32 a b)
theorem e_xor8 (hx : ev Γ x = some (.int .u8 p.toNat) := by rfl) (hy : ev Γ y = some (.int .u8 q.toNat) := by rfl) : EO P g ⟨dst, .binOp .xor xt x y yt, t, pos, aft, gd⟩ Γ L (.int .u8 (p ^^^ q).toNat) := e_bits (by simp) hx hy (bxor8 p q)
theorem e_not32 (hx : ev Γ x = some (.int .u32 a.toNat) := by rfl) : EO P g ⟨dst, .unOp .xor ot x, t, pos, aft, gd⟩ Γ L (.int .u32 (0xffffffff ^^^ a).toNat) :=
  .of (by simp) fun ρ hρ w _ => by
    have := bxor32 0xffffffff a
    simp only [execOp, hρ x _ (by simp [Op.operands]) hx, Op.unary]
    rw [show (if IntKind.u32.signed = true then (-1 : Int) else IntKind.u32.max) = ((0xffffffff : UInt32).toNat : Int) from rfl, intBits_xor, this]; rfl
theorem e_neg32 (hx : ev Γ x = some (.int .u32 a.toNat) := by rfl) : EO P g ⟨dst, .unOp .neg ot x, t, pos, aft, gd⟩ Γ L (.int .u32 (0 - a).toNat) :=
  .of (by simp) fun ρ hρ w _ => by
    have h : IntKind.u32.wrap (0 - (a.toNat : Int)) = ((0 - a).toNat : Int) := by
      rw [UInt32.toNat_sub]; simp [IntKind.wrap, IntKind.bits, IntKind.signed]; have := a.toNat_lt; omega
    simp only [execOp, hρ x _ (by simp [Op.operands]) hx, Op.unary]
    show ((do pure (Next.value (← Op.intArith .sub .u32 0 a.toNat)) : Sem Next)).run P w = _
    simp only [Op.intArith, h]; rfl
theorem e_shr32 {k' : IntKind} {m : UInt32} (hm : m.toNat < 32) (hx : ev Γ x = some (.int .u32 a.toNat) := by rfl) (hy : ev Γ y = some (.int k' m.toNat) := by rfl) : EO P g ⟨dst, .binOp .shr xt x y yt, t, pos, aft, gd⟩ Γ L (.int .u32 (a >>> m).toNat) :=
  e_shr hx hy (by omega) (by simp [IntKind.bits]; omega) (by rw [UInt32.toNat_shiftRight, Nat.mod_eq_of_lt hm, Nat.shiftRight_eq_div_pow]; simp)
theorem e_shl32 {k' : IntKind} {m : UInt32} (hm : m.toNat < 32) (hx : ev Γ x = some (.int .u32 a.toNat) := by rfl) (hy : ev Γ y = some (.int k' m.toNat) := by rfl) : EO P g ⟨dst, .binOp .shl xt x y yt, t, pos, aft, gd⟩ Γ L (.int .u32 (a <<< m).toNat) :=
  e_shl hx hy (by omega) (by simp [IntKind.bits]; omega) (by
    rw [UInt32.toNat_shiftLeft, Nat.mod_eq_of_lt hm, Nat.shiftLeft_eq]; simp [IntKind.wrap, IntKind.bits, IntKind.signed])
theorem e_c32to8 {s d : TypeId} (hs : (P.underlying s).isSome = true) (hd : P.underlying d = some (.int .u8)) (hx : ev Γ x = some (.int .u32 a.toNat) := by rfl) : EO P g ⟨dst, .convert s d x, t, pos, aft, gd⟩ Γ L (.int .u8 a.toUInt8.toNat) :=
  e_conv hs hd hx (by rw [wu8]; simp)
theorem e_c8to32 {s d : TypeId} (hs : (P.underlying s).isSome = true) (hd : P.underlying d = some (.int .u32)) (hx : ev Γ x = some (.int .u8 p.toNat) := by rfl) : EO P g ⟨dst, .convert s d x, t, pos, aft, gd⟩ Γ L (.int .u32 p.toUInt32.toNat) :=
  e_conv hs hd hx (by rw [wu32]; simp)
end
/-! ### Blocks as a whole -/
theorem ext_all : ∀ (l : List Value), Ext l 0 l.length l
  | [] => .done rfl
  | a :: l => .here rfl rfl (ext_all l)
theorem rv_cellW {p b n : Nat} {u bt : TypeId} {l : List Value} {M : List HP} {rs : List ResultVar} {vs : List Value} (ht : aggOf P u = some (some n)) (hn : l.length = n) (h : RV P g Γ L rs vs) (hx : look Γ.l p = some (.pointer (some ⟨b, 0, none⟩)) := by rfl)
    (hp : Pick L (cl b bt l) M := by repeat first | exact .z | apply Pick.s) : RV P g Γ L (.cell p u :: rs) (.agg l.toArray :: vs) := by
  subst hn; exact rv_cellN ht h hx hp (ext_all l)
theorem e_loadW {x : Operand} {u b n : Nat} {bt : TypeId} {l : List Value} {M : List HP} (ht : aggOf P u = some (some n)) (hn : l.length = n) (hx : ev Γ x = some (.pointer (some ⟨b, 0, none⟩)) := by rfl) (hp : Pick L (cl b bt l) M := by repeat first | exact .z | apply Pick.s) :
    EO P g ⟨dst, .load u x, t, pos, aft, gd⟩ Γ L (.agg l.toArray) := by
  subst hn; exact e_loadN ht hx hp (ext_all l)
theorem spl_all : ∀ (l zs : List Value), zs.length = l.length → Spl l 0 zs zs
  | [], [], _ => .done
  | a :: l, z :: zs, h => .here rfl (spl_all l zs (by simpa using h))
/-- A store over a whole block. -/
theorem h_storeW {T U : TypeId} {x y : Operand} {b n : Nat} {l zs : List Value} {M : List HP} {v : Value} {K : Value → List HP → Prop} (hT : szOf P T = some n) (hn : zs.length = n) (hl : l.length = n) (h1 : ones zs = true) (hK : K (.tuple #[]) M)
    (hx : ev Γ x = some (.pointer (some ⟨b, 0, none⟩)) := by rfl) (hy : ev Γ y = some v := by rfl) (hz : v.cells = zs.toArray := by rfl) (hp : Put L (cl b U l) (cl b U zs) M := by repeat first | exact .z | apply Put.s) :
    HO P r g ⟨dst, .store T x y, t, pos, aft, gd⟩ Γ L K := by
  obtain ⟨R, p1, _⟩ := hp.picks
  exact h_store hT hK hx hy hz p1 (spl_all l zs (by omega)) hp hn h1
/-- A store into one cell of a block, at an open index. -/
theorem h_store1 {T U : TypeId} {x y : Operand} {b o : Nat} {l : List Value} {M : List HP} {v : Value} {K : Value → List HP → Prop} (hT : szOf P T = some 1) (ho : o < l.length) (h1 : v.oneCell' = true) (hK : K (.tuple #[]) M)
    (hx : ev Γ x = some (.pointer (some ⟨b, o, none⟩)) := by rfl) (hy : ev Γ y = some v := by rfl) (hz : v.cells = #[v] := by rfl) (hp : Put L (cl b U l) (cl b U (l.set o v)) M := by repeat first | exact .z | apply Put.s) :
    HO P r g ⟨dst, .store T x y, t, pos, aft, gd⟩ Γ L K :=
  HO.run_skip (by simp) fun a w ha hw => by
    obtain ⟨R, p1, _⟩ := hp.picks
    obtain ⟨w', hr, a1, a2, a3, a4, a5, a6⟩ := run_storeVar (P := P) (T := T) (o := o) (v := v) (zs := [v]) hT hz rfl (hw.get p1) (.inl (by simp; omega)) (by simpa using h1)
    refine ⟨M, w', ?_, hK, hw.set hp w' a1 a2 a3 a4 a5 a6⟩
    simp [execOp, ev_ok hx ha, ev_ok hy ha, Instr.storeAt, Instr.sureAddr, hr]
/-- make, as a list. -/
theorem hl_make {α : Type} {T E z y n : Nat} {xl xc : Operand} {k k' : IntKind} {zs : List Value} {enc : α → List Value} (a : α) {K : Value → List HP → Prop} (hs : slOf P T = some (E, z, y)) (hz : zeroOf P E = some zs) (hb : n ≤ 68719476736) (hK : ∀ a' m c, K (.slice a' m c) (Sl E z enc (.slice a' m c) (List.replicate n a) :: L)) (hzz : zs.length = z := by rfl) (hy : y ≤ 512 := by decide) (ha : enc a = zs := by rfl)
    (hl : ev Γ xl = some (.int k n) := by rfl) (hc : ev Γ xc = some (.int k' n) := by rfl) : HO P r g ⟨dst, .makeSlice T xl xc, t, pos, aft, gd⟩ Γ L K :=
  h_make hs hz hzz hl hc (Nat.le_refl _) hb hy fun a' m c => by
    have := hK a' m c
    unfold Sl at this
    rw [List.length_replicate] at this
    rw [show (List.replicate n zs).flatten = (List.replicate n a).flatMap enc by rw [← ha]; simp [List.flatMap]]
    exact this
/-- One cell of an element that is owned. -/
theorem hl_set {T E y z f j : Nat} {x v : Operand} {u b : Value} {cs : List Value} {n : Nat} {N : List HP} {K : Value → List HP → Prop} (hT : szOf P T = some 1) (hf : f < n * z) (hK : K (.tuple #[]) N) (h1 : b.oneCell' = true) (hx : ev Γ x = some (elA u f) := by rfl) (hv : ev Γ v = some b := by rfl) (hb : b.cells = #[b] := by rfl)
    (hp : Put L (Own E z u n cs) (Own E z u n (splice cs f [b])) N := by repeat first | exact .z | apply Put.s) : HO P r g ⟨dst, .store T x v, t, pos, aft, gd⟩ Γ L K :=
  h_store_own (E := E) (cs := cs) (zs := [b]) hT hx hv hb rfl (by decide) (by simpa [ones] using h1) (n := n) (z := z) (by omega) hp hK
end
end Go.SL
/- What the functions compute, in plain Lean: sums, frames. -/
set_option linter.unusedSimpArgs false
set_option linter.unusedVariables false
set_option linter.unusedSectionVars false
namespace Go.SL
open Go
def crc1 (n : UInt32) : UInt32 := (n >>> 1) ^^^ (3988292384 &&& (0 - (n &&& 1)))
def crcN : Nat → UInt32 → UInt32
  | 0, n => n
  | k + 1, n => crcN k (crc1 n)
def crc8 (n : UInt32) : UInt32 := crcN 8 n
def crcB (n : UInt32) (c : UInt8) : UInt32 := (n >>> 8) ^^^ crc8 (UInt32.ofNat (n.toUInt8 ^^^ c).toNat)
def sumOn (s : UInt32) (b : List UInt8) : UInt32 := if b.length = 0 then s else 0xffffffff ^^^ (b.foldl crcB (0xffffffff ^^^ s))
/-- The table, the first 'x' of it filled. -/
def tblTo (f : UInt32 → UInt32) (x : Nat) : List Value := (List.range 256).map fun i => if i < x then .int .u32 (f (UInt32.ofNat i)).toNat else .int .u32 0
theorem tblTo_len (f : UInt32 → UInt32) (x : Nat) : (tblTo f x).length = 256 := by simp [tblTo]
theorem tblTo_ones (f : UInt32 → UInt32) (x : Nat) : ones (tblTo f x) = true := by
  unfold tblTo
  generalize List.range 256 = l
  induction l with
  | nil => rfl
  | cons a l ih => simp only [List.map_cons, ones, ih, Bool.and_true]; split <;> rfl
theorem tblTo_zero (f : UInt32 → UInt32) : tblTo f 0 = List.replicate 256 (.int .u32 0) := by
  unfold tblTo; simp only [Nat.not_lt_zero, if_false, List.map_const', List.length_range]
theorem tblTo_set (f : UInt32 → UInt32) (x : Nat) (h : x < 256) : (tblTo f x).set x (.int .u32 (f (UInt32.ofNat x)).toNat) = tblTo f (x + 1) := by
  apply List.ext_getElem?
  intro i
  rw [List.getElem?_set]
  simp only [tblTo, List.getElem?_map, List.length_map, List.length_range]
  by_cases e : x = i
  · subst e; simp [h]
  · rw [if_neg e]
    rcases Nat.lt_or_ge i 256 with h' | h'
    · rw [List.getElem?_range h']; simp [show i < x ↔ i < x + 1 by omega]
    · rw [List.getElem?_eq_none (by simpa using h')]; rfl
theorem tblTo_get (f : UInt32 → UInt32) (c : UInt8) : (tblTo f 256)[c.toNat]? = some (.int .u32 (f (UInt32.ofNat c.toNat)).toNat) := by
  have := c.toNat_lt
  simp [tblTo]
  exact ⟨c.toNat, by rw [List.getElem?_range (by omega)], by simp; intro h; omega⟩
attribute [irreducible] tblTo
/-! frames -/
def secs (n : Nat) : Nat := (8 + n + 63) / 64
def frame (b : List UInt8) : List UInt8 := numB (UInt32.ofNat b.length) 4 ++ numB (sumOn (sumOn 0 (numB (UInt32.ofNat b.length) 4)) b) 4 ++ b ++ List.replicate (secs b.length * 64 - 8 - b.length) 0
end Go.SL
set_option linter.unusedSimpArgs false
set_option linter.unusedVariables false
namespace Go.SL.W2
open Go Go.Proofs Go.SL
theorem a22 : aggOf Tryz.prog 22 = some none := by kernel_rfl
theorem a284 : aggOf Tryz.prog 284 = some (some 256) := by kernel_rfl
theorem a5 : aggOf Tryz.prog 5 = some none := by kernel_rfl
theorem ar284 : arrOf Tryz.prog 284 = some (22, 256, 1) := by kernel_rfl
theorem k148 : callable Tryz.prog 148 = true := by kernel_rfl
theorem k181 : callable Tryz.prog 181 = true := by kernel_rfl
theorem k182 : callable Tryz.prog 182 = true := by kernel_rfl
theorem s22 : szOf Tryz.prog 22 = some 1 := by kernel_rfl
theorem s284 : szOf Tryz.prog 284 = some 256 := by kernel_rfl
theorem sl114 : slOf Tryz.prog 114 = some (5, 1, 1) := by kernel_rfl
theorem z284 : zeroOf Tryz.prog 284 = some (List.replicate 256 (.int .u32 0)) := by kernel_rfl
end Go.SL.W2
namespace Go.SL
open Go Go.Proofs W2
theorem step_spec {g : World} (n : UInt32) : Spec Tryz.prog g 182 [.int .u32 n.toNat] [] fun K R => K (.int .u32 (crc8 n).toNat) R := by
  refine Spec.intro Tryz.func182 rfl Tryz.ntmps182 rfl fun R K hK => ?_
  refine WP.seq ?_
  refine WP.reg ?_
  refine WL.e e_assign ?_
  refine WL.next ?_
  refine WP.seq ?_
  refine WP.seq ?_
  refine WP.reg ?_
  refine WL.e e_move ?_
  refine WL.next ?_
  refine WP.block ?_
  refine WP.loopK (fun (x : UInt32 × Nat) => [(0, .int .u32 x.1.toNat), (3, .int .i64 x.2)]) (fun (x : UInt32 × Nat) => R) [(2, _)] (fun (x : UInt32 × Nat) => x.2 ≤ 8 ∧ crcN (8 - x.2) x.1 = crc8 n) (fun (x : UInt32 × Nat) => 8 - x.2) (n, 0) (⟨by omega, rfl⟩) ?_
  rintro ⟨m, i⟩ ⟨hx1, hx2⟩
  simp only at hx1 hx2
  dsimp only
  refine WP.seq ?_
  refine WP.reg ?_
  refine WL.e e_lss ?_
  refine WL.next ?_
  refine WP.seq ?_
  refine WP.cond rfl (fun h => ?_) (fun h => ?_)
  · have hlt : i < 8 := by simp at h; omega
    refine WP.skip ?_
    refine PO.next ?_
    refine WP.seq ?_
    refine WP.block ?_
    refine WP.reg ?_
    refine WL.e e_move <| WL.e (e_shr32 (m := 1) (by decide)) <| WL.e e_move <| WL.e (e_and32 (b := 1)) <| WL.e e_neg32 <| WL.e (e_and32 (a := 3988292384)) <| WL.e e_xor32 <| WL.e e_assign ?_
    refine WL.nil ?_
    refine PO.blockN ?_
    refine PO.next ?_
    refine WP.reg ?_
    refine WL.e (e_add rfl rfl (w_i64 (by omega) (by omega))) <| WL.e e_move ?_
    refine WL.nil ?_
    exact PO.againK (crc1 m, i + 1) ⟨by simp only; omega, by rw [← hx2, show 8 - i = 8 - (i + 1) + 1 by omega]; rfl⟩ (by simp only; omega)
  · obtain rfl : i = 8 := by simp at h; omega
    refine WP.exit ?_
    refine PO.past nofun ?_
    refine PO.round nofun ?_
    refine PO.blockX ?_
    refine PO.next ?_
    refine WP.seq ?_
    refine WP.reg ?_
    refine WL.e e_move <| WL.e e_assign ?_
    refine WL.next ?_
    refine WP.ret ?_
    exact PO.finE Tryz.results182 (rv_tmp rv_nil) (by rw [← hx2]; rfl) hK
theorem table_spec {g : World} {y : Value} {f : UInt32 → UInt32} (hy : ∀ n : UInt32, CallV Tryz.prog g y [.int .u32 n.toNat] [] fun K R => K (.int .u32 (f n).toNat) R) : Spec Tryz.prog g 181 [y] [] fun K R => K (.agg (tblTo f 256).toArray) R := by
  refine Spec.intro Tryz.func181 rfl Tryz.ntmps181 rfl fun R K hK => ?_
  refine WP.seq ?_
  refine WP.reg ?_
  refine WL.h (h_alloc z284 fun b1 => ?_)
  rw [← tblTo_zero f]
  refine WL.next ?_
  refine WP.seq ?_
  refine WP.seq ?_
  refine WP.reg ?_
  refine WL.e e_move ?_
  refine WL.next ?_
  refine WP.block ?_
  refine WP.loopK (fun (x : Nat) => [(4, .int .i64 x)]) (fun (x : Nat) => cl b1 284 (tblTo f x) :: R) [(0, _), (2, _)] (fun (x : Nat) => x ≤ 256) (fun (x : Nat) => 256 - x) 0 (by omega) ?_
  intro x hx1
  refine WP.seq ?_
  refine WP.reg ?_
  refine WL.e e_lss ?_
  refine WL.next ?_
  refine WP.seq ?_
  refine WP.cond rfl (fun h => ?_) (fun h => ?_)
  · have hlt : x < 256 := by simp at h; omega
    refine WP.skip ?_
    refine PO.next ?_
    refine WP.seq ?_
    refine WP.block ?_
    refine WP.seq ?_
    refine WP.reg ?_
    refine WL.e e_move <| WL.e e_assign ?_
    refine WL.next ?_
    refine WP.reg ?_
    refine WL.e e_move <| WL.e e_move <| WL.e e_move <| WL.e (e_c32 (by rw [Tryz.underlying3]; rfl) Tryz.underlying22) ?_
    refine WL.h (h_cally (hy (UInt32.ofNat x)) ?_)
    refine WL.e (e_iaA ar284 hlt) ?_
    refine WL.h' (h_store1 (o := 0 + x * 1) (l := tblTo f x) s22 (by rw [tblTo_len]; omega) rfl ?_)
    rw [show 0 + x * 1 = x by omega, tblTo_set f x hlt]
    refine WL.nil ?_
    refine PO.blockN ?_
    refine PO.next ?_
    refine WP.reg ?_
    refine WL.e (e_add rfl rfl (w_i64 (by omega) (by omega))) <| WL.e e_move ?_
    refine WL.nil ?_
    exact PO.againK (x + 1) (by omega) (by omega)
  · obtain rfl : x = 256 := by simp at h; omega
    refine WP.exit ?_
    refine PO.past nofun ?_
    refine PO.round nofun ?_
    refine PO.blockX ?_
    refine PO.next ?_
    refine WP.seq ?_
    refine WP.reg ?_
    refine WL.e (e_loadW a284 (tblTo_len _ _)) ?_
    refine WL.h' (h_storeW s284 (tblTo_len _ _) (tblTo_len _ _) (tblTo_ones _ _) ?_)
    refine WL.next ?_
    refine WP.ret ?_
    exact PO.fin Tryz.results181 (rv_cellW a284 (tblTo_len _ _) rv_nil) hK
theorem On_spec {g : World} {A : HP} {u : Value} {b : List UInt8} (s : UInt32) (hA : RL A 1 eB u b) (hb : b.length ≤ 68719476736) : Spec Tryz.prog g 148 [.int .u32 s.toNat, u] [A] fun K R => K (.int .u32 (sumOn s b).toNat) (A :: R) := by
  refine Spec.intro Tryz.func148 rfl Tryz.ntmps148 rfl fun R K hK => ?_
  refine WP.seq ?_
  refine WP.reg ?_
  refine WL.e e_assign ?_
  refine WL.next ?_
  refine WP.seq ?_
  refine WP.seq ?_
  refine WP.reg ?_
  refine WL.e e_move ?_
  refine WL.e (el_len sl114 hA) <| WL.e e_eql ?_
  refine WL.next ?_
  refine WP.cond rfl (fun h => ?_) (fun h => ?_)
  · replace h : b.length = 0 := by simpa using h
    refine WP.seq ?_
    refine WP.reg ?_
    refine WL.e e_move <| WL.e e_assign ?_
    refine WL.next ?_
    refine WP.ret ?_
    refine PO.past nofun ?_
    exact PO.finE Tryz.results148 (rv_tmp rv_nil) (by simp [sumOn, h]) hK
  · replace h : b.length ≠ 0 := by rintro e; rw [e] at h; cases h
    refine WP.skip ?_
    refine PO.next ?_
    refine WP.seq ?_
    refine WP.reg ?_
    refine WL.h (h_call (table_spec (f := crc8) fun n => CallV.of_spec (fs := []) (cs := []) (step_spec n) k182) k181 ?_)
    refine WL.h (h_alloc z284 fun b1 => ?_)
    refine WL.h' (h_storeW (l := List.replicate 256 (.int .u32 0)) (zs := tblTo crc8 256) s284 (tblTo_len _ _) List.length_replicate (tblTo_ones _ _) ?_)
    refine WL.next ?_
    refine WP.seq ?_
    refine WP.reg ?_
    refine WL.e e_move <| WL.e e_not32 <| WL.e e_assign ?_
    refine WL.next ?_
    refine WP.seq ?_
    refine WP.seq ?_
    refine WP.reg ?_
    refine WL.e e_move ?_
    refine WL.e (el_len sl114 hA) <| WL.e e_move ?_
    refine WL.next ?_
    refine WP.block ?_
    refine WP.loopK (fun (x : Nat × UInt32) => [(18, .int .i64 x.1), (6, .int .u32 x.2.toNat)]) (fun (x : Nat × UInt32) => cl b1 284 (tblTo crc8 256) :: A :: R) [(4, _), (5, _), (16, _), (17, _)] (fun (x : Nat × UInt32) => x.1 ≤ b.length ∧ x.2 = (b.take x.1).foldl crcB (0xffffffff ^^^ s)) (fun (x : Nat × UInt32) => b.length - x.1) (0, 0xffffffff ^^^ s) (⟨by omega, by simp⟩) ?_
    rintro ⟨x, n⟩ ⟨hx1, hx2⟩
    simp only at hx1 hx2
    dsimp only
    refine WP.seq ?_
    refine WP.reg ?_
    refine WL.e e_lss ?_
    refine WL.next ?_
    refine WP.seq ?_
    refine WP.cond rfl (fun h2 => ?_) (fun h2 => ?_)
    · have hlt : x < b.length := by simp at h2; omega
      obtain ⟨c, hc⟩ : ∃ c, b[x]? = some c := ⟨b[x], List.getElem?_eq_getElem hlt⟩
      refine WP.skip ?_
      refine PO.next ?_
      refine WP.seq ?_
      refine WP.block ?_
      refine WP.seq ?_
      refine WP.reg ?_
      refine WL.e (el_ia sl114 hA hlt) ?_
      refine WL.e (el_load0 a5 eB_ok hA hc) <| WL.e e_assign ?_
      refine WL.next ?_
      refine WP.reg ?_
      refine WL.e e_move <| WL.e (e_shr32 (m := 8) (by decide)) <| WL.e e_move <| WL.e (e_c32to8 (by rw [Tryz.underlying22]; rfl) Tryz.underlying5) <| WL.e e_move <| WL.e e_xor8 ?_
      refine WL.e (e_iaA ar284 (UInt8.toNat_lt _)) <| WL.e (e_load a22 rfl (by exact .z) (by rw [Nat.zero_add, Nat.mul_one]; exact tblTo_get crc8 (n.toUInt8 ^^^ c))) <| WL.e e_xor32 <| WL.e e_assign ?_
      refine WL.nil ?_
      refine PO.blockN ?_
      refine PO.next ?_
      refine WP.reg ?_
      refine WL.e (e_add rfl rfl (w_i64 (by omega) (by omega))) <| WL.e e_move ?_
      refine WL.nil ?_
      exact PO.againK (x + 1, crcB n c) ⟨by simp only; omega, by simp only; rw [take_snoc hc, List.foldl_append, ← hx2]; rfl⟩ (by simp only; omega)
    · have hfin : b.take x = b := List.take_of_length_le (by simp at h2; omega)
      refine WP.exit ?_
      refine PO.past nofun ?_
      refine PO.round nofun ?_
      refine PO.blockX ?_
      refine PO.next ?_
      refine WP.seq ?_
      refine WP.reg ?_
      refine WL.e e_move <| WL.e e_not32 <| WL.e e_assign ?_
      refine WL.next ?_
      refine WP.ret ?_
      exact PO.finE Tryz.results148 (rv_tmp rv_nil) (by simp [sumOn, h, hx2, hfin]) hK
theorem SumOf_spec {g : World} {A : HP} {u : Value} {b : List UInt8} (hA : RL A 1 eB u b) (hb : b.length ≤ 68719476736) : Spec Tryz.prog g 149 [u] [A] fun K R => K (.int .u32 (sumOn 0 b).toNat) (A :: R) := by
  refine Spec.intro Tryz.func149 rfl Tryz.ntmps149 rfl fun R K hK => ?_
  refine WP.seq ?_
  refine WP.reg ?_
  refine WL.e e_assign ?_
  refine WL.next ?_
  refine WP.seq ?_
  refine WP.reg ?_
  refine WL.e e_move ?_
  refine WL.h (h_call (On_spec 0 hA hb) k148 ?_)
  refine WL.e e_assign ?_
  refine WL.next ?_
  refine WP.ret ?_
  exact PO.fin Tryz.results149 (rv_tmp rv_nil) hK
theorem sectors_spec {g : World} (n : Nat) (hn : n ≤ 4294967296) : Spec Tryz.prog g 146 [.int .i64 n] [] fun K R => K (.int .i64 (secs n)) R := by
  refine Spec.intro Tryz.func146 rfl Tryz.ntmps146 rfl fun R K hK => ?_
  refine WP.seq ?_
  refine WP.reg ?_
  refine WL.e e_assign ?_
  refine WL.next ?_
  refine WP.seq ?_
  refine WP.reg ?_
  refine WL.e e_move <| WL.e (e_add (c := ((8 + n : Nat) : Int)) rfl rfl (by rw [w_i64 (by omega) (by omega)]; omega)) <| WL.e (e_add (c := ((8 + n + 64 : Nat) : Int)) rfl rfl (by rw [w_i64 (by omega) (by omega)]; omega)) <| WL.e (e_sub (c := ((8 + n + 63 : Nat) : Int)) rfl rfl (by rw [w_i64 (by omega) (by omega)]; omega)) <| WL.e (e_quo (c := ((secs n : Nat) : Int)) rfl rfl (by decide) (by rw [Int.tdiv_eq_ediv_of_nonneg (by omega), w_i64 (by omega) (by omega)]; unfold secs; omega)) <| WL.e e_assign ?_
  refine WL.next ?_
  refine WP.ret ?_
  exact PO.fin Tryz.results146 (rv_tmp rv_nil) hK
end Go.SL
/- The steps of the walk: copy into a slice that is owned. -/
set_option linter.unusedSimpArgs false
set_option linter.unusedVariables false
set_option linter.unusedSectionVars false
namespace Go.SL
open Go
/-- A slice, as a value. -/
structure SV where
  a : Option Addr
  n : Nat
  c : Nat
@[reducible] def SV.v (s : SV) : Value := .slice s.a s.n s.c
@[reducible] def subS (s : SV) (lo hi z : Nat) : SV := ⟨if s.c = lo then s.a else s.a.map (·.add (lo * z)), hi - lo, s.c - lo⟩
theorem subS_eq (s : SV) (lo hi z : Nat) : (subS s lo hi z).v = subV s.v lo hi none z := rfl
/-- 'ys' laid over 'xs' from 'lo' on, as far as 'xs' goes. -/
def over {α : Type} (xs : List α) (lo : Nat) (ys : List α) : List α := xs.take lo ++ ys.take (xs.length - lo) ++ xs.drop (lo + ys.length)
theorem over_len {α : Type} (xs : List α) (lo : Nat) (ys : List α) (h : lo ≤ xs.length) : (over xs lo ys).length = xs.length := by
  simp [over]; omega
theorem flat_over {α : Type} {z : Nat} {enc : α → List Value} (he : EncOk z enc) (xs ys : List α) (lo : Nat) (h : lo ≤ xs.length) : splice (xs.flatMap enc) (lo * z) ((ys.take (Nat.min ys.length (xs.length - lo))).flatMap enc) = (over xs lo ys).flatMap enc := by
  obtain ⟨m, hm⟩ : ∃ m, Nat.min ys.length (xs.length - lo) = m := ⟨_, rfl⟩
  have hmy : m ≤ ys.length := hm ▸ Nat.min_le_left _ _
  have hmx : m ≤ xs.length - lo := hm ▸ Nat.min_le_right _ _
  have hl : (ys.take m).length = m := by simp; omega
  have h1 : (lo + m) * z ≤ xs.length * z := Nat.mul_le_mul_right _ (by omega)
  rw [Nat.add_mul] at h1
  rw [hm, splice_eq _ _ _ (by rw [flat_len he, flat_len he, hl]; exact h1), flat_len he, hl, flat_take he, ← Nat.add_mul, flat_drop he]
  simp only [over, List.flatMap_append]
  have e1 : ys.take (xs.length - lo) = ys.take m := by
    rcases Nat.le_total ys.length (xs.length - lo) with h' | h'
    · rw [List.take_of_length_le h', List.take_of_length_le (by rw [← hm]; exact Nat.le_of_eq (Nat.min_eq_left h').symm)]
    · rw [← hm]; congr 1; exact (Nat.min_eq_right h').symm
  have e2 : xs.drop (lo + ys.length) = xs.drop (lo + m) := by
    rcases Nat.le_total ys.length (xs.length - lo) with h' | h'
    · congr 2; rw [← hm]; exact (Nat.min_eq_left h').symm
    · have : m = xs.length - lo := hm ▸ Nat.min_eq_right h'
      rw [List.drop_eq_nil_of_le (by omega), List.drop_eq_nil_of_le (by omega)]
  rw [e1, e2]
theorem fold_splice : ∀ (vs : List Value) (cells : Array Value) (off k : Nat), ((vs.zipIdx k).foldl (fun cs (p : Value × Nat) => cs.setIfInBounds (off + p.2) p.1) cells).toList = splice cells.toList (off + k) vs
  | [], cells, off, k => rfl
  | v :: vs, cells, off, k => by
    rw [List.zipIdx_cons, List.foldl_cons, fold_splice vs _ off (k + 1), Array.toList_setIfInBounds]; rfl
theorem fill_step {pl : Nat → Option (Nat × Nat)} {cells : Array Value} {i off z : Nat} {v : Value} {rest : List (Nat × Value)} {vs : List Value} (hp : pl i = some (off, z)) (hv : v.cells = vs.toArray) (hz : vs.length = z) (hle : off + z ≤ cells.size) :
    Instr.fill pl cells ((i, v) :: rest) = Instr.fill pl (splice cells.toList off vs).toArray rest := by
  rw [Instr.fill]
  simp only [hp]
  rw [if_neg (by rw [hv]; simp [hz]; omega)]
  congr 1
  apply Array.ext'
  rw [List.toList_toArray]
  have := fold_splice vs cells off 0
  rw [Nat.add_zero] at this
  rw [← this, hv]
  rw [← Array.foldl_toList]; simp
theorem fill_nil {pl : Nat → Option (Nat × Nat)} {cells : Array Value} : Instr.fill pl cells [] = some cells := rfl
theorem splice_all (l vs : List Value) (h : vs.length = l.length) : splice l 0 vs = vs := by
  rw [splice_eq _ _ _ (by omega)]; simp [h]
theorem tm_any {Γ : Env} : ∀ l, Tm Γ l
  | [] => .n
  | v :: l => .z v (tm_any l)
section
variable {P : Program} {r : Option Nat} {g : World} {Γ : Env} {L M : List HP} {Q : Post} {dst : Option Tmp} {t : TypeId} {pos : String} {aft : Array Edge} {gd : Option (Nat × Bool)}
theorem hl_copy {α : Type} {T T2 E z y lo : Nat} {x xv : Operand} {enc : α → List Value} {u v w' : Value} {xs ys : List α} {B : HP} {N R : List HP} {K : Value → List HP → Prop} (hs : slOf P T = some (E, z, y)) (he : EncOk z enc) (hlo : lo ≤ xs.length) (hB : RL B z enc v ys)
    (hK : K (.int .i64 (Nat.min ys.length (xs.length - lo))) N) (hz0 : 0 < z := by decide) (hu : w' = subV u lo xs.length none z := by rfl) (hx : ev Γ x = some w' := by rfl) (hv : ev Γ xv = some v := by rfl) (p2 : Pick L B R := by repeat first | exact .z | apply Pick.s) (hp : Put L (Sl E z enc u xs) (Sl E z enc u (over xs lo ys)) N := by repeat first | exact .z | apply Put.s) : HO P r g ⟨dst, .call ⟨.builtin .copy, #[x, xv], #[T, T2]⟩, t, pos, aft, gd⟩ Γ L K :=
  HO.run (by simp) fun a w ha hw => by
    subst hu
    obtain ⟨hu, hsz, _⟩ := slOf_und hs
    have hsl : Sl E z enc u (over xs lo ys) = Own E z u xs.length (splice (xs.flatMap enc) (lo * z) ((ys.take (Nat.min ys.length (xs.length - lo))).flatMap enc)) := by
      rw [flat_over he xs ys lo hlo]; unfold Sl; rw [over_len _ _ _ hlo]
    rw [hsl] at hp
    obtain ⟨R', p1, p1'⟩ := hp.picks
    have hown : RdS (heapOf w) z u xs.length (xs.flatMap enc) := hw.rd p1 own_rd
    have hrd := hw.rd p2 hB
    obtain ⟨vs, hv1, hv2⟩ := hrd.readTo (P := P) (m := Nat.min ys.length (xs.length - lo)) (Nat.min_le_left _ _)
    have hshape : ∃ b c, u = .slice b xs.length c ∧ xs.length ≤ c := by
      rcases hown with ⟨h0, _, a', c, rfl⟩ | ⟨b, o, c, l, t, rfl, hn, _⟩
      · exact ⟨a', c, by rw [h0], by omega⟩
      · exact ⟨_, c, rfl, hn⟩
    obtain ⟨b, c, rfl, hnc⟩ := hshape
    have hm : (#[x, xv] : Array Operand).map a.eval = #[subV (.slice b xs.length c) lo xs.length none z, v] := by simp [ev_ok hx ha, ev_ok hv ha]
    rw [flat_take he] at hv2
    rcases Nat.eq_zero_or_pos (Nat.min ys.length (xs.length - lo)) with h0 | h0
    · have hvs : vs = #[] := by
        apply Array.ext'; rw [hv2, h0]; simp
      subst hvs
      refine ⟨_, N, w, ?_, hK, hw.conv fun _ h => p1'.back (by rw [h0]; have := p1.to h; unfold Sl at this; simpa [splice] using this)⟩
      show (do let d ← resolve a.eval ⟨.builtin .copy, #[x, xv], #[T, T2]⟩ t; invoke d.target d.args : Sem Next).run P w = _
      simp only [resolve, hm, Sem.run_bind, Sem.run_pure, Result.andThen_ok, invoke, builtin, Builtin.copy_, subV, List.getElem?_toArray, List.getElem?_cons_zero, List.getElem?_cons_succ, run_underlying hu, hrd.read.1, run_sizeOf hsz, hv1]
      split <;> simp [storeCells, goInt]
    · have hkz : 0 < Nat.min ys.length (xs.length - lo) * z := Nat.mul_pos h0 hz0
      have hle : (lo + Nat.min ys.length (xs.length - lo)) * z ≤ xs.length * z := Nat.mul_le_mul_right _ (by have : Nat.min ys.length (xs.length - lo) ≤ xs.length - lo := Nat.min_le_right _ _; omega)
      rw [Nat.add_mul] at hle
      have hlen : ((ys.take (Nat.min ys.length (xs.length - lo))).flatMap enc).length = Nat.min ys.length (xs.length - lo) * z := by
        rw [flat_len he, List.length_take, Nat.min_eq_left (Nat.min_le_left _ _)]
      obtain ⟨p, w', e, hr, hw'⟩ := own_store (P := P) hw hp (by rw [hlen]; exact hle) (by rw [hlen]; exact hkz) (ones_flat he _)
      refine ⟨_, N, w', ?_, hK, hw'⟩
      have hbase : (if c = lo then b else b.map (·.add (lo * z))) = some p := by
        have : c ≠ lo := by have : Nat.min ys.length (xs.length - lo) ≤ xs.length - lo := Nat.min_le_right _ _; omega
        rw [if_neg this]
        cases b with
        | none => simp [elA] at e
        | some b => simp only [elA, Value.pointer.injEq, Option.some.injEq] at e; simp [e]
      show (do let d ← resolve a.eval ⟨.builtin .copy, #[x, xv], #[T, T2]⟩ t; invoke d.target d.args : Sem Next).run P w = _
      simp only [resolve, hm, Sem.run_bind, Sem.run_pure, Result.andThen_ok, invoke, builtin, Builtin.copy_, subV, List.getElem?_toArray, List.getElem?_cons_zero, List.getElem?_cons_succ, run_underlying hu, hrd.read.1, run_sizeOf hsz, hv1, Option.getD_none, hbase, hv2, hr, goInt]
theorem subV_id {S : Piece} {z n : Nat} {u : Value} {cs : List Value} {E : TypeId} (h : Own E z u n cs S) : subV u 0 n none z = u := by
  rcases h with ⟨rfl, _, a, rfl⟩ | ⟨b, o, c, l, rfl, _⟩
  · simp [subV]
  · simp [subV, add_none]
theorem hl_copy0 {α : Type} {T T2 E z y : Nat} {x xv : Operand} {enc : α → List Value} {u v : Value} {xs ys : List α} {B : HP} {N R : List HP} {K : Value → List HP → Prop} (hs : slOf P T = some (E, z, y)) (he : EncOk z enc) (hB : RL B z enc v ys)
    (hK : K (.int .i64 (Nat.min ys.length xs.length)) N) (hz0 : 0 < z := by decide) (hx : ev Γ x = some u := by rfl) (hv : ev Γ xv = some v := by rfl) (p2 : Pick L B R := by repeat first | exact .z | apply Pick.s) (hp : Put L (Sl E z enc u xs) (Sl E z enc u (over xs 0 ys)) N := by repeat first | exact .z | apply Put.s) : HO P r g ⟨dst, .call ⟨.builtin .copy, #[x, xv], #[T, T2]⟩, t, pos, aft, gd⟩ Γ L K :=
  fun a w Q next ha hw hn => by
    obtain ⟨R', p1, _⟩ := hp.picks
    obtain ⟨S1, S2, _, _, _, h1, _⟩ := p1.to hw.heap
    have e := subV_id h1
    exact hl_copy (lo := 0) (w' := subV u 0 xs.length none z) hs he (Nat.zero_le _) hB hK hz0 rfl (by rw [e]; exact hx) hv p2 hp a w Q next ha hw hn
theorem h_bs0 {α : Type} {T E z y : Nat} {enc : α → List Value} {K : Value → List HP → Prop} (hs : slOf P T = some (E, z, y)) (hK : ∀ a m c, K (.slice a m c) (Sl E z enc (.slice a m c) [] :: L)) : HO P r g ⟨dst, .buildSlice T 0 #[], t, pos, aft, gd⟩ Γ L K :=
  HO.run (by simp) fun a w ha hw => by
    obtain ⟨hu, hsz, _⟩ := slOf_und hs
    refine ⟨.slice (some ⟨w.heap.size, 0, none⟩) 0 0, _, w.alloc (.cells #[] E (0, 0)), ?_, hK _ _ _, (hw.push (.cells #[] E (0, 0))).conv fun S hS => nil_sl (stars_tail hS)⟩
    simp [execOp, Instr.buildSlice, run_underlying hu, run_sizeOf hsz, Instr.fill, newRow]
    congr 2; apply Array.ext'; simp
/-- A struct of a cell and an aggregate. -/
theorem e_build_pair {s : TypeId} {x y : Operand} {zs : List Value} {n : Nat} {u : Value} {l : List Value} (hz : zeroOf P s = some zs) (hpl : placesOf P s = some [(0, 1), (1, n)]) (hl : l.length = n) (hzl : zs.length = n + 1 := by rfl) (hx : ev Γ x = some u := by rfl) (hy : ev Γ y = some (.agg l.toArray) := by rfl) (hu : u.cells = #[u] := by rfl) :
    EO P g ⟨dst, .build s #[(0, x), (1, y)], t, pos, aft, gd⟩ Γ L (.agg (u :: l).toArray) :=
  e_build (ps := [(0, x), (1, y)]) (vs := [(0, u), (1, .agg l.toArray)]) hz hpl (tm_any _) (by simp [evps, hx, hy]) (by
    rw [fill_step (vs := [u]) rfl hu rfl (by simp [hzl]), fill_step (vs := l) rfl rfl hl (by simp [splice_len _ _ _ (show 0 + [u].length ≤ zs.length by simp [hzl]), hzl]; omega), fill_nil]
    cases zs with
    | nil => simp at hzl
    | cons z zs =>
      simp only [splice, List.set_cons_zero]
      rw [show (1 : Nat) = 0 + 1 from rfl, splice_cons, splice_all _ _ (by simp at hzl; omega)])
/-- A slice of one element. -/
theorem h_bs1 {T E z y : Nat} {x : Operand} {zs cs : List Value} {v : Value} {K : Value → List HP → Prop} (hs : slOf P T = some (E, z, y)) (hz : zeroOf P E = some zs) (hcl : cs.length = z) (hK : ∀ b, K (.slice (some ⟨b, 0, none⟩) 1 1) (cl b E cs :: L)) (hx : ev Γ x = some v := by rfl) (hv : v.cells = cs.toArray := by rfl)
    (hzz : zs.length = z := by rfl) (hm : Nat.ble (1 * z) 10000 = true := by rfl) (hm0 : Nat.beq (1 * z) 0 = false := by rfl) : HO P r g ⟨dst, .buildSlice T 1 #[(0, x)], t, pos, aft, gd⟩ Γ L K :=
  h_bs (ps := [(0, x)]) (vs := [(0, v)]) hs hz (tm_any _) hK hm (by simp [evps, hx]) (by
    rw [fill_step (vs := cs) (z := z) (off := 0) (by simp) hv hcl (by simp [hzz]), fill_nil, splice_all _ _ (by simp [hzz, hcl])]) hzz hm0
/-- An array within a slice, as a slice. -/
def slA (u : Value) (k n : Nat) : Value := match u with
  | .slice (some a) _ _ => .slice (some (a.add k)) n n
  | _ => .slice none 0 0
theorem rd_el {A : HP} {z z1 m n k : Nat} {u : Value} {cs : List Value} (h : Rd A z u m cs) (hk : k + n * z1 ≤ m * z) (h0 : 0 < n * z1) : Rd A z1 (slA u k n) n ((cs.drop k).take (n * z1)) := fun S hS => by
  have hr := h S hS
  obtain ⟨b, o, c, l, t, e1, e2, e3, e4, e5, e6⟩ := hr.base (k := k) (by omega)
  subst e2
  refine .inr ⟨b, o + k, n, l, t, by simp [slA, add_none], Nat.le_refl _, e3, by omega, ?_⟩
  rw [e6, List.drop_take, List.drop_drop, List.take_take, Nat.min_eq_left (by omega)]
theorem e_slice_el {T E n z1 z m k : Nat} {x : Operand} {u : Value} {A : HP} {cs : List Value} (hs : arrOf P T = some (E, n, z1)) (hA : Rd A z u m cs) (hk : k < m * z) (hx : ev Γ x = some (elA u k) := by rfl) (hp : Pick L A M := by repeat first | exact .z | apply Pick.s) : EO P g ⟨dst, .slice T x none none none, t, pos, aft, gd⟩ Γ L (slA u k n) := fun ρ w hρ hw => by
  obtain ⟨b, o, c, l, t', h1, h2, _⟩ := (hw.rd hp hA).base hk
  have h := e_slice_arr (P := P) (g := g) (Γ := Γ) (L := L) (dst := dst) (t := t) (pos := pos) (aft := aft) (gd := gd) (x := x) (b := b) (o := o + k) (lo := 0) (hi := n) hs (hx.trans (congrArg some h1)) (.inl ⟨rfl, rfl⟩) (.inl ⟨rfl, rfl⟩) (Nat.zero_le _) (Nat.le_refl _) ρ w hρ hw
  subst h2
  have e : subAt (.slice (some ⟨b, o + k, none⟩) n n) 0 n n z1 = slA (.slice (some ⟨b, o, none⟩) m c) k n := by
    simp [subAt, slA, add_none]
  rw [e] at h; exact h
/-! ### Definitions of pieces -/
theorem WP.opn {c : Code} {A : HP} {X : Type} {B : X → List HP} (hA : ∀ S, A S → ∃ x, stars (B x) S) {R : List HP} (k : ∀ x, WP P r g c Q Γ (B x ++ R)) (hp : Pick L A R := by repeat first | exact .z | apply Pick.s) : WP P r g c Q Γ L := fun a w ha hw => by
  obtain ⟨S1, S2, hd, l1, l2, h1, h2⟩ := hp.to hw.heap
  obtain ⟨x, hx⟩ := hA S1 h1
  exact k x a w ha ⟨hw.os, hw.tape, hw.output, hw.size, stars_append' ⟨S1, S2, hd, l1, l2, hx, h2⟩⟩
theorem WL.opn {ops rest : List Oper} {A : HP} {X : Type} {B : X → List HP} (hA : ∀ S, A S → ∃ x, stars (B x) S) {R : List HP} (k : ∀ x, WL P r g ops rest Q Γ (B x ++ R)) (hp : Pick L A R := by repeat first | exact .z | apply Pick.s) : WL P r g ops rest Q Γ L := fun a w ha hw => by
  obtain ⟨S1, S2, hd, l1, l2, h1, h2⟩ := hp.to hw.heap
  obtain ⟨x, hx⟩ := hA S1 h1
  exact k x a w ha ⟨hw.os, hw.tape, hw.output, hw.size, stars_append' ⟨S1, S2, hd, l1, l2, hx, h2⟩⟩
theorem PO.opn {e : Exit} {A : HP} {X : Type} {B : X → List HP} (hA : ∀ S, A S → ∃ x, stars (B x) S) {R : List HP} (k : ∀ x, PO g Q e Γ (B x ++ R)) (hp : Pick L A R := by repeat first | exact .z | apply Pick.s) : PO g Q e Γ L := fun a w ha hw => by
  obtain ⟨S1, S2, hd, l1, l2, h1, h2⟩ := hp.to hw.heap
  obtain ⟨x, hx⟩ := hA S1 h1
  exact k x a w ha ⟨hw.os, hw.tape, hw.output, hw.size, stars_append' ⟨S1, S2, hd, l1, l2, hx, h2⟩⟩
theorem HO.opn {o : Oper} {K : Value → List HP → Prop} {A : HP} {X : Type} {B : X → List HP} (hA : ∀ S, A S → ∃ x, stars (B x) S) {R : List HP} (k : ∀ x, HO P r g o Γ (B x ++ R) K) (hp : Pick L A R := by repeat first | exact .z | apply Pick.s) : HO P r g o Γ L K := fun a w Q next ha hw hn => by
  obtain ⟨S1, S2, hd, l1, l2, h1, h2⟩ := hp.to hw.heap
  obtain ⟨x, hx⟩ := hA S1 h1
  exact k x a w Q next ha ⟨hw.os, hw.tape, hw.output, hw.size, stars_append' ⟨S1, S2, hd, l1, l2, hx, h2⟩⟩ hn
theorem fold_stars {A : HP} {B R : List HP} (hB : ∀ S, stars B S → A S) (hs : Split L B R) : ∀ S, stars L S → stars (A :: R) S := fun S hS => by
  obtain ⟨S1, S2, hd, l1, l2, h1, h2⟩ := stars_append (hs.to hS)
  exact ⟨S1, S2, hd, l1, l2, hB S1 h1, h2⟩
theorem WP.cls {c : Code} {A : HP} {B R : List HP} (hB : ∀ S, stars B S → A S) (k : WP P r g c Q Γ (A :: R)) (hs : Split L B R := by repeat first | exact .nil | exact Pick.z | apply Pick.s | apply Split.cons) : WP P r g c Q Γ L := WP.conv (fold_stars hB hs) k
theorem WL.cls {ops rest : List Oper} {A : HP} {B R : List HP} (hB : ∀ S, stars B S → A S) (k : WL P r g ops rest Q Γ (A :: R)) (hs : Split L B R := by repeat first | exact .nil | exact Pick.z | apply Pick.s | apply Split.cons) : WL P r g ops rest Q Γ L := WL.conv (fold_stars hB hs) k
theorem PO.cls {e : Exit} {A : HP} {B R : List HP} (hB : ∀ S, stars B S → A S) (k : PO g Q e Γ (A :: R)) (hs : Split L B R := by repeat first | exact .nil | exact Pick.z | apply Pick.s | apply Split.cons) : PO g Q e Γ L := PO.conv (fold_stars hB hs) k
theorem HO.cls {o : Oper} {K : Value → List HP → Prop} {A : HP} {B R : List HP} (hB : ∀ S, stars B S → A S) (k : HO P r g o Γ (A :: R) K) (hs : Split L B R := by repeat first | exact .nil | exact Pick.z | apply Pick.s | apply Split.cons) : HO P r g o Γ L K := HO.conv (fold_stars hB hs) k
end
end Go.SL
