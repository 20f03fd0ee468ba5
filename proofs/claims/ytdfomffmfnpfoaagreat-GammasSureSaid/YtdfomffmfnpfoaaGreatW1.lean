import Derived.Test.YtdfomffmfnpfoaaGreatM1
import Derived.Test.YtdfomffmfnpfoaaGreatProg
import Derived.KernelRfl
set_option linter.unusedSimpArgs false
set_option linter.unusedVariables false
namespace Go.SL.W1
open Go Go.Proofs Go.SL
theorem a103 : aggOf Tryz.prog 103 = some (some 3) := by kernel_rfl
theorem a31 : aggOf Tryz.prog 31 = some none := by kernel_rfl
theorem a4 : aggOf Tryz.prog 4 = some none := by kernel_rfl
theorem a9 : aggOf Tryz.prog 9 = some none := by kernel_rfl
theorem f103_0 : fldOf Tryz.prog 103 0 = some 0 := by kernel_rfl
theorem f103_1 : fldOf Tryz.prog 103 1 = some 1 := by kernel_rfl
theorem f103_2 : fldOf Tryz.prog 103 2 = some 2 := by kernel_rfl
theorem k54 : callable Tryz.prog 54 = true := by kernel_rfl
theorem k55 : callable Tryz.prog 55 = true := by kernel_rfl
theorem k56 : callable Tryz.prog 56 = true := by kernel_rfl
theorem k57 : callable Tryz.prog 57 = true := by kernel_rfl
theorem k58 : callable Tryz.prog 58 = true := by kernel_rfl
theorem k59 : callable Tryz.prog 59 = true := by kernel_rfl
theorem k60 : callable Tryz.prog 60 = true := by kernel_rfl
theorem mixedOk : Tryz.prog.follows .mixedOrders = true := by kernel_rfl
theorem s103 : szOf Tryz.prog 103 = some 3 := by kernel_rfl
theorem sl81 : slOf Tryz.prog 81 = some (5, 1, 1) := by kernel_rfl
theorem sl86 : slOf Tryz.prog 86 = some (103, 3, 24) := by kernel_rfl
theorem z103 : zeroOf Tryz.prog 103 = some [.string .empty, .int .u32 0, .bool false] := by kernel_rfl
theorem z5 : zeroOf Tryz.prog 5 = some [.int .u8 0] := by kernel_rfl
end Go.SL.W1
namespace Go.SL
open Go Go.Proofs W1
theorem asks_spec {g : World} (b : Bool) (e : Int) : Spec Tryz.prog g 55 [.bool b, .int .i64 e] [] fun K R => K (.int .i64 (if b then 0 else e)) R := by
  refine Spec.intro Tryz.func55 rfl Tryz.ntmps55 rfl fun R K hK => ?_
  refine WP.seq ?_
  refine WP.reg ?_
  refine WL.e e_assign ?_
  refine WL.next ?_
  refine WP.seq ?_
  refine WP.seq ?_
  refine WP.reg ?_
  refine WL.e e_move ?_
  refine WL.next ?_
  refine WP.cond rfl (fun g1 => ?_) (fun g1 => ?_)
  · skip
    refine WP.seq ?_
    refine WP.reg ?_
    refine WL.e e_assign ?_
    refine WL.next ?_
    refine WP.ret ?_
    refine PO.past nofun ?_
    exact PO.finE Tryz.results55 (rv_tmp rv_nil) (by simp_all) hK
  · skip
    refine WP.skip ?_
    refine PO.next ?_
    refine WP.seq ?_
    refine WP.reg ?_
    refine WL.e e_move <| WL.e e_assign ?_
    refine WL.next ?_
    refine WP.ret ?_
    exact PO.finE Tryz.results55 (rv_tmp rv_nil) (by simp_all) hK

theorem may_spec {g : World} (c : ChgM) : Spec Tryz.prog g 54 [c.v] [] fun K R => K (.int .i64 (if chgOk c then 0 else 1)) R := by
  refine Spec.intro Tryz.func54 rfl Tryz.ntmps54 rfl fun R K hK => ?_
  refine WP.seq ?_
  refine WP.reg ?_
  refine WL.h (h_box fun b1 => ?_)
  refine WL.e e_assign ?_
  refine WL.next ?_
  refine WP.seq ?_
  refine WP.reg ?_
  refine WL.e (e_fa f103_0) <| WL.e (e_load a9) ?_
  refine WL.h (h_call (Check_spec _) k56 ?_)
  refine WL.e e_move ?_
  refine WL.bool 6 rfl (fun g1 => ?_) (fun g1 => ?_)
  · skip
    refine WL.e (e_fa f103_2) <| WL.e (e_load a4) <| WL.e e_not <| WL.e e_move ?_
    refine WL.bool 10 rfl (fun g2 => ?_) (fun g2 => ?_)
    · skip
      refine WL.skip <| WL.skip <| WL.skip <| WL.e e_pick_t <| WL.e e_pick_t ?_
      refine WL.h (h_call (asks_spec _ _) k55 ?_)
      refine WL.e e_assign ?_
      refine WL.next ?_
      refine WP.ret ?_
      exact PO.finE Tryz.results54 (rv_tmp rv_nil) (by simp_all [chgOk]) hK
    · skip
      refine WL.e (e_fa f103_1) <| WL.e (e_load a31) <| WL.e (e_eql32 (b := 0)) <| WL.e e_pick_f <| WL.e e_pick_t ?_
      refine WL.h (h_call (asks_spec _ _) k55 ?_)
      refine WL.e e_assign ?_
      refine WL.next ?_
      refine WP.ret ?_
      exact PO.finE Tryz.results54 (rv_tmp rv_nil) (by simp_all [chgOk]) hK
  · skip
    refine WL.skip <| WL.skip <| WL.skip <| WL.skip <| WL.skip <| WL.skip <| WL.skip <| WL.skip <| WL.e e_pick_f ?_
    refine WL.h (h_call (asks_spec _ _) k55 ?_)
    refine WL.e e_assign ?_
    refine WL.next ?_
    refine WP.ret ?_
    exact PO.finE Tryz.results54 (rv_tmp rv_nil) (by simp_all [chgOk]) hK

theorem number_spec {g : World} {u : Value} {xs : List UInt8} (n : UInt32) (k : Nat) (hk : k ≤ 4) (hb : xs.length + k ≤ 68719476736) : Spec Tryz.prog g 59 [u, .int .u32 n.toNat, .int .i64 k] [Sl 5 1 eB u xs] fun K R => ∀ a m c, K (.slice a m c) (Sl 5 1 eB (.slice a m c) (xs ++ numB n k) :: R) := by
  refine Spec.intro Tryz.func59 rfl Tryz.ntmps59 rfl fun R K hK => ?_
  refine WP.seq ?_
  refine WP.reg ?_
  refine WL.e e_assign ?_
  refine WL.next ?_
  refine WP.seq ?_
  refine WP.seq ?_
  refine WP.reg ?_
  refine WL.e e_move <| WL.e (e_sub rfl rfl (w_i64 (by omega) (by omega))) <| WL.e e_assign ?_
  refine WL.next ?_
  refine WP.block ?_
  refine WP.loopK (fun (x : Value × Nat × List UInt8) => [(0, x.1), (7, .int .i64 ((x.2.1 : Int) - 1))]) (fun (x : Value × Nat × List UInt8) => Sl 5 1 eB x.1 x.2.2 :: R) [(1, _), (6, _)] (fun (x : Value × Nat × List UInt8) => x.2.1 ≤ k ∧ x.2.2 ++ numB n x.2.1 = xs ++ numB n k) (fun (x : Value × Nat × List UInt8) => x.2.1) (u, k, xs) (⟨Nat.le_refl _, rfl⟩) ?_
  rintro ⟨u1, j, pre⟩ ⟨hx1, hx2⟩
  simp only at hx1 hx2
  dsimp only
  refine WP.seq ?_
  refine WP.seq ?_
  refine WP.reg ?_
  refine WL.e e_move <| WL.e e_geq ?_
  refine WL.next ?_
  refine WP.cond rfl (fun h => ?_) (fun h => ?_)
  · obtain ⟨m, rfl⟩ : ∃ m, j = m + 1 := ⟨j - 1, by simp at h; omega⟩
    have hpl : pre.length + (m + 1) = xs.length + k := by have := congrArg List.length hx2; simpa [numB_len] using this
    refine WP.skip ?_
    refine PO.next ?_
    refine WP.seq ?_
    refine WP.block ?_
    refine WP.reg ?_
    refine WL.e e_move <| WL.e e_move <| WL.e e_move <| WL.e (e_mul (c := ((8 * m : Nat) : Int)) rfl rfl (by rw [w_i64 (by omega) (by omega)]; omega)) <| WL.e (e_shrN (k := .u32) (m := 8 * m) (by simp [IntKind.bits]; omega)) <| WL.e (e_c8 (by rw [Tryz.underlying31]; rfl) Tryz.underlying5) ?_
    refine WL.h (h_bs sl81 z5 (.o (.tmp 19) rfl <| .n) fun b1 => ?_)
    refine WL.h (hl_append (xs := pre) sl81 eB_ok z5 (lit_rl eB_ok [UInt8.ofNat (n.toNat / 2 ^ (8 * m))] rfl) (by simp; omega) fun a2 n2 c2 => ?_)
    refine WL.e e_assign ?_
    refine WL.nil ?_
    refine PO.blockN ?_
    refine PO.next ?_
    refine WP.reg ?_
    refine WL.e e_move <| WL.e (e_sub (c := (m : Int) - 1) rfl rfl (by rw [w_i64 (by omega) (by omega)]; omega)) <| WL.e e_assign ?_
    refine WL.nil ?_
    exact PO.againK (.slice a2 n2 c2, m, pre ++ [UInt8.ofNat (n.toNat / 2 ^ (8 * m))]) ⟨by simp only; omega, by rw [← hx2]; simp [numB]⟩ (by simp only; omega)
  · obtain rfl : j = 0 := by simp at h; omega
    refine WP.exit ?_
    refine PO.past nofun ?_
    refine PO.round nofun ?_
    refine PO.blockX ?_
    refine PO.next ?_
    refine WP.seq ?_
    refine WP.reg ?_
    refine WL.e e_move <| WL.e e_assign ?_
    refine WL.next ?_
    refine WP.ret ?_
    refine PO.sh (u := u1) ?_
    rintro a1 n1 c1 rfl
    exact PO.fin Tryz.results59 (rv_tmp rv_nil) (by have := hK a1 n1 c1; rw [← hx2] at this; simpa [numB] using this)

theorem text_spec {g : World} {u : Value} {xs : List UInt8} (s : ByteArray) (hb : xs.length + s.size + 1 ≤ 68719476736) : Spec Tryz.prog g 60 [u, .string s] [Sl 5 1 eB u xs] fun K R => ∀ a m c, K (.slice a m c) (Sl 5 1 eB (.slice a m c) (xs ++ textB s) :: R) := by
  refine Spec.intro Tryz.func60 rfl Tryz.ntmps60 rfl fun R K hK => ?_
  refine WP.seq ?_
  refine WP.reg ?_
  refine WL.e e_assign ?_
  refine WL.next ?_
  refine WP.seq ?_
  refine WP.reg ?_
  refine WL.e e_move <| WL.e e_move <| WL.e (e_len_str Tryz.underlying9) <| WL.e (e_c8 (by rw [Tryz.underlying3]; rfl) Tryz.underlying5) ?_
  refine WL.h (h_bs sl81 z5 (.o (.tmp 8) rfl <| .n) fun b1 => ?_)
  refine WL.h (hl_append (xs := xs) sl81 eB_ok z5 (lit_rl eB_ok [UInt8.ofNat s.size] rfl) (by simp; omega) fun a2 n2 c2 => ?_)
  refine WL.e e_move ?_
  refine WL.h (hl_append_s (xs := xs ++ [UInt8.ofNat s.size]) sl81 Tryz.underlying9 z5 (s := s) (by simp; omega) fun a3 n3 c3 => ?_)
  rw [List.append_assoc]
  refine WL.e e_assign ?_
  refine WL.next ?_
  refine WP.ret ?_
  exact PO.fin Tryz.results60 (rv_tmp rv_nil) (hK a3 n3 c3)

theorem chg_spec {g : World} {u : Value} {xs : List UInt8} (c : ChgM) (hb : xs.length + (chgB c).length ≤ 68719476736) : Spec Tryz.prog g 58 [u, c.v] [Sl 5 1 eB u xs] fun K R => ∀ a m k, K (.slice a m k) (Sl 5 1 eB (.slice a m k) (xs ++ chgB c) :: R) := by
  refine Spec.intro Tryz.func58 rfl Tryz.ntmps58 rfl fun R K hK => ?_
  refine WP.seq ?_
  refine WP.reg ?_
  refine WL.h (h_box fun b1 => ?_)
  refine WL.e e_assign ?_
  refine WL.next ?_
  refine WP.seq ?_
  refine WP.reg ?_
  refine WL.e e_assign ?_
  refine WL.next ?_
  refine WP.seq ?_
  refine WP.seq ?_
  refine WP.reg ?_
  refine WL.e (e_fa f103_2) <| WL.e (e_load a4) ?_
  refine WL.next ?_
  refine WP.cond rfl (fun hg => ?_) (fun hg => ?_)
  · skip
    refine WP.reg ?_
    refine WL.e e_assign ?_
    refine WL.next ?_
    refine WP.seq ?_
    refine WP.draws mixedOk 11 ?_
    refine RW.e 0 rfl e_move <| RW.e 1 rfl (e_fa f103_0) <| RW.e 2 rfl (e_load a9) <| RW.e 4 rfl e_move <| RW.e 7 rfl (e_fa f103_1) <| RW.e 8 rfl (e_load a31) ?_
    refine RW.any (is := [3, 5]) rfl ⟨?_, ?_, trivial⟩
    · skip
      refine RWat.h rfl rfl rfl ?_
      refine (h_call (text_spec (xs := xs) c.key (by simp [chgB, textB, bytesOf_len, numB_len] at hb; omega)) k60 ?_)
      intro a2 n2 c2
      refine ⟨⟨⟨_, rfl, .inl ⟨rfl, (e_load a31)⟩⟩, ⟨_, rfl, .inl ⟨rfl, (e_fa f103_1)⟩⟩, ⟨_, rfl, .inl ⟨rfl, e_move⟩⟩, trivial⟩, ?_⟩
      refine RW.any (is := [5]) rfl ⟨?_, trivial⟩
      refine RWat.h rfl rfl rfl ?_
      refine (h_bs sl81 z5 (.o (.tmp 12) rfl <| .n) fun b2 => ?_)
      refine ⟨⟨⟨_, rfl, .inl ⟨rfl, (e_load a31)⟩⟩, ⟨_, rfl, .inl ⟨rfl, (e_fa f103_1)⟩⟩, trivial⟩, ?_⟩
      refine RW.any (is := [6]) rfl ⟨?_, trivial⟩
      refine RWat.h rfl rfl rfl ?_
      refine (hl_append (xs := xs ++ textB c.key) sl81 eB_ok z5 (lit_rl eB_ok [1] rfl) (by simp [chgB, textB, bytesOf_len, numB_len] at hb ⊢; omega) fun a3 n3 c3 => ?_)
      refine ⟨⟨⟨_, rfl, .inl ⟨rfl, (e_load a31)⟩⟩, ⟨_, rfl, .inl ⟨rfl, (e_fa f103_1)⟩⟩, trivial⟩, ?_⟩
      refine RW.any (is := [9]) rfl ⟨?_, trivial⟩
      refine RWat.h rfl rfl rfl ?_
      refine (h_call (number_spec (xs := xs ++ textB c.key ++ [1]) c.val 4 (by decide) (by simp [chgB, textB, bytesOf_len, numB_len] at hb ⊢; omega)) k59 ?_)
      intro a4 n4 c4
      refine ⟨trivial, ?_⟩
      refine RW.e 10 rfl e_assign ?_
      refine RW.done ?_
      refine PO.next ?_
      refine WP.ret ?_
      exact PO.fin Tryz.results58 (rv_tmp rv_nil) (by have := hK a4 n4 c4; rwa [show xs ++ chgB c = xs ++ textB c.key ++ [1] ++ numB c.val 4 by simp [chgB, hg]] at this)
    · skip
      refine RWat.h rfl rfl rfl ?_
      refine (h_bs sl81 z5 (.o (.tmp 12) rfl <| .n) fun b3 => ?_)
      refine ⟨⟨⟨_, rfl, .inl ⟨rfl, (e_load a31)⟩⟩, ⟨_, rfl, .inl ⟨rfl, (e_fa f103_1)⟩⟩, ⟨_, rfl, .inl ⟨rfl, (e_load a9)⟩⟩, ⟨_, rfl, .inl ⟨rfl, (e_fa f103_0)⟩⟩, ⟨_, rfl, .inl ⟨rfl, e_move⟩⟩, trivial⟩, ?_⟩
      refine RW.any (is := [3]) rfl ⟨?_, trivial⟩
      refine RWat.h rfl rfl rfl ?_
      refine (h_call (text_spec (xs := xs) c.key (by simp [chgB, textB, bytesOf_len, numB_len] at hb; omega)) k60 ?_)
      intro a2 n2 c2
      refine ⟨⟨⟨_, rfl, .inl ⟨rfl, (e_load a31)⟩⟩, ⟨_, rfl, .inl ⟨rfl, (e_fa f103_1)⟩⟩, trivial⟩, ?_⟩
      refine RW.any (is := [6]) rfl ⟨?_, trivial⟩
      refine RWat.h rfl rfl rfl ?_
      refine (hl_append (xs := xs ++ textB c.key) sl81 eB_ok z5 (lit_rl eB_ok [1] rfl) (by simp [chgB, textB, bytesOf_len, numB_len] at hb ⊢; omega) fun a3 n3 c3 => ?_)
      refine ⟨⟨⟨_, rfl, .inl ⟨rfl, (e_load a31)⟩⟩, ⟨_, rfl, .inl ⟨rfl, (e_fa f103_1)⟩⟩, trivial⟩, ?_⟩
      refine RW.any (is := [9]) rfl ⟨?_, trivial⟩
      refine RWat.h rfl rfl rfl ?_
      refine (h_call (number_spec (xs := xs ++ textB c.key ++ [1]) c.val 4 (by decide) (by simp [chgB, textB, bytesOf_len, numB_len] at hb ⊢; omega)) k59 ?_)
      intro a4 n4 c4
      refine ⟨trivial, ?_⟩
      refine RW.e 10 rfl e_assign ?_
      refine RW.done ?_
      refine PO.next ?_
      refine WP.ret ?_
      exact PO.fin Tryz.results58 (rv_tmp rv_nil) (by have := hK a4 n4 c4; rwa [show xs ++ chgB c = xs ++ textB c.key ++ [1] ++ numB c.val 4 by simp [chgB, hg]] at this)
  · skip
    refine WP.skip ?_
    refine PO.next ?_
    refine WP.seq ?_
    refine WP.draws mixedOk 11 ?_
    refine RW.e 0 rfl e_move <| RW.e 1 rfl (e_fa f103_0) <| RW.e 2 rfl (e_load a9) <| RW.e 4 rfl e_move <| RW.e 7 rfl (e_fa f103_1) <| RW.e 8 rfl (e_load a31) ?_
    refine RW.any (is := [3, 5]) rfl ⟨?_, ?_, trivial⟩
    · skip
      refine RWat.h rfl rfl rfl ?_
      refine (h_call (text_spec (xs := xs) c.key (by simp [chgB, textB, bytesOf_len, numB_len] at hb; omega)) k60 ?_)
      intro a2 n2 c2
      refine ⟨⟨⟨_, rfl, .inl ⟨rfl, (e_load a31)⟩⟩, ⟨_, rfl, .inl ⟨rfl, (e_fa f103_1)⟩⟩, ⟨_, rfl, .inl ⟨rfl, e_move⟩⟩, trivial⟩, ?_⟩
      refine RW.any (is := [5]) rfl ⟨?_, trivial⟩
      refine RWat.h rfl rfl rfl ?_
      refine (h_bs sl81 z5 (.o (.tmp 12) rfl <| .n) fun b4 => ?_)
      refine ⟨⟨⟨_, rfl, .inl ⟨rfl, (e_load a31)⟩⟩, ⟨_, rfl, .inl ⟨rfl, (e_fa f103_1)⟩⟩, trivial⟩, ?_⟩
      refine RW.any (is := [6]) rfl ⟨?_, trivial⟩
      refine RWat.h rfl rfl rfl ?_
      refine (hl_append (xs := xs ++ textB c.key) sl81 eB_ok z5 (lit_rl eB_ok [0] rfl) (by simp [chgB, textB, bytesOf_len, numB_len] at hb ⊢; omega) fun a3 n3 c3 => ?_)
      refine ⟨⟨⟨_, rfl, .inl ⟨rfl, (e_load a31)⟩⟩, ⟨_, rfl, .inl ⟨rfl, (e_fa f103_1)⟩⟩, trivial⟩, ?_⟩
      refine RW.any (is := [9]) rfl ⟨?_, trivial⟩
      refine RWat.h rfl rfl rfl ?_
      refine (h_call (number_spec (xs := xs ++ textB c.key ++ [0]) c.val 4 (by decide) (by simp [chgB, textB, bytesOf_len, numB_len] at hb ⊢; omega)) k59 ?_)
      intro a4 n4 c4
      refine ⟨trivial, ?_⟩
      refine RW.e 10 rfl e_assign ?_
      refine RW.done ?_
      refine PO.next ?_
      refine WP.ret ?_
      exact PO.fin Tryz.results58 (rv_tmp rv_nil) (by have := hK a4 n4 c4; rwa [show xs ++ chgB c = xs ++ textB c.key ++ [0] ++ numB c.val 4 by simp [chgB, hg]] at this)
    · skip
      refine RWat.h rfl rfl rfl ?_
      refine (h_bs sl81 z5 (.o (.tmp 12) rfl <| .n) fun b5 => ?_)
      refine ⟨⟨⟨_, rfl, .inl ⟨rfl, (e_load a31)⟩⟩, ⟨_, rfl, .inl ⟨rfl, (e_fa f103_1)⟩⟩, ⟨_, rfl, .inl ⟨rfl, (e_load a9)⟩⟩, ⟨_, rfl, .inl ⟨rfl, (e_fa f103_0)⟩⟩, ⟨_, rfl, .inl ⟨rfl, e_move⟩⟩, trivial⟩, ?_⟩
      refine RW.any (is := [3]) rfl ⟨?_, trivial⟩
      refine RWat.h rfl rfl rfl ?_
      refine (h_call (text_spec (xs := xs) c.key (by simp [chgB, textB, bytesOf_len, numB_len] at hb; omega)) k60 ?_)
      intro a2 n2 c2
      refine ⟨⟨⟨_, rfl, .inl ⟨rfl, (e_load a31)⟩⟩, ⟨_, rfl, .inl ⟨rfl, (e_fa f103_1)⟩⟩, trivial⟩, ?_⟩
      refine RW.any (is := [6]) rfl ⟨?_, trivial⟩
      refine RWat.h rfl rfl rfl ?_
      refine (hl_append (xs := xs ++ textB c.key) sl81 eB_ok z5 (lit_rl eB_ok [0] rfl) (by simp [chgB, textB, bytesOf_len, numB_len] at hb ⊢; omega) fun a3 n3 c3 => ?_)
      refine ⟨⟨⟨_, rfl, .inl ⟨rfl, (e_load a31)⟩⟩, ⟨_, rfl, .inl ⟨rfl, (e_fa f103_1)⟩⟩, trivial⟩, ?_⟩
      refine RW.any (is := [9]) rfl ⟨?_, trivial⟩
      refine RWat.h rfl rfl rfl ?_
      refine (h_call (number_spec (xs := xs ++ textB c.key ++ [0]) c.val 4 (by decide) (by simp [chgB, textB, bytesOf_len, numB_len] at hb ⊢; omega)) k59 ?_)
      intro a4 n4 c4
      refine ⟨trivial, ?_⟩
      refine RW.e 10 rfl e_assign ?_
      refine RW.done ?_
      refine PO.next ?_
      refine WP.ret ?_
      exact PO.fin Tryz.results58 (rv_tmp rv_nil) (by have := hK a4 n4 c4; rwa [show xs ++ chgB c = xs ++ textB c.key ++ [0] ++ numB c.val 4 by simp [chgB, hg]] at this)

theorem put_spec {g : World} {A : HP} {u y1 y2 : Value} {l : List ChgM} (hA : RL A 3 ChgM.c u l) (most : Nat) (hl : l.length ≤ 68719476736)
    (h1 : ∀ c, CallV Tryz.prog g y1 [c.v] [] fun K R => K (.int .i64 (if chgOk c then 0 else 1)) R)
    (h2 : ∀ u xs c, xs.length + (chgB c).length ≤ 68719476736 → CallV Tryz.prog g y2 [u, c.v] [Sl 5 1 eB u xs] fun K R => ∀ a m c', K (.slice a m c') (Sl 5 1 eB (.slice a m c') (xs ++ chgB c) :: R))
    (hb : 2 + (l.flatMap chgB).length ≤ 68719476736) :
    Spec Tryz.prog g 57 [u, .int .i64 most, y1, y2] [A] fun K R => (l.all chgOk = false → K (.tuple #[.slice none 0 0, .int .i64 1]) (A :: R)) ∧ (l.all chgOk = true → ¬ l.length ≤ most → K (.tuple #[.slice none 0 0, .int .i64 3]) (A :: R)) ∧
      (l.all chgOk = true → l.length ≤ most → ∀ a m c, K (.tuple #[.slice a m c, .int .i64 0]) (Sl 5 1 eB (.slice a m c) (chgsB l) :: A :: R)) := by
  refine Spec.intro Tryz.func57 rfl Tryz.ntmps57 rfl fun R K hK => ?_
  refine WP.seq ?_
  refine WP.reg ?_
  refine WL.e e_assign <| WL.e e_assign ?_
  refine WL.next ?_
  refine WP.seq ?_
  refine WP.reg ?_
  refine WL.e e_assign ?_
  refine WL.next ?_
  refine WP.seq ?_
  refine WP.seq ?_
  refine WP.reg ?_
  refine WL.e e_move ?_
  refine WL.e (el_len sl86 hA) <| WL.e e_move ?_
  refine WL.next ?_
  refine WP.block ?_
  refine WP.loopK (fun (x : Nat) => [(18, .int .i64 x), (10, .int .i64 0)]) (fun (x : Nat) => A :: R) [(0, _), (1, _), (2, _), (3, _), (16, _), (17, _)] (fun (x : Nat) => x ≤ l.length ∧ (l.take x).all chgOk = true) (fun (x : Nat) => l.length - x) 0 (⟨Nat.zero_le _, by simp⟩) ?_
  rintro x ⟨hx1, hx2⟩
  try dsimp only
  refine WP.seq ?_
  refine WP.reg ?_
  refine WL.e e_lss ?_
  refine WL.next ?_
  refine WP.seq ?_
  refine WP.cond rfl (fun g1 => ?_) (fun g1 => ?_)
  · have hlt : x < l.length := by simp at g1; omega
    obtain ⟨c, hc⟩ : ∃ c, l[x]? = some c := ⟨l[x], List.getElem?_eq_getElem hlt⟩
    refine WP.skip ?_
    refine PO.next ?_
    refine WP.seq ?_
    refine WP.block ?_
    refine WP.seq ?_
    refine WP.reg ?_
    refine WL.e (el_ia sl86 hA hlt) ?_
    refine WL.e (el_loadN a103 chgE hA hc) ?_
    refine WL.h (h_alloc z103 fun b1 => ?_)
    refine WL.h' (h_store s103 ?_)
    refine WL.next ?_
    refine WP.seq ?_
    refine WP.reg ?_
    refine WL.e e_move <| WL.e (e_loadN a103) ?_
    refine WL.h (h_cally (h1 c) ?_)
    refine WL.next ?_
    refine WP.block ?_
    refine WP.seq ?_
    refine WP.reg ?_
    refine WL.e e_eql <| WL.e e_assign ?_
    refine WL.next ?_
    refine WP.cond rfl (fun h => ?_) (fun h => ?_)
    · replace h : chgOk c = false := by cases hq : chgOk c <;> simp_all
      refine WP.seq ?_
      refine WP.reg ?_
      refine WL.e e_assign <| WL.e e_assign ?_
      refine WL.next ?_
      refine WP.ret ?_
      refine PO.blockR ?_
      refine PO.blockR ?_
      refine PO.past nofun ?_
      refine PO.round nofun ?_
      refine PO.blockR ?_
      refine PO.past nofun ?_
      exact PO.fin Tryz.results57 (rv_tmp (rv_tmp rv_nil)) (hK.1 (by rw [Bool.eq_false_iff]; intro e; rw [List.all_eq_true] at e; have := e c (List.mem_of_getElem? hc); rw [h] at this; cases this))
    · replace h : chgOk c = true := by cases hq : chgOk c <;> simp_all
      refine WP.seq ?_
      refine WP.reg ?_
      refine WL.e e_eql <| WL.e e_assign ?_
      refine WL.next ?_
      refine WP.cond rfl (fun h9 => ?_) (fun h9 => ?_)
      · simp [h] at h9
      · skip
        refine WP.skip ?_
        refine PO.blockN ?_
        refine PO.blockN ?_
        refine PO.next ?_
        refine WP.reg ?_
        refine WL.e (e_add rfl rfl (w_i64 (by omega) (by omega))) <| WL.e e_move ?_
        refine WL.nil ?_
        exact PO.againK (x + 1) ⟨by omega, by rw [List.take_add_one, hc]; simp [hx2, h]⟩ (by omega)
  · have hall : l.all chgOk = true := by (rw [List.take_of_length_le (by simp at g1; omega)] at hx2; exact hx2)
    refine WP.exit ?_
    refine PO.past nofun ?_
    refine PO.round nofun ?_
    refine PO.blockX ?_
    refine PO.next ?_
    refine WP.seq ?_
    refine WP.seq ?_
    refine WP.reg ?_
    refine WL.e e_move <| WL.e e_neq <| WL.e e_move ?_
    refine WL.bool 32 rfl (fun h0 => ?_) (fun h0 => ?_)
    · simp at h0 -- end
    · skip
      refine WL.e e_move ?_
      refine WL.e (el_len sl86 hA) <| WL.e e_move <| WL.e e_gtr <| WL.e e_pick_f ?_
      refine WL.next ?_
      refine WP.cond rfl (fun g3 => ?_) (fun g3 => ?_)
      · skip
        refine WP.seq ?_
        refine WP.reg ?_
        refine WL.e e_assign <| WL.e e_assign ?_
        refine WL.next ?_
        refine WP.ret ?_
        refine PO.past nofun ?_
        exact PO.fin Tryz.results57 (rv_tmp (rv_tmp rv_nil)) (hK.2.1 hall (by simp at g3; omega))
      · skip
        refine WP.skip ?_
        refine PO.next ?_
        refine WP.seq ?_
        refine WP.reg ?_
        refine WL.e e_move ?_
        refine WL.e (el_len sl86 hA) <| WL.e (e_conv (by rw [Tryz.underlying3]; rfl) Tryz.underlying31 rfl rfl) ?_
        refine WL.nils 5 1 eB none ?_
        refine WL.h (h_call (number_spec (xs := []) (UInt32.ofNat l.length) 2 (by decide) (by simp)) k59 ?_)
        intro a2 n2 c2
        refine WL.e e_assign ?_
        refine WL.next ?_
        refine WP.seq ?_
        refine WP.seq ?_
        refine WP.reg ?_
        refine WL.e e_move ?_
        refine WL.e (el_len sl86 hA) <| WL.e e_move ?_
        refine WL.next ?_
        refine WP.block ?_
        refine WP.loopK (fun (x : Nat × Value) => [(44, .int .i64 x.1), (13, x.2)]) (fun (x : Nat × Value) => Sl 5 1 eB x.2 (numB (UInt32.ofNat l.length) 2 ++ (l.take x.1).flatMap chgB) :: A :: R) [(3, _), (42, _), (43, _)] (fun (x : Nat × Value) => x.1 ≤ l.length) (fun (x : Nat × Value) => l.length - x.1) (0, .slice a2 n2 c2) (Nat.zero_le _) ?_
        rintro ⟨x, u3⟩ hx1
        simp only at hx1
        dsimp only
        refine WP.seq ?_
        refine WP.reg ?_
        refine WL.e e_lss ?_
        refine WL.next ?_
        refine WP.seq ?_
        refine WP.cond rfl (fun g4 => ?_) (fun g4 => ?_)
        · have hlt : x < l.length := by simp at g4; omega
          obtain ⟨c, hc⟩ : ∃ c, l[x]? = some c := ⟨l[x], List.getElem?_eq_getElem hlt⟩
          refine WP.skip ?_
          refine PO.next ?_
          refine WP.seq ?_
          refine WP.block ?_
          refine WP.seq ?_
          refine WP.reg ?_
          refine WL.e (el_ia sl86 hA hlt) ?_
          refine WL.e (el_loadN a103 chgE hA hc) ?_
          refine WL.h (h_alloc z103 fun b2 => ?_)
          refine WL.h' (h_store s103 ?_)
          refine WL.next ?_
          refine WP.reg ?_
          refine WL.e e_move <| WL.e e_move <| WL.e (e_loadN a103) ?_
          refine WL.h (h_cally (h2 u3 _ c ?_) ?_)
          · have := flat_part chgB hc; simp only [List.length_append, numB_len]; omega
          intro a4 n4 c4
          rw [show numB (UInt32.ofNat l.length) 2 ++ (l.take x).flatMap chgB ++ chgB c = numB (UInt32.ofNat l.length) 2 ++ (l.take (x + 1)).flatMap chgB by rw [List.take_add_one, hc]; simp]
          refine WL.e e_assign ?_
          refine WL.nil ?_
          refine PO.blockN ?_
          refine PO.next ?_
          refine WP.reg ?_
          refine WL.e (e_add rfl rfl (w_i64 (by omega) (by omega))) <| WL.e e_move ?_
          refine WL.nil ?_
          exact PO.againK (x + 1, .slice a4 n4 c4) (by simp only; omega) (by simp only; omega)
        · have hfin : l.take x = l := List.take_of_length_le (by simp at g4; omega)
          rw [hfin]
          refine WP.exit ?_
          refine PO.past nofun ?_
          refine PO.round nofun ?_
          refine PO.blockX ?_
          refine PO.next ?_
          refine WP.seq ?_
          refine WP.reg ?_
          refine WL.e e_move <| WL.e e_assign <| WL.e e_assign ?_
          refine WL.next ?_
          refine WP.ret ?_
          refine PO.sh (u := u3) ?_
          rintro a3 n3 c3 rfl
          exact PO.fin Tryz.results57 (rv_tmp (rv_tmp rv_nil)) (hK.2.2 hall (by simp at g3; omega) a3 n3 c3)

theorem PutChanges_spec {g : World} {A : HP} {u : Value} {l : List ChgM} (hA : RL A 3 ChgM.c u l) (hl : l.length ≤ 68719476736) (hb : 2 + (l.flatMap chgB).length ≤ 68719476736) :
    Spec Tryz.prog g 27 [u] [A] fun K R => (l.all chgOk = false → K (.tuple #[.slice none 0 0, .int .i64 1]) (A :: R)) ∧ (l.all chgOk = true → ¬ l.length ≤ 4096 → K (.tuple #[.slice none 0 0, .int .i64 3]) (A :: R)) ∧
      (l.all chgOk = true → l.length ≤ 4096 → ∀ a m c, K (.tuple #[.slice a m c, .int .i64 0]) (Sl 5 1 eB (.slice a m c) (chgsB l) :: A :: R)) := by
  refine Spec.intro Tryz.func27 rfl Tryz.ntmps27 rfl fun R K hK => ?_
  refine WP.seq ?_
  refine WP.reg ?_
  refine WL.e e_assign <| WL.e e_assign ?_
  refine WL.next ?_
  refine WP.seq ?_
  refine WP.reg ?_
  refine WL.e e_assign ?_
  refine WL.next ?_
  refine WP.seq ?_
  refine WP.reg ?_
  refine WL.e e_move <| WL.e e_move ?_
  refine WL.h (h_call (put_spec hA 4096 hl (fun c => CallV.of_spec (fs := []) (cs := []) (may_spec c) k54) (fun u xs c h => CallV.of_spec (fs := []) (cs := []) (chg_spec c h) k58) hb) k57 ?_)
  refine ⟨fun h1 => ?_, fun h1 h2 => ?_, fun h1 h2 a3 n3 c3 => ?_⟩
  · skip
    refine WL.e e_extract <| WL.e e_extract <| WL.e e_assign <| WL.e e_assign ?_
    refine WL.next ?_
    refine WP.ret ?_
    exact PO.fin Tryz.results27 (rv_tmp (rv_tmp rv_nil)) (hK.1 h1)
  · skip
    refine WL.e e_extract <| WL.e e_extract <| WL.e e_assign <| WL.e e_assign ?_
    refine WL.next ?_
    refine WP.ret ?_
    exact PO.fin Tryz.results27 (rv_tmp (rv_tmp rv_nil)) (hK.2.1 h1 h2)
  · skip
    refine WL.e e_extract <| WL.e e_extract <| WL.e e_assign <| WL.e e_assign ?_
    refine WL.next ?_
    refine WP.ret ?_
    exact PO.fin Tryz.results27 (rv_tmp (rv_tmp rv_nil)) (hK.2.2 h1 h2 a3 n3 c3)

end Go.SL
