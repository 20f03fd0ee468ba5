/- VB VY VO VZ VA VC: rules and walks, several texts in one. -/
import Derived.Test.YtdpmpcoekkhceaaGreatQC20
import Derived.Test.YtdpmpcoekkhceaaGreatProg
import Derived.KernelRfl
set_option linter.unusedSimpArgs false
set_option linter.unusedVariables false
namespace Go.SL.VB
open Go Go.Proofs Go.SL
theorem a108 : aggOf Tryz.prog 108 = some (some 3) := by kernel_rfl
theorem a114 : aggOf Tryz.prog 114 = some none := by kernel_rfl
theorem a230 : aggOf Tryz.prog 230 = some none := by kernel_rfl
theorem a233 : aggOf Tryz.prog 233 = some none := by kernel_rfl
theorem a4 : aggOf Tryz.prog 4 = some none := by kernel_rfl
theorem a5 : aggOf Tryz.prog 5 = some none := by kernel_rfl
theorem f108_0 : fldOf Tryz.prog 108 0 = some 0 := by kernel_rfl
theorem f108_1 : fldOf Tryz.prog 108 1 = some 1 := by kernel_rfl
theorem f108_2 : fldOf Tryz.prog 108 2 = some 2 := by kernel_rfl
theorem f270_0 : fldOf Tryz.prog 270 0 = some 0 := by kernel_rfl
theorem f270_1 : fldOf Tryz.prog 270 1 = some 1 := by kernel_rfl
theorem k133 : callable Tryz.prog 133 = true := by kernel_rfl
theorem k134 : callable Tryz.prog 134 = true := by kernel_rfl
theorem k135 : callable Tryz.prog 135 = true := by kernel_rfl
theorem k136 : callable Tryz.prog 136 = true := by kernel_rfl
theorem k137 : callable Tryz.prog 137 = true := by kernel_rfl
theorem k166 : callable Tryz.prog 166 = true := by kernel_rfl
theorem k167 : callable Tryz.prog 167 = true := by kernel_rfl
theorem k168 : callable Tryz.prog 168 = true := by kernel_rfl
theorem k55 : callable Tryz.prog 55 = true := by kernel_rfl
theorem mixedOk : Tryz.prog.follows .mixedOrders = true := by kernel_rfl
theorem p270 : placesOf Tryz.prog 270 = some [(0, 1), (1, 1)] := by kernel_rfl
theorem s108 : szOf Tryz.prog 108 = some 3 := by kernel_rfl
theorem s114 : szOf Tryz.prog 114 = some 1 := by kernel_rfl
theorem s22 : szOf Tryz.prog 22 = some 1 := by kernel_rfl
theorem s230 : szOf Tryz.prog 230 = some 1 := by kernel_rfl
theorem s4 : szOf Tryz.prog 4 = some 1 := by kernel_rfl
theorem s9 : szOf Tryz.prog 9 = some 1 := by kernel_rfl
theorem sl103 : slOf Tryz.prog 103 = some (108, 3, 24) := by kernel_rfl
theorem sl114 : slOf Tryz.prog 114 = some (5, 1, 1) := by kernel_rfl
theorem z108 : zeroOf Tryz.prog 108 = some [.string .empty, .int .u32 0, .bool false] := by kernel_rfl
theorem z230 : zeroOf Tryz.prog 230 = some [.pointer none] := by kernel_rfl
theorem z270 : zeroOf Tryz.prog 270 = some [.slice none 0 0, .bool false] := by kernel_rfl
end Go.SL.VB
namespace Go.SL
open Go Go.Proofs VB
theorem recs_rl {l : List RecV} {x : RecV} (h : x ∈ l) : RL (RecsR l) 1 eB x.1.v x.2.1 := fun S hS => by
  obtain ⟨T, h1, h2⟩ := mem_stars (List.mem_map.2 ⟨x, h, rfl⟩ : recR x ∈ l.map recR) S hS
  exact rds_mono (sl_rl T h2) h1
theorem take_spec {g : World} {A : HP} {r : Nat} {v : SV} {xs rest : List UInt8} (n : Nat) (hn : xs.length = n) (hA : RL A 1 eB v.v (xs ++ rest)) : Spec Tryz.prog g 168 [.pointer (some ⟨r, 0, none⟩), .int .i64 n] [cl r 270 [v.v, .bool false], A] fun K R => ∀ y w : SV, RL A 1 eB y.v xs → RL A 1 eB w.v rest → K y.v (cl r 270 [w.v, .bool false] :: A :: R) := by
  refine Spec.intro Tryz.func168 rfl Tryz.ntmps168 rfl fun R K hK => ?_
  refine WP.seq ?_
  refine WP.reg ?_
  refine WL.e e_assign ?_
  refine WL.next ?_
  refine WP.seq ?_
  refine WP.seq ?_
  refine WP.reg ?_
  refine WL.e e_move <| WL.e e_move <| WL.e e_nil <| WL.e (e_fa f270_0) <| WL.e (e_load a114) ?_
  refine WL.e (el_len sl114 hA) <| WL.e e_gtr ?_
  refine WL.next ?_
  refine WP.cond rfl (fun h => ?_) (fun h => ?_)
  · (rw [decide_eq_true_eq] at h; simp at h; omega)
  · have hle : n ≤ (xs ++ rest).length := by simp; omega
    refine WP.skip ?_
    refine PO.next ?_
    refine WP.seq ?_
    refine WP.draws mixedOk 17 ?_
    refine RW.e 0 rfl e_move <| RW.e 1 rfl e_move <| RW.e 2 rfl e_nil <| RW.e 3 rfl (e_fa f270_0) <| RW.e 4 rfl (e_load a114) <| RW.e 5 rfl e_move ?_
    refine RW.e 6 rfl (el_to (hi := n) sl114 hA hle) <| RW.e 7 rfl e_move <| RW.e 8 rfl e_nil <| RW.e 9 rfl (e_fa f270_0) <| RW.e 10 rfl (e_load a114) <| RW.e 11 rfl e_move ?_
    refine RW.e 12 rfl (el_from (lo := n) sl114 hA hle) <| RW.e 13 rfl e_assign <| RW.e 14 rfl e_nil <| RW.e 15 rfl (e_fa f270_0) ?_
    refine RW.any (is := [16]) rfl ⟨?_, trivial⟩
    refine RWat.h' rfl rfl rfl ?_
    refine (h_store s114 ?_)
    refine ⟨trivial, ?_⟩
    refine RW.done ?_
    refine PO.next ?_
    refine WP.seq ?_
    refine WP.reg ?_
    refine WL.e e_move <| WL.e e_assign ?_
    refine WL.next ?_
    refine WP.ret ?_
    exact PO.fin Tryz.results168 (rv_tmp rv_nil) (hK (subS v 0 n 1) (subS v n (xs ++ rest).length 1) (by have := RL.to_ eB_ok hA hle; rwa [List.take_left' hn] at this) (by have := RL.from_ eB_ok hA hle; rwa [List.drop_left' hn] at this))
theorem rnumber_spec {g : World} {A : HP} {r : Nat} {v : SV} {xs rest : List UInt8} (n : Nat) (hn : xs.length = n) (hA : RL A 1 eB v.v (xs ++ rest)) (hb : n ≤ 4) : Spec Tryz.prog g 137 [.pointer (some ⟨r, 0, none⟩), .int .i64 n] [cl r 270 [v.v, .bool false], A] fun K R => ∀ w : SV, RL A 1 eB w.v rest → K (.int .u32 (beN xs).toNat) (cl r 270 [w.v, .bool false] :: A :: R) := by
  refine Spec.intro Tryz.func137 rfl Tryz.ntmps137 rfl fun R K hK => ?_
  refine WP.seq ?_
  refine WP.reg ?_
  refine WL.e e_assign ?_
  refine WL.next ?_
  refine WP.seq ?_
  refine WP.seq ?_
  refine WP.reg ?_
  refine WL.e e_move <| WL.e e_move ?_
  refine WL.h (h_call (take_spec n hn hA) k168 ?_)
  intro y w hy hw
  refine WL.e (el_len sl114 hy) <| WL.e e_move ?_
  refine WL.next ?_
  refine WP.block ?_
  refine WP.loopK (fun (x : Nat × UInt32) => [(11, .int .i64 x.1), (4, .int .u32 x.2.toNat)]) (fun (x : Nat × UInt32) => cl r 270 [w.v, .bool false] :: A :: R) [(9, _), (10, _)] (fun (x : Nat × UInt32) => x.1 ≤ xs.length ∧ x.2 = beN (xs.take x.1)) (fun (x : Nat × UInt32) => xs.length - x.1) (0, 0) (⟨Nat.zero_le _, by simp [beN]⟩) ?_
  rintro ⟨x, m⟩ ⟨hx1, hx2⟩
  simp only at hx1 hx2
  dsimp only
  refine WP.seq ?_
  refine WP.reg ?_
  refine WL.e e_lss ?_
  refine WL.next ?_
  refine WP.seq ?_
  refine WP.cond rfl (fun h2 => ?_) (fun h2 => ?_)
  · have hlt : x < xs.length := by simp at h2; omega
    obtain ⟨c, hc⟩ : ∃ c, xs[x]? = some c := ⟨_, List.getElem?_eq_getElem hlt⟩
    refine WP.skip ?_
    refine PO.next ?_
    refine WP.seq ?_
    refine WP.block ?_
    refine WP.seq ?_
    refine WP.reg ?_
    refine WL.e (el_ia sl114 hy hlt) ?_
    refine WL.e (el_load0 a5 eB_ok hy hc) <| WL.e e_assign ?_
    refine WL.next ?_
    refine WP.reg ?_
    refine WL.e e_move <| WL.e (e_shl32 (m := 8) (by decide)) <| WL.e e_move <| WL.e (e_c8to32 (by rw [Tryz.underlying5]; rfl) Tryz.underlying22) <| WL.e e_or32 <| WL.e e_assign ?_
    refine WL.nil ?_
    refine PO.blockN ?_
    refine PO.next ?_
    refine WP.reg ?_
    refine WL.e (e_add rfl rfl (w_i64 (by omega) (by omega))) <| WL.e e_move ?_
    refine WL.nil ?_
    exact PO.againK (x + 1, (m <<< 8) ||| c.toUInt32) ⟨by simp only; omega, by simp only; rw [take_snoc hc, beN_snoc, ← hx2]⟩ (by simp only; omega)
  · obtain rfl : m = beN xs := by rw [hx2, List.take_of_length_le (by simp at h2; omega)]
    refine WP.exit ?_
    refine PO.past nofun ?_
    refine PO.round nofun ?_
    refine PO.blockX ?_
    refine PO.next ?_
    refine WP.seq ?_
    refine WP.reg ?_
    refine WL.e e_move <| WL.e e_assign ?_
    refine WL.next ?_
    refine WP.ret ?_
    exact PO.fin Tryz.results137 (rv_tmp rv_nil) (hK w hw)
theorem rtext_spec {g : World} {A : HP} {r : Nat} {v : SV} {rest : List UInt8} (s : ByteArray) (hs : s.size < 256) (hA : RL A 1 eB v.v (textB s ++ rest)) : Spec Tryz.prog g 136 [.pointer (some ⟨r, 0, none⟩)] [cl r 270 [v.v, .bool false], A] fun K R => ∀ w : SV, RL A 1 eB w.v rest → K (.string s) (cl r 270 [w.v, .bool false] :: A :: R) := by
  refine Spec.intro Tryz.func136 rfl Tryz.ntmps136 rfl fun R K hK => ?_
  refine WP.seq ?_
  refine WP.reg ?_
  refine WL.e e_assign ?_
  refine WL.next ?_
  refine WP.seq ?_
  refine WP.reg ?_
  refine WL.e e_move <| WL.e e_move ?_
  refine WL.h (h_call (rnumber_spec (xs := [UInt8.ofNat s.size]) (rest := bytesOf s ++ rest) 1 rfl hA (by decide)) k137 ?_)
  intro w hw
  rw [beN_num1 _ hs]
  refine WL.e (e_conv (c := (s.size : Int)) (by rw [Tryz.underlying22]; rfl) Tryz.underlying3 rfl (w_i64 (by omega) (by omega))) ?_
  refine WL.h (h_call (take_spec (xs := bytesOf s) (rest := rest) s.size (bytesOf_len s) hw) k168 ?_)
  intro y w2 hy hw2
  refine WL.e (e_b2s Tryz.underlying114 Tryz.underlying5 Tryz.underlying9 hy) <| WL.e e_assign ?_
  refine WL.next ?_
  refine WP.ret ?_
  rw [textOf_bytes]
  exact PO.fin Tryz.results136 (rv_tmp rv_nil) (hK w2 hw2)
theorem chg1_spec {g : World} {A : HP} {r : Nat} {v : SV} {rest : List UInt8} (c : ChgM) (hc : chgOk c = true) (hA : RL A 1 eB v.v (chgB c ++ rest)) : Spec Tryz.prog g 135 [.pointer (some ⟨r, 0, none⟩)] [cl r 270 [v.v, .bool false], A] fun K R => ∀ w : SV, RL A 1 eB w.v rest → K c.v (cl r 270 [w.v, .bool false] :: A :: R) := by
  have hks := chg_size hc
  refine Spec.intro Tryz.func135 rfl Tryz.ntmps135 rfl fun R K hK => ?_
  refine WP.seq ?_
  refine WP.reg ?_
  refine WL.h (h_alloc z108 fun b1 => ?_)
  refine WL.next ?_
  refine WP.seq ?_
  refine WP.reg ?_
  refine WL.e e_move ?_
  refine WL.h (h_call (rtext_spec (rest := [if c.gone then (1 : UInt8) else 0] ++ (numB c.val 4 ++ rest)) c.key hks (by have h0 := hA; simpa [chgB] using h0)) k136 ?_)
  intro w1 hw1
  refine WL.e (e_fa f108_0) ?_
  refine WL.h' (h_store s9 ?_)
  refine WL.next ?_
  refine WP.seq ?_
  refine WP.reg ?_
  refine WL.e e_move ?_
  refine WL.h (h_call (rnumber_spec (xs := [if c.gone then (1 : UInt8) else 0]) (rest := numB c.val 4 ++ rest) 1 rfl hw1 (by decide)) k137 ?_)
  intro w2 hw2
  refine WL.e (e_eql32 (b := 1)) <| WL.e (e_fa f108_2) ?_
  refine WL.h' (h_store s4 ?_)
  refine WL.next ?_
  refine WP.seq ?_
  refine WP.reg ?_
  refine WL.e e_move ?_
  refine WL.h (h_call (rnumber_spec (xs := numB c.val 4) (rest := rest) 4 (numB_len _ _) hw2 (by decide)) k137 ?_)
  intro w3 hw3
  rw [beN_num4, gone_back c]
  refine WL.e (e_fa f108_1) ?_
  refine WL.h' (h_store s22 ?_)
  refine WL.next ?_
  refine WP.seq ?_
  refine WP.reg ?_
  refine WL.e (e_loadN a108) ?_
  refine WL.h' (h_store s108 ?_)
  refine WL.next ?_
  refine WP.ret ?_
  exact PO.fin Tryz.results135 (rv_cellN a108 rv_nil) (hK w3 hw3)
/-- What the closure of a list that is read holds. -/
def GetJ (b4 b8 r : Nat) (y : Value) : HP := fun S => ∃ _ : Unit, stars [cl b4 233 [y], cl b8 230 [.pointer (some ⟨r, 0, none⟩)]] S
theorem get1_spec {g : World} {A : HP} {r b4 b8 : Nat} {y : Value} {v : SV} {rest : List UInt8} (h1 : ∀ c rest (v : SV), chgOk c = true → RL A 1 eB v.v (chgB c ++ rest) → CallV Tryz.prog g y [.pointer (some ⟨r, 0, none⟩)] [cl r 270 [v.v, .bool false], A] fun K R => ∀ w : SV, RL A 1 eB w.v rest → K c.v (cl r 270 [w.v, .bool false] :: A :: R)) (c : ChgM) (hc : chgOk c = true) (hA : RL A 1 eB v.v (chgB c ++ rest)) : Spec Tryz.prog g 167 [.pointer (some ⟨b4, 0, none⟩), .pointer (some ⟨b8, 0, none⟩)] [GetJ b4 b8 r y, cl r 270 [v.v, .bool false], A] fun K R => ∀ w : SV, RL A 1 eB w.v rest → K c.v (GetJ b4 b8 r y :: cl r 270 [w.v, .bool false] :: A :: R) := by
  refine Spec.intro Tryz.func167 rfl Tryz.ntmps167 rfl fun R K hK => ?_
  refine WP.opn (B := fun _ : Unit => [cl b4 233 [y], cl b8 230 [.pointer (some ⟨r, 0, none⟩)]]) (fun _ h => h) fun _ => ?_
  refine WP.seq ?_
  refine WP.reg ?_
  refine WL.h (h_alloc z108 fun b1 => ?_)
  refine WL.next ?_
  refine WP.seq ?_
  refine WP.reg ?_
  refine WL.e (e_load a233) <| WL.e (e_load a230) ?_
  refine WL.h (h_cally (h1 c rest v hc hA) ?_)
  intro w hw
  refine WL.h' (h_store s108 ?_)
  refine WL.next ?_
  refine WP.ret ?_
  refine PO.cls (A := GetJ b4 b8 r y) (B := [cl b4 233 [y], cl b8 230 [.pointer (some ⟨r, 0, none⟩)]]) (fun S h => ⟨(), h⟩) ?_
  exact PO.fin Tryz.results167 (rv_cellN a108 rv_nil) (hK w hw)
theorem several_spec {g : World} {A B : HP} {r : Nat} {y : Value} {v : SV} {l : List ChgM} (h2 : ∀ c rest (v : SV), chgOk c = true → RL A 1 eB v.v (chgB c ++ rest) → CallV Tryz.prog g y [] [B, cl r 270 [v.v, .bool false], A] fun K R => ∀ w : SV, RL A 1 eB w.v rest → K c.v (B :: cl r 270 [w.v, .bool false] :: A :: R)) (hl : l.length ≤ 4096) (hok : ∀ c ∈ l, chgOk c = true) (hA : RL A 1 eB v.v (chgsB l)) : Spec Tryz.prog g 166 [.pointer (some ⟨r, 0, none⟩), y] [B, cl r 270 [v.v, .bool false], A] fun K R => ∀ a m c (w : SV), K (.slice a m c) (Sl 108 3 ChgM.c (.slice a m c) l :: B :: cl r 270 [w.v, .bool false] :: A :: R) := by
  have hln : (UInt32.ofNat l.length).toNat = l.length := by rw [UInt32.toNat_ofNat']; exact Nat.mod_eq_of_lt (by omega)
  refine Spec.intro Tryz.func166 rfl Tryz.ntmps166 rfl fun R K hK => ?_
  refine WP.seq ?_
  refine WP.reg ?_
  refine WL.e e_assign ?_
  refine WL.next ?_
  refine WP.seq ?_
  refine WP.seq ?_
  refine WP.reg ?_
  refine WL.e e_move ?_
  refine WL.h (h_call (rnumber_spec (xs := numB (UInt32.ofNat l.length) 2) (rest := l.flatMap chgB) 2 (numB_len _ _) hA (by decide)) k137 ?_)
  intro w hw
  rw [beN_num2 _ (by rw [hln]; omega), hln]
  refine WL.e e_assign ?_
  refine WL.next ?_
  refine WP.block ?_
  refine WP.nils 108 3 ChgM.c none ?_
  refine WP.loopK (fun (x : Nat × SV × SV) => [(5, .int .u32 ((l.length - x.1 : Nat) : Int)), (4, x.2.1.v)]) (fun (x : Nat × SV × SV) => Sl 108 3 ChgM.c x.2.1.v (l.take x.1) :: B :: cl r 270 [x.2.2.v, .bool false] :: A :: R) [(0, _), (1, _)] (fun (x : Nat × SV × SV) => x.1 ≤ l.length ∧ RL A 1 eB x.2.2.v ((l.drop x.1).flatMap chgB)) (fun (x : Nat × SV × SV) => l.length - x.1) (0, ⟨none, 0, 0⟩, w) (⟨Nat.zero_le _, hw⟩) ?_
  rintro ⟨i, w4, w⟩ ⟨hi, hw⟩
  simp only at hi hw
  dsimp only
  refine WP.seq ?_
  refine WP.seq ?_
  refine WP.reg ?_
  refine WL.e e_move <| WL.e e_gtr <| WL.e e_move ?_
  refine WL.join 16 (.bool (decide (i < l.length))) (.c (.c (.c (.c (.c (.c .n)))))) ?_ ?_
  · refine WL.bool 10 rfl (fun hg => ?_) (fun hg => ?_)
    · skip
      refine WL.e e_move <| WL.e e_nil <| WL.e (e_fa f270_1) <| WL.e (e_load a4) <| WL.e e_not <| WL.e e_pick_t ?_
      exact WL.nil (PO.joined rfl (by rw [decide_eq_true_eq] at hg; simp; omega))
    · skip
      refine WL.skip <| WL.skip <| WL.skip <| WL.skip <| WL.skip <| WL.e e_pick_f ?_
      exact WL.nil (PO.joined rfl (by rw [decide_eq_false_iff_not] at hg; simp; omega))
  refine WL.next ?_
  refine WP.cond rfl (fun h3 => ?_) (fun h3 => ?_)
  · have hlt : i < l.length := of_decide_eq_true h3
    obtain ⟨x, hx⟩ : ∃ x, l[i]? = some x := ⟨_, List.getElem?_eq_getElem hlt⟩
    rw [drop_cons hx, List.flatMap_cons] at hw
    refine WP.skip ?_
    refine PO.next ?_
    refine WP.seq ?_
    refine WP.block ?_
    refine WP.reg ?_
    refine WL.e e_move <| WL.e e_move ?_
    refine WL.h (h_cally (h2 x ((l.drop (i + 1)).flatMap chgB) w (hok x (List.mem_of_getElem? hx)) hw) ?_)
    intro w2 hw2
    refine WL.h (h_bs sl103 z108 (.a3 (.tmp 21) rfl <| .n) fun b1 => ?_)
    refine WL.h (hl_append (xs := l.take i) (ys := [x]) sl103 chgE z108 (lit_rl chgE [x] rfl) (by simp; omega) (fun a2 n2 c2 => ?_))
    rw [show l.take i ++ [x] = l.take (i + 1) from (take_snoc hx).symm]
    refine WL.e e_assign ?_
    refine WL.nil ?_
    refine PO.blockN ?_
    refine PO.next ?_
    refine WP.reg ?_
    refine WL.e e_move <| WL.e (e_sub (c := ((l.length - (i + 1) : Nat) : Int)) rfl rfl (by rw [w_u32 (by omega) (by omega)]; omega)) <| WL.e e_assign ?_
    refine WL.nil ?_
    exact PO.againK (i + 1, ⟨a2, n2, c2⟩, w2) ⟨by simp only; omega, hw2⟩ (by simp only; omega)
  · replace h3 := of_decide_eq_false h3
    rw [List.take_of_length_le (show l.length ≤ i by omega)]
    refine WP.exit ?_
    refine PO.past nofun ?_
    refine PO.round nofun ?_
    refine PO.blockX ?_
    refine PO.next ?_
    refine WP.seq ?_
    refine WP.reg ?_
    refine WL.e e_move <| WL.e e_assign ?_
    refine WL.next ?_
    refine WP.ret ?_
    refine PO.sh (u := w4.v) ?_
    rintro a1 n1 c1 e1
    exact PO.fin Tryz.results166 (rv_tmp rv_nil) (by have h9 := hK w4.a w4.n w4.c w; exact h9)
theorem rget_spec {g : World} {A : HP} {fn : Fn} {y2 : Value} {v : SV} {l : List ChgM} (h1 : ∀ r c rest (v : SV), chgOk c = true → RL A 1 eB v.v (chgB c ++ rest) → CallV Tryz.prog g (.func fn #[] #[]) [.pointer (some ⟨r, 0, none⟩)] [cl r 270 [v.v, .bool false], A] fun K R => ∀ w : SV, RL A 1 eB w.v rest → K c.v (cl r 270 [w.v, .bool false] :: A :: R)) (h3 : ∀ (l : List ChgM) (u : SV), l.length ≤ 4096 → l.all chgOk = true → CallV Tryz.prog g y2 [u.v] [Sl 108 3 ChgM.c u.v l] fun K R => ∀ a m c, K (.tuple #[.slice a m c, .int .i64 0]) (Sl 5 1 eB (.slice a m c) (chgsB l) :: Sl 108 3 ChgM.c u.v l :: R)) (hl : l.length ≤ 4096) (hok : ∀ c ∈ l, chgOk c = true) (hA : RL A 1 eB v.v (chgsB l)) : Spec Tryz.prog g 134 [v.v, (.func fn #[] #[]), y2] [A] fun K R => ∀ a m c, K (.tuple #[.slice a m c, .int .i64 0]) (Sl 108 3 ChgM.c (.slice a m c) l :: A :: R) := by
  refine Spec.intro Tryz.func134 rfl Tryz.ntmps134 rfl fun R K hK => ?_
  refine WP.seq ?_
  refine WP.reg ?_
  refine WL.h (h_box fun b1 => ?_)
  refine WL.e e_assign <| WL.e e_assign ?_
  refine WL.next ?_
  refine WP.seq ?_
  refine WP.reg ?_
  refine WL.e e_move <| WL.e (e_build z270 p270 (.o (.tmp 12) rfl <| .z (.bool false) <| .n)) ?_
  refine WL.h (h_box fun b2 => ?_)
  refine WL.h (h_alloc z230 fun b3 => ?_)
  refine WL.h' (h_store s230 ?_)
  refine WL.next ?_
  refine WP.seq ?_
  refine WP.reg ?_
  refine WL.e (e_load a230) <| WL.e e_makeFunc ?_
  refine WL.cls (A := GetJ b1 b3 b2 (.func fn #[] #[])) (B := [cl b1 233 [(.func fn #[] #[])], cl b3 230 [.pointer (some ⟨b2, 0, none⟩)]]) (fun S h => ⟨(), h⟩) ?_
  refine WL.h (h_call (several_spec (y := .func (.func 167) #[] #[.pointer (some ⟨b1, 0, none⟩), .pointer (some ⟨b3, 0, none⟩)]) (fun c rest v hc hr => CallV.of_spec (fs := []) (cs := [.pointer (some ⟨b1, 0, none⟩), .pointer (some ⟨b3, 0, none⟩)]) (get1_spec (h1 b2) c hc hr) k167) hl hok hA) k166 ?_)
  intro a5 n5 c5 w
  refine WL.opn (B := fun _ : Unit => [cl b1 233 [(.func fn #[] #[])], cl b3 230 [.pointer (some ⟨b2, 0, none⟩)]]) (fun _ h => h) fun _ => ?_
  refine WL.e e_assign ?_
  refine WL.next ?_
  refine WP.seq ?_
  refine WP.reg ?_
  refine WL.e e_move <| WL.e e_move ?_
  refine WL.h (h_cally (h3 l ⟨a5, n5, c5⟩ hl (List.all_eq_true.2 hok)) ?_)
  intro a6 n6 c6
  refine WL.e e_move <| WL.e e_extract <| WL.e e_extract <| WL.e e_assign <| WL.e e_assign ?_
  refine WL.next ?_
  refine WP.seq ?_
  refine WP.seq ?_
  refine WP.reg ?_
  refine WL.e (e_load a230) <| WL.e e_nil <| WL.e (e_fa f270_1) <| WL.e (e_load a4) <| WL.e e_move ?_
  refine WL.bool 28 rfl (fun y1 => ?_) (fun y1 => ?_)
  · exact absurd y1 (by decide) -- end
  · skip
    refine WL.e e_move <| WL.e e_neq <| WL.e e_pick_f <| WL.e e_move ?_
    refine WL.bool 32 rfl (fun y2 => ?_) (fun y2 => ?_)
    · exact absurd y2 (by decide) -- end
    · skip
      refine WL.e e_move <| WL.e e_move ?_
      refine WL.h (h_call (BEqual_spec hA (sl_rl (xs := chgsB l))) k133 ?_)
      rw [beq_self_eq_true]
      refine WL.e e_not <| WL.e e_pick_f ?_
      refine WL.next ?_
      refine WP.cond_f rfl ?_
      refine WP.skip ?_
      refine PO.next ?_
      refine WP.seq ?_
      refine WP.reg ?_
      refine WL.e e_move <| WL.e e_assign <| WL.e e_assign ?_
      refine WL.next ?_
      refine WP.ret ?_
      exact PO.fin Tryz.results134 (rv_tmp (rv_tmp rv_nil)) (hK a5 n5 c5)
theorem putc_call {g : World} (l : List ChgM) (u : SV) (h1 : l.length ≤ 4096) (h2 : l.all chgOk = true) : CallV Tryz.prog g (.func (.func 55) #[] #[]) [u.v] [Sl 108 3 ChgM.c u.v l] fun K R => ∀ a m c, K (.tuple #[.slice a m c, .int .i64 0]) (Sl 5 1 eB (.slice a m c) (chgsB l) :: Sl 108 3 ChgM.c u.v l :: R) := fun R K w r hw hT => by
  have hcl := (chgs_len l).2 fun c hc => List.all_eq_true.1 h2 c hc
  have hn : l.length ≤ 68719476736 := by omega
  have hb : 2 + (l.flatMap chgB).length ≤ 68719476736 := by omega
  have hs := PutChanges_spec (g := g) (A := Sl 108 3 ChgM.c u.v l) (u := u.v) (l := l) sl_rl hn hb
  have h := CallV.of_spec (fs := []) (cs := []) (args := [u.v]) hs k55
  exact h R K w r hw ⟨fun h => absurd h (by rw [h2]; simp), fun _ h => absurd h1 h, fun _ _ => hT⟩
theorem GetChanges_spec {g : World} {A : HP} {v : SV} {l : List ChgM} (hl : l.length ≤ 4096) (hok : ∀ c ∈ l, chgOk c = true) (hA : RL A 1 eB v.v (chgsB l)) : Spec Tryz.prog g 82 [v.v] [A] fun K R => ∀ a m c, K (.tuple #[.slice a m c, .int .i64 0]) (Sl 108 3 ChgM.c (.slice a m c) l :: A :: R) := by
  refine Spec.intro Tryz.func82 rfl Tryz.ntmps82 rfl fun R K hK => ?_
  refine WP.seq ?_
  refine WP.reg ?_
  refine WL.e e_assign <| WL.e e_assign ?_
  refine WL.next ?_
  refine WP.seq ?_
  refine WP.reg ?_
  refine WL.e e_move ?_
  refine WL.h (h_call (rget_spec (fn := .func 135) (y2 := .func (.func 55) #[] #[]) (fun r c rest v hc hr => CallV.of_spec (fs := []) (cs := []) (chg1_spec c hc hr) k135) putc_call hl hok hA) k134 ?_)
  intro a m c
  refine WL.e e_extract <| WL.e e_extract <| WL.e e_assign <| WL.e e_assign ?_
  refine WL.next ?_
  refine WP.ret ?_
  exact PO.fin Tryz.results82 (rv_tmp (rv_tmp rv_nil)) (hK a m c)
end Go.SL
set_option linter.unusedSimpArgs false
set_option linter.unusedVariables false
namespace Go.SL.VY
open Go Go.Proofs Go.SL
theorem a114 : aggOf Tryz.prog 114 = some none := by kernel_rfl
theorem a123 : aggOf Tryz.prog 123 = some none := by kernel_rfl
theorem a22 : aggOf Tryz.prog 22 = some none := by kernel_rfl
theorem f127_1 : fldOf Tryz.prog 127 1 = some 1 := by kernel_rfl
theorem f127_2 : fldOf Tryz.prog 127 2 = some 2 := by kernel_rfl
theorem k70 : callable Tryz.prog 70 = true := by kernel_rfl
theorem k71 : callable Tryz.prog 71 = true := by kernel_rfl
theorem k80 : callable Tryz.prog 80 = true := by kernel_rfl
theorem k81 : callable Tryz.prog 81 = true := by kernel_rfl
theorem k82 : callable Tryz.prog 82 = true := by kernel_rfl
theorem p127 : placesOf Tryz.prog 127 = some [(0, 1), (1, 1), (2, 1), (3, 1), (4, 1)] := by kernel_rfl
theorem s22 : szOf Tryz.prog 22 = some 1 := by kernel_rfl
theorem sl155 : slOf Tryz.prog 155 = some (114, 1, 24) := by kernel_rfl
theorem z127 : zeroOf Tryz.prog 127 = some [.pointer none, .pointer none, .int .u32 0, .map none, .pointer none] := by kernel_rfl
end Go.SL.VY
namespace Go.SL
open Go Go.Proofs VY
theorem rowsN_step {H : List (List ChgM)} {i : Nat} {y : List ChgM} (h : H[i]? = some y) : rowsN H (i + 1) = changeR (rowsN H i) y := by
  unfold rowsN
  rw [take_snoc h, List.flatten_append, changeR_app]; simp
set_option maxHeartbeats 4000000 in
theorem ANew_spec {g : World} {dp : Nat} {d : DiskM} {at0 : Nat} (H : List (List ChgM)) (hd : DiskLogB d at0 (H.map chgsB)) (hok : ∀ cs ∈ H, cs.length ≤ 4096 ∧ ∀ c ∈ cs, chgOk c = true) (hsum : H.flatten.length ≤ 1000000000) :
    Spec Tryz.prog g 41 [.pointer (some ⟨dp, 0, none⟩)] [Dk dp d] fun K R => ∀ p, K (.tuple #[.pointer (some ⟨p, 0, none⟩), .int .i64 0]) (As p dp (st0 d at0 H) :: TxsU TPA [] :: R) := by
  refine Spec.intro Tryz.func41 rfl Tryz.ntmps41 rfl fun R K hK => ?_
  refine WP.seq ?_
  refine WP.reg ?_
  refine WL.e e_assign <| WL.e e_assign ?_
  refine WL.next ?_
  refine WP.seq ?_
  refine WP.reg ?_
  refine WL.e e_move ?_
  refine WL.h (h_call (Open_spec hd.ok (by rw [hd.waits]; simp)) k80 ?_)
  intro lp rv xs hx
  obtain ⟨hz, ha, hc⟩ := hd.recs
  obtain rfl : tot xs = at0 := by rw [← ha, ← hx]; simp [tot]; rfl
  have hxl : xs.map (·.2.1) = H.map chgsB := by rw [← hz, ← hx]; simp
  have hlen : xs.length = H.length := by have := congrArg List.length hxl; simpa using this
  have hxb : xs.length ≤ 4096 := by have h7 := (recs_le _ d.seen.flatten (Nat.le_refl _)).2; rw [flat_seen hd.ok.l2, hd.ok.len] at h7; have h8 := hd.ok.le; have h9 := congrArg List.length hx; simp at h9; omega
  rw [hc, hd.sync]
  refine WL.e e_move <| WL.e e_extract <| WL.e e_extract <| WL.e e_extract <| WL.e e_assign <| WL.e e_assign <| WL.e e_assign ?_
  refine WL.next ?_
  refine WP.seq ?_
  refine WP.seq ?_
  refine WP.reg ?_
  refine WL.e e_move <| WL.e e_neq ?_
  refine WL.next ?_
  refine WP.cond_f rfl ?_
  refine WP.skip ?_
  refine PO.next ?_
  refine WP.seq ?_
  refine WP.reg ?_
  refine WL.e e_move ?_
  refine WL.h (h_call (MNew_spec) k71 ?_)
  intro mp
  refine WL.h (h_makeMapB (ek := eU32) fun mb => ?_)
  refine WL.h (h_call (LNew_spec) k81 ?_)
  intro kp
  refine WL.e (e_build z127 p127 (.o (.tmp 21) rfl <| .o (.tmp 22) rfl <| .z (.int .u32 0) <| .o (.tmp 23) rfl <| .o (.tmp 24) rfl <| .n)) ?_
  refine WL.h (h_box fun b1 => ?_)
  refine WL.e e_assign ?_
  refine WL.next ?_
  refine WP.seq ?_
  refine WP.seq ?_
  refine WP.reg ?_
  refine WL.e e_move ?_
  refine WL.e (el_len (xs := xs) sl155 sl_rl) <| WL.e e_move ?_
  refine WL.next ?_
  refine WP.block ?_
  refine WP.loopK (fun (i : Nat) => [(29, .int .i64 i)]) (fun (i : Nat) => cl b1 127 [.pointer (some ⟨lp, 0, none⟩), .pointer (some ⟨mp, 0, none⟩), .int .u32 (UInt32.ofNat (i)).toNat, .map (some mb), .pointer (some ⟨kp, 0, none⟩)] :: cl lp 193 [.pointer (some ⟨dp, 0, none⟩), .int .i64 (tot xs)] :: Dk dp d :: Mm mp (rowsN H (i)) :: Mp eU32 (.map (some mb)) ([] : List (UInt32 × Value)) :: Lk kp [] :: Sl 114 1 recC rv.v xs :: RecsR xs :: R) [(7, _), (27, _), (28, _)] (fun (i : Nat) => i ≤ H.length) (fun (i : Nat) => H.length - i) 0 (Nat.zero_le _) ?_
  intro i hi
  refine WP.seq ?_
  refine WP.reg ?_
  refine WL.e e_lss ?_
  refine WL.next ?_
  refine WP.seq ?_
  refine WP.cond rfl (fun h1 => ?_) (fun h1 => ?_)
  · have hlt : i < xs.length := by rw [decide_eq_true_eq] at h1; omega
    obtain ⟨x, hxi⟩ : ∃ x, xs[i]? = some x := ⟨_, List.getElem?_eq_getElem hlt⟩
    obtain ⟨y, hy⟩ : ∃ y, H[i]? = some y := ⟨_, List.getElem?_eq_getElem (by omega)⟩
    have hxy : x.2.1 = chgsB y := by have := congrArg (·[i]?) hxl; simpa [hxi, hy] using this
    have hrl := recs_rl (List.mem_of_getElem? hxi)
    obtain ⟨hy1, hy2⟩ := hok y (List.mem_of_getElem? hy)
    have hrn := rowsN_len H i
    refine WP.skip ?_
    refine PO.next ?_
    refine WP.seq ?_
    refine WP.block ?_
    refine WP.seq ?_
    refine WP.reg ?_
    refine WL.e (el_ia (j := i) (xs := xs) sl155 sl_rl hlt) ?_
    refine WL.e (el_load0 (j := i) (xs := xs) (a := x) a114 recCE sl_rl hxi) <| WL.e e_assign ?_
    refine WL.next ?_
    refine WP.seq ?_
    refine WP.reg ?_
    refine WL.e e_move ?_
    refine WL.h (h_call (GetChanges_spec (v := x.1) (l := y) hy1 hy2 (hxy ▸ hrl)) k82 ?_)
    intro a5 n5 c5
    refine WL.e e_move <| WL.e e_extract <| WL.e e_extract <| WL.e e_assign <| WL.e e_assign ?_
    refine WL.next ?_
    refine WP.seq ?_
    refine WP.seq ?_
    refine WP.reg ?_
    refine WL.e e_move <| WL.e e_neq <| WL.e e_move ?_
    refine WL.bool 40 rfl (fun hg => ?_) (fun hg => ?_)
    · exact absurd hg (by decide) -- end
    · skip
      refine WL.e e_move <| WL.e e_nil <| WL.e (e_fa f127_1) <| WL.e (e_load a123) <| WL.e e_move ?_
      refine WL.h (h_call (Change_spec (l := rowsN H i) (cs := y) (sl_rl (E := 108)) (rowsN_rising _ _) (by omega)) k70 ?_)
      refine ⟨fun hb => absurd hb (by rw [List.any_eq_false.2 fun c hc => by simp [hy2 c hc]]; simp), fun _ => ?_⟩
      refine WL.e e_neq <| WL.e e_pick_f ?_
      refine WL.next ?_
      refine WP.cond_f rfl ?_
      refine WP.skip ?_
      refine PO.next ?_
      refine WP.reg ?_
      refine WL.e e_move <| WL.e e_nil <| WL.e (e_fa f127_2) <| WL.e (e_load a22) <| WL.e (e_add32 (b := 1)) <| WL.e e_nil <| WL.e (e_fa f127_2) ?_
      refine WL.h' (h_store s22 ?_)
      refine WL.nil ?_
      refine PO.blockN ?_
      refine PO.next ?_
      refine WP.reg ?_
      refine WL.e (e_add rfl rfl (w_i64 (by omega) (by omega))) <| WL.e e_move ?_
      refine WL.nil ?_
      rw [← rowsN_step hy, show UInt32.ofNat i + 1 = UInt32.ofNat (i + 1) by simp [UInt32.ofNat_add]]
      exact PO.againK (i + 1) (by omega) (by omega)
  · have hih : i = H.length := by rw [decide_eq_false_iff_not] at h1; omega
    subst hih
    refine WP.exit ?_
    refine PO.past nofun ?_
    refine PO.round nofun ?_
    refine PO.blockX ?_
    refine PO.next ?_
    refine WP.seq ?_
    refine WP.reg ?_
    refine WL.e e_move <| WL.e e_assign <| WL.e e_assign ?_
    refine WL.next ?_
    refine WP.ret ?_
    refine PO.conv (fun S h => TxsU_nil (TP := TPA) h) ?_
    refine PO.cls (A := As b1 dp (st0 d (tot xs) H)) (B := [cl b1 127 [.pointer (some ⟨lp, 0, none⟩), .pointer (some ⟨mp, 0, none⟩), .int .u32 (UInt32.ofNat (H.length)).toNat, .map (some mb), .pointer (some ⟨kp, 0, none⟩)], cl lp 193 [.pointer (some ⟨dp, 0, none⟩), .int .i64 (tot xs)], Dk dp d, Mm mp (rowsN H (H.length)), Mp eU32 (.map (some mb)) ([] : List (UInt32 × Value)), Lk kp []]) (fun S h => ⟨(lp, mp, kp, mb), h⟩) ?_
    exact PO.fin Tryz.results41 (rv_tmp (rv_tmp rv_nil)) (hK b1)
end Go.SL
set_option linter.unusedSimpArgs false
set_option linter.unusedVariables false
namespace Go.SL.VO
open Go Go.Proofs Go.SL
theorem a22 : aggOf Tryz.prog 22 = some none := by kernel_rfl
theorem mixedOk : Tryz.prog.follows .mixedOrders = true := by kernel_rfl
theorem sl82 : slOf Tryz.prog 82 = some (22, 1, 4) := by kernel_rfl
end Go.SL.VO
namespace Go.SL
open Go Go.Proofs VO
end Go.SL
set_option linter.unusedSimpArgs false
set_option linter.unusedVariables false
namespace Go.SL.VZ
open Go Go.Proofs Go.SL
theorem a124 : aggOf Tryz.prog 124 = some none := by kernel_rfl
theorem a82 : aggOf Tryz.prog 82 = some none := by kernel_rfl
theorem f127_3 : fldOf Tryz.prog 127 3 = some 3 := by kernel_rfl
theorem k129 : callable Tryz.prog 129 = true := by kernel_rfl
theorem k61 : callable Tryz.prog 61 = true := by kernel_rfl
theorem s82 : szOf Tryz.prog 82 = some 1 := by kernel_rfl
theorem sl82 : slOf Tryz.prog 82 = some (22, 1, 4) := by kernel_rfl
theorem z22 : zeroOf Tryz.prog 22 = some [.int .u32 0] := by kernel_rfl
end Go.SL.VZ
namespace Go.SL
open Go Go.Proofs VZ
end Go.SL
set_option linter.unusedSimpArgs false
set_option linter.unusedVariables false
namespace Go.SL.VA
open Go Go.Proofs Go.SL
theorem a22 : aggOf Tryz.prog 22 = some none := by kernel_rfl
theorem a29 : aggOf Tryz.prog 29 = some none := by kernel_rfl
theorem a31 : aggOf Tryz.prog 31 = some (some 1) := by kernel_rfl
theorem a34 : aggOf Tryz.prog 34 = some none := by kernel_rfl
theorem a40 : aggOf Tryz.prog 40 = some (some 2) := by kernel_rfl
theorem a9 : aggOf Tryz.prog 9 = some none := by kernel_rfl
theorem eqgRow : Tryz.prog.eqGuardType Tryz.prog.depth 40 = false := by kernel_rfl
theorem f31_0 : fldOf Tryz.prog 31 0 = some 0 := by kernel_rfl
theorem f36_0 : fldOf Tryz.prog 36 0 = some 0 := by kernel_rfl
theorem f36_1 : fldOf Tryz.prog 36 1 = some 1 := by kernel_rfl
theorem f36_2 : fldOf Tryz.prog 36 2 = some 2 := by kernel_rfl
theorem f36_3 : fldOf Tryz.prog 36 3 = some 3 := by kernel_rfl
theorem f40_0 : fldOf Tryz.prog 40 0 = some 0 := by kernel_rfl
theorem f40_1 : fldOf Tryz.prog 40 1 = some 1 := by kernel_rfl
theorem k122 : callable Tryz.prog 122 = true := by kernel_rfl
theorem k125 : callable Tryz.prog 125 = true := by kernel_rfl
theorem k126 : callable Tryz.prog 126 = true := by kernel_rfl
theorem k127 : callable Tryz.prog 127 = true := by kernel_rfl
theorem k34 : callable Tryz.prog 34 = true := by kernel_rfl
theorem k35 : callable Tryz.prog 35 = true := by kernel_rfl
theorem k69 : callable Tryz.prog 69 = true := by kernel_rfl
theorem k71 : callable Tryz.prog 71 = true := by kernel_rfl
theorem k72 : callable Tryz.prog 72 = true := by kernel_rfl
theorem k73 : callable Tryz.prog 73 = true := by kernel_rfl
theorem k74 : callable Tryz.prog 74 = true := by kernel_rfl
theorem k85 : callable Tryz.prog 85 = true := by kernel_rfl
theorem mixedOk : Tryz.prog.follows .mixedOrders = true := by kernel_rfl
theorem p31 : placesOf Tryz.prog 31 = some [(0, 1)] := by kernel_rfl
theorem p69 : placesOf Tryz.prog 69 = some [(0, 1), (1, 1)] := by kernel_rfl
theorem s29 : szOf Tryz.prog 29 = some 1 := by kernel_rfl
theorem s31 : szOf Tryz.prog 31 = some 1 := by kernel_rfl
theorem sl29 : slOf Tryz.prog 29 = some (40, 2, 24) := by kernel_rfl
theorem sl60 : slOf Tryz.prog 60 = some (36, 4, 48) := by kernel_rfl
theorem sl61 : slOf Tryz.prog 61 = some (31, 1, 24) := by kernel_rfl
theorem stoodRow : Tryz.prog.stoodInHeld 40 = false := by kernel_rfl
theorem z31 : zeroOf Tryz.prog 31 = some [.slice none 0 0] := by kernel_rfl
theorem z69 : zeroOf Tryz.prog 69 = some [.string .empty, .string .empty] := by kernel_rfl
end Go.SL.VA
namespace Go.SL
open Go Go.Proofs VA
theorem SameRows_spec {g : World} {A B : HP} {u v : Value} {xs ys : List RowM} (hA : RL A 2 RowM.c u xs) (hB : RL B 2 RowM.c v ys) (hn : xs.length ≤ 68719476736) : Spec Tryz.prog g 34 [u, v] [A, B] fun K R => K (.bool (decide (xs = ys))) (A :: B :: R) := by
  refine Spec.intro Tryz.func34 rfl Tryz.ntmps34 rfl fun R K hK => ?_
  refine WP.seq ?_
  refine WP.reg ?_
  refine WL.e e_assign ?_
  refine WL.next ?_
  refine WP.seq ?_
  refine WP.seq ?_
  refine WP.reg ?_
  refine WL.e e_move ?_
  refine WL.e (el_len sl29 hA) <| WL.e e_move ?_
  refine WL.e (el_len sl29 hB) <| WL.e e_neq ?_
  refine WL.next ?_
  refine WP.cond rfl (fun h1 => ?_) (fun h1 => ?_)
  · replace h1 : xs ≠ ys := fun e => by subst e; simp at h1
    refine WP.seq ?_
    refine WP.reg ?_
    refine WL.e e_assign ?_
    refine WL.next ?_
    refine WP.ret ?_
    refine PO.past nofun ?_
    exact PO.finE Tryz.results34 (rv_tmp rv_nil) (by rw [decide_eq_false h1]; rfl) hK
  · replace h1 : xs.length = ys.length := by simp at h1; omega
    refine WP.skip ?_
    refine PO.next ?_
    refine WP.seq ?_
    refine WP.seq ?_
    refine WP.reg ?_
    refine WL.e e_assign ?_
    refine WL.next ?_
    refine WP.block ?_
    refine WP.loopK (fun (i : Nat) => [(5, .int .i64 i)]) (fun (i : Nat) => A :: B :: R) [(0, _), (1, _)] (fun (i : Nat) => i ≤ xs.length ∧ xs.take i = ys.take i) (fun (i : Nat) => xs.length - i) 0 (⟨Nat.zero_le _, rfl⟩) ?_
    rintro i ⟨hi, he⟩
    refine WP.seq ?_
    refine WP.seq ?_
    refine WP.reg ?_
    refine WL.e e_move <| WL.e e_move ?_
    refine WL.e (el_len sl29 hA) <| WL.e e_lss ?_
    refine WL.next ?_
    refine WP.cond rfl (fun h2 => ?_) (fun h2 => ?_)
    · have hlt : i < xs.length := by rw [decide_eq_true_eq] at h2; omega
      obtain ⟨x, hx⟩ : ∃ x, xs[i]? = some x := ⟨_, List.getElem?_eq_getElem hlt⟩
      obtain ⟨y, hy⟩ : ∃ y, ys[i]? = some y := ⟨_, List.getElem?_eq_getElem (by omega)⟩
      refine WP.skip ?_
      refine PO.next ?_
      refine WP.seq ?_
      refine WP.block ?_
      refine WP.seq ?_
      refine WP.draws mixedOk 9 ?_
      refine RW.e 0 rfl e_move <| RW.e 1 rfl e_move ?_
      refine RW.e 2 rfl (el_ia (j := i) sl29 hA hlt) ?_
      refine RW.e 3 rfl (el_loadN (a := x) a40 rowE hA hx) <| RW.e 4 rfl e_move <| RW.e 5 rfl e_move ?_
      refine RW.e 6 rfl (el_ia (j := i) sl29 hB (by omega)) ?_
      refine RW.e 7 rfl (el_loadN (a := y) a40 rowE hB hy) ?_
      refine RW.e 8 rfl (e_rowne (a := x) (b := y) Tryz.underlying40 Tryz.underlying9 Tryz.underlying22 a9 a22 stoodRow eqgRow rfl rfl) ?_
      refine RW.done ?_
      refine PO.next ?_
      refine WP.cond rfl (fun h3 => ?_) (fun h3 => ?_)
      · replace h3 : xs ≠ ys := fun e => by subst e; rw [hx] at hy; cases hy; simp at h3
        refine WP.seq ?_
        refine WP.reg ?_
        refine WL.e e_assign ?_
        refine WL.next ?_
        refine WP.ret ?_
        refine PO.blockR ?_
        refine PO.past nofun ?_
        refine PO.round nofun ?_
        refine PO.blockR ?_
        refine PO.past nofun ?_
        exact PO.finE Tryz.results34 (rv_tmp rv_nil) (by rw [decide_eq_false h3]; rfl) hK
      · replace h3 : x = y := by simpa using h3
        refine WP.skip ?_
        refine PO.blockN ?_
        refine PO.next ?_
        refine WP.reg ?_
        refine WL.e e_move <| WL.e (e_add (c := ((i + 1 : Nat) : Int)) rfl rfl (by rw [w_i64 (by omega) (by omega)]; omega)) <| WL.e e_assign ?_
        refine WL.nil ?_
        exact PO.againK (i + 1) ⟨by omega, by rw [take_snoc hx, take_snoc hy, he, h3]⟩ (by omega)
    · have hge : xs.length ≤ i := by rw [decide_eq_false_iff_not] at h2; omega
      replace h2 : xs = ys := by rwa [List.take_of_length_le hge, List.take_of_length_le (by omega)] at he
      refine WP.exit ?_
      refine PO.past nofun ?_
      refine PO.round nofun ?_
      refine PO.blockX ?_
      refine PO.next ?_
      refine WP.seq ?_
      refine WP.reg ?_
      refine WL.e e_assign ?_
      refine WL.next ?_
      refine WP.ret ?_
      exact PO.finE Tryz.results34 (rv_tmp rv_nil) (by rw [decide_eq_true h2]; rfl) hK
/-- Results: the slice of each, its rows. -/
abbrev ResV := SV × List RowM
def resC (x : ResV) : List Value := [x.1.v]
theorem resE : EncOk 1 resC := ⟨fun _ => rfl, fun _ => rfl⟩
def resR (x : ResV) : HP := Sl 40 2 RowM.c x.1.v x.2
def ResR (l : List ResV) : HP := bun (l.map resR)
theorem ResR_nil {L : List HP} {S : Piece} (h : stars L S) : stars (ResR [] :: L) S := bun_stars (L := []) h
theorem ResR_snoc {l : List ResV} {x : ResV} : ∀ S, stars [ResR l, resR x] S → ResR (l ++ [x]) S := fun S h => by
  have := stars_bun h
  unfold ResR bun
  rwa [List.map_append]
theorem RdS.mono {S T : Piece} {z n : Nat} {u : Value} {cs : List Value} (h : RdS S z u n cs) (hl : le S T) : RdS T z u n cs := by
  rcases h with h | ⟨b, o, c, l, t, h1, h2, h3, h4, h5⟩
  · exact .inl h
  · exact .inr ⟨b, o, c, l, t, h1, h2, hl _ _ h3, h4, h5⟩
theorem stars_mem {A : HP} {L : List HP} (h : A ∈ L) : ∀ S, stars L S → ∃ T, le T S ∧ A T := by
  induction L with
  | nil => cases h
  | cons B L ih =>
    rintro S ⟨S1, S2, _, h1, h2, h3, h4⟩
    rcases List.mem_cons.1 h with rfl | h
    · exact ⟨S1, h1, h3⟩
    · obtain ⟨T, h5, h6⟩ := ih h S2 h4
      exact ⟨T, le_trans h5 h2, h6⟩
theorem res_rl {l : List ResV} {x : ResV} (h : x ∈ l) : RL (ResR l) 2 RowM.c x.1.v x.2 := fun S hS => by
  obtain ⟨T, h1, h2⟩ := stars_mem (List.mem_map.2 ⟨x, h, rfl⟩ : resR x ∈ l.map resR) S hS
  exact RdS.mono (sl_rl T h2) h1
theorem SameResult_spec {g : World} {A B : HP} {u v : SV} {xs ys : List RowM} (hA : RL A 2 RowM.c u.v xs) (hB : RL B 2 RowM.c v.v ys) (hn : xs.length ≤ 68719476736) : Spec Tryz.prog g 35 [.agg #[u.v], .agg #[v.v]] [A, B] fun K R => K (.bool (decide (xs = ys))) (A :: B :: R) := by
  refine Spec.intro Tryz.func35 rfl Tryz.ntmps35 rfl fun R K hK => ?_
  refine WP.seq ?_
  refine WP.reg ?_
  refine WL.h (h_box fun b1 => ?_)
  refine WL.h (h_box fun b2 => ?_)
  refine WL.e e_assign ?_
  refine WL.next ?_
  refine WP.seq ?_
  refine WP.reg ?_
  refine WL.e (e_fa f31_0) <| WL.e (e_load a29) <| WL.e (e_fa f31_0) <| WL.e (e_load a29) ?_
  refine WL.h (h_call (SameRows_spec hA hB hn) k34 ?_)
  refine WL.e e_assign ?_
  refine WL.next ?_
  refine WP.ret ?_
  exact PO.fin Tryz.results35 (rv_tmp rv_nil) hK
theorem SameResults_spec {g : World} {A B : HP} {u v : Value} {xs ys : List ResV} (hA : RL A 1 resC u xs) (hB : RL B 1 resC v ys) (hn : xs.length ≤ 68719476736) (hl : ∀ x ∈ xs, x.2.length ≤ 68719476736) : Spec Tryz.prog g 33 [u, v] [A, B, ResR xs, ResR ys] fun K R => K (.bool (decide (xs.map (·.2) = ys.map (·.2)))) (A :: B :: ResR xs :: ResR ys :: R) := by
  refine Spec.intro Tryz.func33 rfl Tryz.ntmps33 rfl fun R K hK => ?_
  refine WP.seq ?_
  refine WP.reg ?_
  refine WL.e e_assign ?_
  refine WL.next ?_
  refine WP.seq ?_
  refine WP.seq ?_
  refine WP.reg ?_
  refine WL.e e_move ?_
  refine WL.e (el_len sl61 hA) <| WL.e e_move ?_
  refine WL.e (el_len sl61 hB) <| WL.e e_neq ?_
  refine WL.next ?_
  refine WP.cond rfl (fun h1 => ?_) (fun h1 => ?_)
  · replace h1 : xs.map (·.2) ≠ ys.map (·.2) := fun e => by have := congrArg List.length e; simp at this; simp [this] at h1
    refine WP.seq ?_
    refine WP.reg ?_
    refine WL.e e_assign ?_
    refine WL.next ?_
    refine WP.ret ?_
    refine PO.past nofun ?_
    exact PO.finE Tryz.results33 (rv_tmp rv_nil) (by rw [decide_eq_false h1]; rfl) hK
  · replace h1 : xs.length = ys.length := by simp at h1; omega
    refine WP.skip ?_
    refine PO.next ?_
    refine WP.seq ?_
    refine WP.seq ?_
    refine WP.reg ?_
    refine WL.e e_assign ?_
    refine WL.next ?_
    refine WP.block ?_
    refine WP.loopK (fun (i : Nat) => [(5, .int .i64 i)]) (fun (i : Nat) => A :: B :: ResR xs :: ResR ys :: R) [(0, _), (1, _)] (fun (i : Nat) => i ≤ xs.length ∧ (xs.take i).map (·.2) = (ys.take i).map (·.2)) (fun (i : Nat) => xs.length - i) 0 (⟨Nat.zero_le _, rfl⟩) ?_
    rintro i ⟨hi, he⟩
    refine WP.seq ?_
    refine WP.seq ?_
    refine WP.reg ?_
    refine WL.e e_move <| WL.e e_move ?_
    refine WL.e (el_len sl61 hA) <| WL.e e_lss ?_
    refine WL.next ?_
    refine WP.cond rfl (fun h2 => ?_) (fun h2 => ?_)
    · have hlt : i < xs.length := by rw [decide_eq_true_eq] at h2; omega
      obtain ⟨x, hx⟩ : ∃ x, xs[i]? = some x := ⟨_, List.getElem?_eq_getElem hlt⟩
      obtain ⟨y, hy⟩ : ∃ y, ys[i]? = some y := ⟨_, List.getElem?_eq_getElem (by omega)⟩
      refine WP.skip ?_
      refine PO.next ?_
      refine WP.seq ?_
      refine WP.block ?_
      refine WP.seq ?_
      refine WP.draws mixedOk 10 ?_
      refine RW.e 0 rfl e_move <| RW.e 1 rfl e_move ?_
      refine RW.e 2 rfl (el_ia (j := i) sl61 hA hlt) ?_
      refine RW.e 3 rfl (el_loadN (vs := resC x) (a := x) a31 resE hA hx (hv := ext_of (resE.len x))) <| RW.e 4 rfl e_move <| RW.e 5 rfl e_move ?_
      refine RW.e 6 rfl (el_ia (j := i) sl61 hB (by omega)) ?_
      refine RW.e 7 rfl (el_loadN (vs := resC y) (a := y) a31 resE hB hy (hv := ext_of (resE.len y))) ?_
      refine RW.any (is := [8]) rfl ⟨?_, trivial⟩
      refine RWat.h rfl rfl rfl ?_
      refine (h_call (SameResult_spec (u := x.1) (v := y.1) (res_rl (List.mem_of_getElem? hx)) (res_rl (List.mem_of_getElem? hy)) (hl x (List.mem_of_getElem? hx))) k35 ?_)
      refine ⟨trivial, ?_⟩
      refine RW.e 9 rfl e_not ?_
      refine RW.done ?_
      refine PO.next ?_
      refine WP.cond rfl (fun h3 => ?_) (fun h3 => ?_)
      · replace h3 : xs.map (·.2) ≠ ys.map (·.2) := fun e => by have := congrArg (·[i]?) e; simp [hx, hy] at this; simp [this] at h3
        refine WP.seq ?_
        refine WP.reg ?_
        refine WL.e e_assign ?_
        refine WL.next ?_
        refine WP.ret ?_
        refine PO.blockR ?_
        refine PO.past nofun ?_
        refine PO.round nofun ?_
        refine PO.blockR ?_
        refine PO.past nofun ?_
        exact PO.finE Tryz.results33 (rv_tmp rv_nil) (by rw [decide_eq_false h3]; rfl) hK
      · replace h3 : x.2 = y.2 := by simpa using h3
        refine WP.skip ?_
        refine PO.blockN ?_
        refine PO.next ?_
        refine WP.reg ?_
        refine WL.e e_move <| WL.e (e_add (c := ((i + 1 : Nat) : Int)) rfl rfl (by rw [w_i64 (by omega) (by omega)]; omega)) <| WL.e e_assign ?_
        refine WL.nil ?_
        exact PO.againK (i + 1) ⟨by omega, by rw [take_snoc hx, take_snoc hy, List.map_append, List.map_append, he]; simp [h3]⟩ (by omega)
    · have hge : xs.length ≤ i := by rw [decide_eq_false_iff_not] at h2; omega
      replace h2 : xs.map (·.2) = ys.map (·.2) := by rwa [List.take_of_length_le hge, List.take_of_length_le (by omega)] at he
      refine WP.exit ?_
      refine PO.past nofun ?_
      refine PO.round nofun ?_
      refine PO.blockX ?_
      refine PO.next ?_
      refine WP.seq ?_
      refine WP.reg ?_
      refine WL.e e_assign ?_
      refine WL.next ?_
      refine WP.ret ?_
      exact PO.finE Tryz.results33 (rv_tmp rv_nil) (by rw [decide_eq_true h2]; rfl) hK
theorem ask_spec {g : World} {p : Nat} {l : List RowM} (k : ByteArray) : Spec Tryz.prog g 127 [.pointer (some ⟨p, 0, none⟩), .string k] [Mm p l] fun K R => K (.int .i64 (if keyOk k then 0 else 1)) (Mm p l :: R) := by
  refine Spec.intro Tryz.func127 rfl Tryz.ntmps127 rfl fun R K hK => ?_
  refine WP.seq ?_
  refine WP.reg ?_
  refine WL.e e_assign ?_
  refine WL.next ?_
  refine WP.seq ?_
  refine WP.block ?_
  refine WP.seq ?_
  refine WP.reg ?_
  refine WL.e e_move ?_
  refine WL.h (h_call (Mthere_spec) k122 ?_)
  refine WL.e e_not <| WL.e e_assign ?_
  refine WL.next ?_
  refine WP.cond_f rfl ?_
  refine WP.seq ?_
  refine WP.reg ?_
  refine WL.e e_move ?_
  refine WL.h (h_call (Check_spec _) k85 ?_)
  refine WL.e e_not <| WL.e e_assign ?_
  refine WL.next ?_
  refine WP.cond rfl (fun h1 => ?_) (fun h1 => ?_)
  · replace h1 : keyOk k = false := by simpa using h1
    refine WP.seq ?_
    refine WP.reg ?_
    refine WL.e e_assign ?_
    refine WL.next ?_
    refine WP.ret ?_
    refine PO.blockR ?_
    refine PO.past nofun ?_
    exact PO.finE Tryz.results127 (rv_tmp rv_nil) (by rw [h1]; rfl) hK
  · replace h1 : keyOk k = true := by simpa using h1
    refine WP.skip ?_
    refine PO.blockN ?_
    refine PO.next ?_
    refine WP.seq ?_
    refine WP.reg ?_
    refine WL.e e_assign ?_
    refine WL.next ?_
    refine WP.ret ?_
    exact PO.finE Tryz.results127 (rv_tmp rv_nil) (by rw [h1]; rfl) hK
theorem MPut_spec {g : World} {p : Nat} {l : List RowM} (k : ByteArray) (v : UInt32) (hl : Rising l) (hn : l.length ≤ 68719476000) (hk : keyOk k = true) : Spec Tryz.prog g 72 [.pointer (some ⟨p, 0, none⟩), .string k, .int .u32 v.toNat] [Mm p l] fun K R => K (.int .i64 0) (Mm p (setR l k v) :: R) := by
  refine Spec.intro Tryz.func72 rfl Tryz.ntmps72 rfl fun R K hK => ?_
  refine WP.seq ?_
  refine WP.reg ?_
  refine WL.e e_assign ?_
  refine WL.next ?_
  refine WP.seq ?_
  refine WP.reg ?_
  refine WL.e e_move <| WL.e e_move ?_
  refine WL.h (h_call (ask_spec k) k127 ?_)
  rw [hk]
  refine WL.e e_assign ?_
  refine WL.next ?_
  refine WP.seq ?_
  refine WP.seq ?_
  refine WP.reg ?_
  refine WL.e e_move <| WL.e e_eql ?_
  refine WL.next ?_
  refine WP.cond_t rfl ?_
  refine WP.reg ?_
  refine WL.e e_move <| WL.e e_move <| WL.e e_move ?_
  refine WL.h (h_call (set_spec k v hl hn) k126 ?_)
  refine WL.next ?_
  refine WP.seq ?_
  refine WP.reg ?_
  refine WL.e e_move <| WL.e e_assign ?_
  refine WL.next ?_
  refine WP.ret ?_
  exact PO.fin Tryz.results72 (rv_tmp rv_nil) hK
theorem MDel_spec {g : World} {p : Nat} {l : List RowM} (k : ByteArray) (hl : Rising l) (hn : l.length ≤ 68719476000) (hk : keyOk k = true) : Spec Tryz.prog g 73 [.pointer (some ⟨p, 0, none⟩), .string k] [Mm p l] fun K R => ∀ e : Int, K (.int .i64 e) (Mm p (dropR l k) :: R) := by
  refine Spec.intro Tryz.func73 rfl Tryz.ntmps73 rfl fun R K hK => ?_
  refine WP.seq ?_
  refine WP.reg ?_
  refine WL.e e_assign ?_
  refine WL.next ?_
  refine WP.seq ?_
  refine WP.reg ?_
  refine WL.e e_move <| WL.e e_move ?_
  refine WL.h (h_call (ask_spec k) k127 ?_)
  rw [hk]
  refine WL.e e_assign ?_
  refine WL.next ?_
  refine WP.seq ?_
  refine WP.seq ?_
  refine WP.reg ?_
  refine WL.e e_move <| WL.e e_eql <| WL.e e_move ?_
  refine WL.bool 11 rfl (fun hg => ?_) (fun hg => ?_)
  · skip
    refine WL.e e_move <| WL.e e_move ?_
    refine WL.h (h_call (drop_spec k hl hn) k125 ?_)
    refine WL.e e_not <| WL.e e_pick_t ?_
    refine WL.next ?_
    refine WP.cond rfl (fun h2 => ?_) (fun h2 => ?_)
    · skip
      refine WP.seq ?_
      refine WP.reg ?_
      refine WL.e e_assign ?_
      refine WL.next ?_
      refine WP.ret ?_
      refine PO.past nofun ?_
      exact PO.fin Tryz.results73 (rv_tmp rv_nil) (hK 6)
    · skip
      refine WP.skip ?_
      refine PO.next ?_
      refine WP.seq ?_
      refine WP.reg ?_
      refine WL.e e_move <| WL.e e_assign ?_
      refine WL.next ?_
      refine WP.ret ?_
      exact PO.fin Tryz.results73 (rv_tmp rv_nil) (hK 0)
  · exact absurd hg (by decide) -- end
theorem Run_spec {g : World} {A B : HP} {u v : Value} {rows : List RowM} {l : List OpM} (hA : RL A 2 RowM.c u rows) (hB : RL B 4 OpM.c v l) (hr : Rising rows) (hk : KeysOk rows) (hl : ∀ x ∈ l, opOk x = true) (hn : rows.length + l.length ≤ 1000000000) :
    Spec Tryz.prog g 32 [u, v] [A, B] fun K R => ∀ (sv : SV) (ts : List ResV) a m c, ts.map (·.2) = (runM rows l).1 → K (.tuple #[sv.v, .slice a m c]) (Sl 31 1 resC sv.v ts :: ResR ts :: Sl 40 2 RowM.c (.slice a m c) (runM rows l).2 :: A :: B :: R) := by
  refine Spec.intro Tryz.func32 rfl Tryz.ntmps32 rfl fun R K hK => ?_
  refine WP.seq ?_
  refine WP.reg ?_
  refine WL.e e_assign <| WL.e e_assign ?_
  refine WL.next ?_
  refine WP.seq ?_
  refine WP.reg ?_
  refine WL.h (h_call (MNew_spec) k71 ?_)
  intro p
  refine WL.e e_assign ?_
  refine WL.next ?_
  refine WP.seq ?_
  refine WP.seq ?_
  refine WP.reg ?_
  refine WL.e e_assign ?_
  refine WL.next ?_
  refine WP.block ?_
  refine WP.loopK (fun (i : Nat) => [(7, .int .i64 i)]) (fun (i : Nat) => Mm p (rows.take i) :: A :: B :: R) [(0, _), (1, _), (4, _), (5, _), (6, _)] (fun (i : Nat) => i ≤ rows.length) (fun (i : Nat) => rows.length - i) 0 (Nat.zero_le _) ?_
  intro i hi
  refine WP.seq ?_
  refine WP.seq ?_
  refine WP.reg ?_
  refine WL.e e_move <| WL.e e_move ?_
  refine WL.e (el_len sl29 hA) <| WL.e e_lss ?_
  refine WL.next ?_
  refine WP.cond rfl (fun h1 => ?_) (fun h1 => ?_)
  · have hlt : i < rows.length := by rw [decide_eq_true_eq] at h1; omega
    obtain ⟨x, hx⟩ : ∃ x, rows[i]? = some x := ⟨_, List.getElem?_eq_getElem hlt⟩
    refine WP.skip ?_
    refine PO.next ?_
    refine WP.seq ?_
    refine WP.block ?_
    refine WP.draws mixedOk 12 ?_
    refine RW.e 0 rfl e_move <| RW.e 1 rfl e_move <| RW.e 2 rfl e_move ?_
    refine RW.e 3 rfl (el_ia (j := i) sl29 hA hlt) ?_
    refine RW.e 4 rfl (el_fa (z := 2) (j := i) f40_0 hA hlt) ?_
    refine RW.e 5 rfl (el_load0 (j := i) (a := x) a9 rowE hA hx) <| RW.e 6 rfl e_move <| RW.e 7 rfl e_move ?_
    refine RW.e 8 rfl (el_ia (j := i) sl29 hA hlt) ?_
    refine RW.e 9 rfl (el_fa (z := 2) (j := i) f40_1 hA hlt) ?_
    refine RW.e 10 rfl (el_load (j := i) (f := 1) (a := x) a22 rowE hA hx) ?_
    refine RW.any (is := [11]) rfl ⟨?_, trivial⟩
    refine RWat.h rfl rfl rfl ?_
    refine (h_call (MPut_spec x.key x.val (hr.sublist (List.take_sublist _ _)) (by simp; omega) (hk x (List.mem_of_getElem? hx))) k72 ?_)
    refine ⟨trivial, ?_⟩
    refine RW.done ?_
    refine PO.blockN ?_
    refine PO.next ?_
    refine WP.reg ?_
    refine WL.e e_move <| WL.e (e_add (c := ((i + 1 : Nat) : Int)) rfl rfl (by rw [w_i64 (by omega) (by omega)]; omega)) <| WL.e e_assign ?_
    refine WL.nil ?_
    rw [setR_app (rising_take hr hx), show rows.take i ++ [⟨x.key, x.val⟩] = rows.take (i + 1) from (take_snoc hx).symm]
    exact PO.againK (i + 1) (by omega) (by omega)
  · rw [List.take_of_length_le (show rows.length ≤ i by rw [decide_eq_false_iff_not] at h1; omega)]
    refine WP.exit ?_
    refine PO.past nofun ?_
    refine PO.round nofun ?_
    refine PO.blockX ?_
    refine PO.next ?_
    refine WP.seq ?_
    refine WP.reg ?_
    refine WL.e e_assign ?_
    refine WL.next ?_
    refine WP.seq ?_
    refine WP.seq ?_
    refine WP.reg ?_
    refine WL.e e_assign ?_
    refine WL.next ?_
    refine WP.block ?_
    refine WP.nils 31 1 resC none ?_
    refine WP.conv (fun S h => ResR_nil h) ?_
    refine WP.loopK (fun (x : Nat × SV × List ResV) => [(9, .int .i64 x.1), (8, x.2.1.v)]) (fun (x : Nat × SV × List ResV) => Sl 31 1 resC x.2.1.v x.2.2 :: ResR x.2.2 :: Mm p (runM rows (l.take x.1)).2 :: A :: B :: R) [(1, _), (4, _), (5, _), (6, _)] (fun (x : Nat × SV × List ResV) => x.1 ≤ l.length ∧ x.2.2.map (·.2) = (runM rows (l.take x.1)).1) (fun (x : Nat × SV × List ResV) => l.length - x.1) (0, ⟨none, 0, 0⟩, []) (⟨Nat.zero_le _, rfl⟩) ?_
    rintro ⟨i, w8, ts⟩ ⟨hi, ht⟩
    simp only at hi ht
    dsimp only
    obtain ⟨hr1, hr2, hr3⟩ := runM_rows hr (l.take i)
    rw [List.length_take] at hr2
    refine WP.seq ?_
    refine WP.seq ?_
    refine WP.reg ?_
    refine WL.e e_move <| WL.e e_move ?_
    refine WL.e (el_len sl60 hB) <| WL.e e_lss ?_
    refine WL.next ?_
    refine WP.cond rfl (fun h2 => ?_) (fun h2 => ?_)
    · have hlt : i < l.length := by rw [decide_eq_true_eq] at h2; omega
      obtain ⟨x, hx⟩ : ∃ x, l[i]? = some x := ⟨_, List.getElem?_eq_getElem hlt⟩
      have hxo := hl x (List.mem_of_getElem? hx)
      refine WP.skip ?_
      refine PO.next ?_
      refine WP.seq ?_
      refine WP.block ?_
      refine WP.seq ?_
      refine WP.reg ?_
      refine WL.e (e_build z31 p31 (.z (.slice none 0 0) <| .n)) ?_
      refine WL.h (h_alloc z31 fun b1 => ?_)
      refine WL.h' (h_store s31 ?_)
      refine WL.next ?_
      refine WP.seq ?_
      refine WP.seq ?_
      refine WP.reg ?_
      refine WL.e e_move <| WL.e e_move ?_
      refine WL.e (el_ia (j := i) sl60 hB hlt) ?_
      refine WL.e (el_fa (z := 4) (j := i) f36_0 hB hlt) ?_
      refine WL.e (el_load0 (j := i) (a := x) a34 opE hB hx) ?_
      refine WL.next ?_
      refine WP.block ?_
      refine WP.seq ?_
      refine WP.reg ?_
      refine WL.e (e_eql8 (b := 1)) <| WL.e e_assign ?_
      refine WL.next ?_
      refine WP.cond rfl (fun h3 => ?_) (fun h3 => ?_)
      · replace h3 : x.kind = 1 := by simpa using h3
        have hm2 : runM rows (l.take (i + 1)) = ((runM rows (l.take i)).1 ++ [scanR (runM rows (l.take i)).2 (one x.key) 1], (runM rows (l.take i)).2) := by rw [runM_take rows hx, show doneO (runM rows (l.take i)).2 x = (scanR (runM rows (l.take i)).2 (one x.key) 1, (runM rows (l.take i)).2) by simp [doneO, h3]]
        refine WP.draws mixedOk 15 ?_
        refine RW.e 0 rfl e_move <| RW.e 1 rfl e_move <| RW.e 2 rfl e_move ?_
        refine RW.e 3 rfl (el_ia (j := i) sl60 hB hlt) ?_
        refine RW.e 4 rfl (el_fa (z := 4) (j := i) f36_1 hB hlt) ?_
        refine RW.e 5 rfl (el_load (j := i) (f := 1) (a := x) a9 opE hB hx) <| RW.e 6 rfl e_move <| RW.e 7 rfl e_move ?_
        refine RW.e 8 rfl (el_ia (j := i) sl60 hB hlt) ?_
        refine RW.e 9 rfl (el_fa (z := 4) (j := i) f36_1 hB hlt) ?_
        refine RW.e 10 rfl (el_load (j := i) (f := 1) (a := x) a9 opE hB hx) <| RW.e 11 rfl (e_build z69 p69 (.o (.tmp 56) rfl <| .o (.tmp 61) rfl <| .n)) ?_
        refine RW.any (is := [12]) rfl ⟨?_, trivial⟩
        refine RWat.h rfl rfl rfl ?_
        refine (h_call (Scan_spec (one x.key) 1 hr1 (by omega) (by decide)) k69 ?_)
        intro a5 n5 m5
        refine ⟨trivial, ?_⟩
        refine RW.e 13 rfl (e_fa f31_0) ?_
        refine RW.any (is := [14]) rfl ⟨?_, trivial⟩
        refine RWat.h' rfl rfl rfl ?_
        refine (h_store s29 ?_)
        refine ⟨trivial, ?_⟩
        refine RW.done ?_
        refine PO.blockN ?_
        refine PO.next ?_
        refine WP.reg ?_
        refine WL.e e_move <| WL.e (e_loadN a31) ?_
        refine WL.h (h_bs sl61 z31 (.a1 (.tmp 96) rfl <| .n) fun b2 => ?_)
        refine WL.h (hl_append (xs := ts) (ys := [((⟨a5, n5, m5⟩ : SV), scanR (runM rows (l.take i)).2 (one x.key) 1)]) sl61 resE z31 (lit_rl resE [((⟨a5, n5, m5⟩ : SV), scanR (runM rows (l.take i)).2 (one x.key) 1)] rfl) (by have := congrArg List.length ht; rw [List.length_map, hr3, List.length_take] at this; simp only [List.length_cons, List.length_nil]; omega) (fun a2 n2 m2 => ?_))
        refine WL.e e_assign ?_
        refine WL.nil ?_
        refine PO.blockN ?_
        refine PO.next ?_
        refine WP.reg ?_
        refine WL.e e_move <| WL.e (e_add (c := ((i + 1 : Nat) : Int)) rfl rfl (by rw [w_i64 (by omega) (by omega)]; omega)) <| WL.e e_assign ?_
        refine WL.nil ?_
        refine PO.cls (A := ResR (ts ++ [((⟨a5, n5, m5⟩ : SV), scanR (runM rows (l.take i)).2 (one x.key) 1)])) (B := [ResR ts, Sl 40 2 RowM.c (.slice a5 n5 m5) (scanR (runM rows (l.take i)).2 (one x.key) 1)]) (ResR_snoc (l := ts) (x := ((⟨a5, n5, m5⟩ : SV), scanR (runM rows (l.take i)).2 (one x.key) 1))) ?_
        refine PO.conv (conv1 (A := Mm p ((runM rows (l.take i)).2)) (B := Mm p (runM rows (l.take (i + 1))).2) (fun S h => by rw [hm2]; exact h) (by repeat first | exact .z | apply Put.s)) ?_
        exact PO.againK (i + 1, ⟨a2, n2, m2⟩, ts ++ [((⟨a5, n5, m5⟩ : SV), scanR (runM rows (l.take i)).2 (one x.key) 1)]) ⟨by simp only; omega, by simp only; rw [hm2, List.map_append, ht]; rfl⟩ (by simp only; omega)
      · replace h3 : x.kind ≠ 1 := by simpa using h3
        refine WP.seq ?_
        refine WP.reg ?_
        refine WL.e (e_eql8 (b := 4)) <| WL.e e_assign ?_
        refine WL.next ?_
        refine WP.cond rfl (fun h4 => ?_) (fun h4 => ?_)
        · replace h4 : x.kind = 4 := by simpa using h4
          have hm2 : runM rows (l.take (i + 1)) = ((runM rows (l.take i)).1 ++ [scanR (runM rows (l.take i)).2 ⟨x.key, x.to⟩ 256], (runM rows (l.take i)).2) := by rw [runM_take rows hx, show doneO (runM rows (l.take i)).2 x = (scanR (runM rows (l.take i)).2 ⟨x.key, x.to⟩ 256, (runM rows (l.take i)).2) by simp [doneO, h4]]
          refine WP.draws mixedOk 15 ?_
          refine RW.e 0 rfl e_move <| RW.e 1 rfl e_move <| RW.e 2 rfl e_move ?_
          refine RW.e 3 rfl (el_ia (j := i) sl60 hB hlt) ?_
          refine RW.e 4 rfl (el_fa (z := 4) (j := i) f36_1 hB hlt) ?_
          refine RW.e 5 rfl (el_load (j := i) (f := 1) (a := x) a9 opE hB hx) <| RW.e 6 rfl e_move <| RW.e 7 rfl e_move ?_
          refine RW.e 8 rfl (el_ia (j := i) sl60 hB hlt) ?_
          refine RW.e 9 rfl (el_fa (z := 4) (j := i) f36_2 hB hlt) ?_
          refine RW.e 10 rfl (el_load (j := i) (f := 2) (a := x) a9 opE hB hx) <| RW.e 11 rfl (e_build z69 p69 (.o (.tmp 72) rfl <| .o (.tmp 77) rfl <| .n)) ?_
          refine RW.any (is := [12]) rfl ⟨?_, trivial⟩
          refine RWat.h rfl rfl rfl ?_
          refine (h_call (Scan_spec ⟨x.key, x.to⟩ 256 hr1 (by omega) (by decide)) k69 ?_)
          intro a5 n5 m5
          refine ⟨trivial, ?_⟩
          refine RW.e 13 rfl (e_fa f31_0) ?_
          refine RW.any (is := [14]) rfl ⟨?_, trivial⟩
          refine RWat.h' rfl rfl rfl ?_
          refine (h_store s29 ?_)
          refine ⟨trivial, ?_⟩
          refine RW.done ?_
          refine PO.blockN ?_
          refine PO.next ?_
          refine WP.reg ?_
          refine WL.e e_move <| WL.e (e_loadN a31) ?_
          refine WL.h (h_bs sl61 z31 (.a1 (.tmp 96) rfl <| .n) fun b3 => ?_)
          refine WL.h (hl_append (xs := ts) (ys := [((⟨a5, n5, m5⟩ : SV), scanR (runM rows (l.take i)).2 ⟨x.key, x.to⟩ 256)]) sl61 resE z31 (lit_rl resE [((⟨a5, n5, m5⟩ : SV), scanR (runM rows (l.take i)).2 ⟨x.key, x.to⟩ 256)] rfl) (by have := congrArg List.length ht; rw [List.length_map, hr3, List.length_take] at this; simp only [List.length_cons, List.length_nil]; omega) (fun a2 n2 m2 => ?_))
          refine WL.e e_assign ?_
          refine WL.nil ?_
          refine PO.blockN ?_
          refine PO.next ?_
          refine WP.reg ?_
          refine WL.e e_move <| WL.e (e_add (c := ((i + 1 : Nat) : Int)) rfl rfl (by rw [w_i64 (by omega) (by omega)]; omega)) <| WL.e e_assign ?_
          refine WL.nil ?_
          refine PO.cls (A := ResR (ts ++ [((⟨a5, n5, m5⟩ : SV), scanR (runM rows (l.take i)).2 ⟨x.key, x.to⟩ 256)])) (B := [ResR ts, Sl 40 2 RowM.c (.slice a5 n5 m5) (scanR (runM rows (l.take i)).2 ⟨x.key, x.to⟩ 256)]) (ResR_snoc (l := ts) (x := ((⟨a5, n5, m5⟩ : SV), scanR (runM rows (l.take i)).2 ⟨x.key, x.to⟩ 256))) ?_
          refine PO.conv (conv1 (A := Mm p ((runM rows (l.take i)).2)) (B := Mm p (runM rows (l.take (i + 1))).2) (fun S h => by rw [hm2]; exact h) (by repeat first | exact .z | apply Put.s)) ?_
          exact PO.againK (i + 1, ⟨a2, n2, m2⟩, ts ++ [((⟨a5, n5, m5⟩ : SV), scanR (runM rows (l.take i)).2 ⟨x.key, x.to⟩ 256)]) ⟨by simp only; omega, by simp only; rw [hm2, List.map_append, ht]; rfl⟩ (by simp only; omega)
        · replace h4 : x.kind ≠ 4 := by simpa using h4
          refine WP.seq ?_
          refine WP.reg ?_
          refine WL.e (e_eql8 (b := 2)) <| WL.e e_assign ?_
          refine WL.next ?_
          refine WP.cond rfl (fun h5 => ?_) (fun h5 => ?_)
          · replace h5 : x.kind = 2 := by simpa using h5
            have hm2 : runM rows (l.take (i + 1)) = ((runM rows (l.take i)).1 ++ [[]], setR (runM rows (l.take i)).2 x.key x.val) := by rw [runM_take rows hx, show doneO (runM rows (l.take i)).2 x = ([], setR (runM rows (l.take i)).2 x.key x.val) by simp [doneO, h5]]
            refine WP.draws mixedOk 12 ?_
            refine RW.e 0 rfl e_move <| RW.e 1 rfl e_move <| RW.e 2 rfl e_move ?_
            refine RW.e 3 rfl (el_ia (j := i) sl60 hB hlt) ?_
            refine RW.e 4 rfl (el_fa (z := 4) (j := i) f36_1 hB hlt) ?_
            refine RW.e 5 rfl (el_load (j := i) (f := 1) (a := x) a9 opE hB hx) <| RW.e 6 rfl e_move <| RW.e 7 rfl e_move ?_
            refine RW.e 8 rfl (el_ia (j := i) sl60 hB hlt) ?_
            refine RW.e 9 rfl (el_fa (z := 4) (j := i) f36_3 hB hlt) ?_
            refine RW.e 10 rfl (el_load (j := i) (f := 3) (a := x) a22 opE hB hx) ?_
            refine RW.any (is := [11]) rfl ⟨?_, trivial⟩
            refine RWat.h rfl rfl rfl ?_
            refine (h_call (MPut_spec x.key x.val hr1 (by omega) (key_of hxo)) k72 ?_)
            refine ⟨trivial, ?_⟩
            refine RW.done ?_
            refine PO.blockN ?_
            refine PO.next ?_
            refine WP.reg ?_
            refine WL.e e_move <| WL.e (e_loadN a31) ?_
            refine WL.h (h_bs sl61 z31 (.a1 (.tmp 96) rfl <| .n) fun b4 => ?_)
            refine WL.h (hl_append (xs := ts) (ys := [((⟨none, 0, 0⟩ : SV), ([] : List RowM))]) sl61 resE z31 (lit_rl resE [((⟨none, 0, 0⟩ : SV), ([] : List RowM))] rfl) (by have := congrArg List.length ht; rw [List.length_map, hr3, List.length_take] at this; simp only [List.length_cons, List.length_nil]; omega) (fun a2 n2 m2 => ?_))
            refine WL.e e_assign ?_
            refine WL.nil ?_
            refine PO.blockN ?_
            refine PO.next ?_
            refine WP.reg ?_
            refine WL.e e_move <| WL.e (e_add (c := ((i + 1 : Nat) : Int)) rfl rfl (by rw [w_i64 (by omega) (by omega)]; omega)) <| WL.e e_assign ?_
            refine WL.nil ?_
            refine PO.nils 40 2 RowM.c none ?_
            refine PO.cls (A := ResR (ts ++ [((⟨none, 0, 0⟩ : SV), ([] : List RowM))])) (B := [ResR ts, Sl 40 2 RowM.c (.slice none 0 0) (([] : List RowM))]) (ResR_snoc (l := ts) (x := ((⟨none, 0, 0⟩ : SV), ([] : List RowM)))) ?_
            refine PO.conv (conv1 (A := Mm p (setR (runM rows (l.take i)).2 x.key x.val)) (B := Mm p (runM rows (l.take (i + 1))).2) (fun S h => by rw [hm2]; exact h) (by repeat first | exact .z | apply Put.s)) ?_
            exact PO.againK (i + 1, ⟨a2, n2, m2⟩, ts ++ [((⟨none, 0, 0⟩ : SV), ([] : List RowM))]) ⟨by simp only; omega, by simp only; rw [hm2, List.map_append, ht]; rfl⟩ (by simp only; omega)
          · replace h5 : x.kind ≠ 2 := by simpa using h5
            have hm2 : runM rows (l.take (i + 1)) = ((runM rows (l.take i)).1 ++ [[]], dropR (runM rows (l.take i)).2 x.key) := by rw [runM_take rows hx, show doneO (runM rows (l.take i)).2 x = ([], dropR (runM rows (l.take i)).2 x.key) by simp [doneO, h3, h4, h5]]
            refine WP.reg ?_
            refine WL.e e_move <| WL.e e_move <| WL.e e_move ?_
            refine WL.e (el_ia (j := i) sl60 hB hlt) ?_
            refine WL.e (el_fa (z := 4) (j := i) f36_1 hB hlt) ?_
            refine WL.e (el_load (j := i) (f := 1) (a := x) a9 opE hB hx) ?_
            refine WL.h (h_call (MDel_spec x.key hr1 (by omega) (key_of hxo)) k73 ?_)
            intro e0
            refine WL.nil ?_
            refine PO.blockN ?_
            refine PO.next ?_
            refine WP.reg ?_
            refine WL.e e_move <| WL.e (e_loadN a31) ?_
            refine WL.h (h_bs sl61 z31 (.a1 (.tmp 96) rfl <| .n) fun b5 => ?_)
            refine WL.h (hl_append (xs := ts) (ys := [((⟨none, 0, 0⟩ : SV), ([] : List RowM))]) sl61 resE z31 (lit_rl resE [((⟨none, 0, 0⟩ : SV), ([] : List RowM))] rfl) (by have := congrArg List.length ht; rw [List.length_map, hr3, List.length_take] at this; simp only [List.length_cons, List.length_nil]; omega) (fun a2 n2 m2 => ?_))
            refine WL.e e_assign ?_
            refine WL.nil ?_
            refine PO.blockN ?_
            refine PO.next ?_
            refine WP.reg ?_
            refine WL.e e_move <| WL.e (e_add (c := ((i + 1 : Nat) : Int)) rfl rfl (by rw [w_i64 (by omega) (by omega)]; omega)) <| WL.e e_assign ?_
            refine WL.nil ?_
            refine PO.nils 40 2 RowM.c none ?_
            refine PO.cls (A := ResR (ts ++ [((⟨none, 0, 0⟩ : SV), ([] : List RowM))])) (B := [ResR ts, Sl 40 2 RowM.c (.slice none 0 0) (([] : List RowM))]) (ResR_snoc (l := ts) (x := ((⟨none, 0, 0⟩ : SV), ([] : List RowM)))) ?_
            refine PO.conv (conv1 (A := Mm p (dropR (runM rows (l.take i)).2 x.key)) (B := Mm p (runM rows (l.take (i + 1))).2) (fun S h => by rw [hm2]; exact h) (by repeat first | exact .z | apply Put.s)) ?_
            exact PO.againK (i + 1, ⟨a2, n2, m2⟩, ts ++ [((⟨none, 0, 0⟩ : SV), ([] : List RowM))]) ⟨by simp only; omega, by simp only; rw [hm2, List.map_append, ht]; rfl⟩ (by simp only; omega)
    · rw [List.take_of_length_le (show l.length ≤ i by rw [decide_eq_false_iff_not] at h2; omega)] at ht ⊢
      refine WP.exit ?_
      refine PO.past nofun ?_
      refine PO.round nofun ?_
      refine PO.blockX ?_
      refine PO.next ?_
      refine WP.seq ?_
      refine WP.reg ?_
      refine WL.e e_move <| WL.e e_move ?_
      refine WL.h (h_call (Rows_spec (l := (runM rows l).2) (by have := (runM_rows hr l).2.1; omega)) k74 ?_)
      intro a9 m9 c9
      refine WL.e e_assign <| WL.e e_assign ?_
      refine WL.next ?_
      refine WP.ret ?_
      exact PO.fin Tryz.results32 (rv_tmp (rv_tmp rv_nil)) (hK w8 ts a9 m9 c9 ht)
end Go.SL
set_option linter.unusedSimpArgs false
set_option linter.unusedVariables false
namespace Go.SL.VC
open Go Go.Proofs Go.SL
theorem a108 : aggOf Tryz.prog 108 = some (some 3) := by kernel_rfl
theorem a22 : aggOf Tryz.prog 22 = some none := by kernel_rfl
theorem a4 : aggOf Tryz.prog 4 = some none := by kernel_rfl
theorem a69 : aggOf Tryz.prog 69 = some (some 2) := by kernel_rfl
theorem a9 : aggOf Tryz.prog 9 = some none := by kernel_rfl
theorem f108_0 : fldOf Tryz.prog 108 0 = some 0 := by kernel_rfl
theorem f108_1 : fldOf Tryz.prog 108 1 = some 1 := by kernel_rfl
theorem f108_2 : fldOf Tryz.prog 108 2 = some 2 := by kernel_rfl
theorem k63 : callable Tryz.prog 63 = true := by kernel_rfl
theorem k69 : callable Tryz.prog 69 = true := by kernel_rfl
theorem k71 : callable Tryz.prog 71 = true := by kernel_rfl
theorem k72 : callable Tryz.prog 72 = true := by kernel_rfl
theorem k85 : callable Tryz.prog 85 = true := by kernel_rfl
theorem mixedOk : Tryz.prog.follows .mixedOrders = true := by kernel_rfl
theorem p69 : placesOf Tryz.prog 69 = some [(0, 1), (1, 1)] := by kernel_rfl
theorem s108 : szOf Tryz.prog 108 = some 3 := by kernel_rfl
theorem s22 : szOf Tryz.prog 22 = some 1 := by kernel_rfl
theorem s4 : szOf Tryz.prog 4 = some 1 := by kernel_rfl
theorem sl103 : slOf Tryz.prog 103 = some (108, 3, 24) := by kernel_rfl
theorem z108 : zeroOf Tryz.prog 108 = some [.string .empty, .int .u32 0, .bool false] := by kernel_rfl
theorem z22 : zeroOf Tryz.prog 22 = some [.int .u32 0] := by kernel_rfl
theorem z69 : zeroOf Tryz.prog 69 = some [.string .empty, .string .empty] := by kernel_rfl
end Go.SL.VC
namespace Go.SL
open Go Go.Proofs VC
end Go.SL
