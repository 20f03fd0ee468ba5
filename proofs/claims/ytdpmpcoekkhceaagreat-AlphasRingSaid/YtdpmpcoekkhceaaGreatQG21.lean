/- VB VY VO VZ VA VC VD VE UA NF NG: rules and walks, several texts in one. -/
import Derived.Test.YtdpmpcoekkhceaaGreatQG20
import Derived.Test.YtdpmpcoekkhceaaGreatProg
import Derived.KernelRfl
set_option linter.unusedSimpArgs false
set_option linter.unusedVariables false
namespace Go.SL.VB
open Go Go.Proofs Go.SL
theorem a108 : aggOf Tryz.prog 108 = some (some 3) := by kernel_rfl
theorem a114 : aggOf Tryz.prog 114 = some none := by kernel_rfl
theorem a230 : aggOf Tryz.prog 230 = some none := by kernel_rfl
theorem a233 : aggOf Tryz.prog 233 = some none := by kernel_rfl
theorem a4 : aggOf Tryz.prog 4 = some none := by kernel_rfl
theorem a5 : aggOf Tryz.prog 5 = some none := by kernel_rfl
theorem f108_0 : fldOf Tryz.prog 108 0 = some 0 := by kernel_rfl
theorem f108_1 : fldOf Tryz.prog 108 1 = some 1 := by kernel_rfl
theorem f108_2 : fldOf Tryz.prog 108 2 = some 2 := by kernel_rfl
theorem f270_0 : fldOf Tryz.prog 270 0 = some 0 := by kernel_rfl
theorem f270_1 : fldOf Tryz.prog 270 1 = some 1 := by kernel_rfl
theorem k133 : callable Tryz.prog 133 = true := by kernel_rfl
theorem k134 : callable Tryz.prog 134 = true := by kernel_rfl
theorem k135 : callable Tryz.prog 135 = true := by kernel_rfl
theorem k136 : callable Tryz.prog 136 = true := by kernel_rfl
theorem k137 : callable Tryz.prog 137 = true := by kernel_rfl
theorem k166 : callable Tryz.prog 166 = true := by kernel_rfl
theorem k167 : callable Tryz.prog 167 = true := by kernel_rfl
theorem k168 : callable Tryz.prog 168 = true := by kernel_rfl
theorem k55 : callable Tryz.prog 55 = true := by kernel_rfl
theorem mixedOk : Tryz.prog.follows .mixedOrders = true := by kernel_rfl
theorem p270 : placesOf Tryz.prog 270 = some [(0, 1), (1, 1)] := by kernel_rfl
theorem s108 : szOf Tryz.prog 108 = some 3 := by kernel_rfl
theorem s114 : szOf Tryz.prog 114 = some 1 := by kernel_rfl
theorem s22 : szOf Tryz.prog 22 = some 1 := by kernel_rfl
theorem s230 : szOf Tryz.prog 230 = some 1 := by kernel_rfl
theorem s4 : szOf Tryz.prog 4 = some 1 := by kernel_rfl
theorem s9 : szOf Tryz.prog 9 = some 1 := by kernel_rfl
theorem sl103 : slOf Tryz.prog 103 = some (108, 3, 24) := by kernel_rfl
theorem sl114 : slOf Tryz.prog 114 = some (5, 1, 1) := by kernel_rfl
theorem z108 : zeroOf Tryz.prog 108 = some [.string .empty, .int .u32 0, .bool false] := by kernel_rfl
theorem z230 : zeroOf Tryz.prog 230 = some [.pointer none] := by kernel_rfl
theorem z270 : zeroOf Tryz.prog 270 = some [.slice none 0 0, .bool false] := by kernel_rfl
end Go.SL.VB
namespace Go.SL
open Go Go.Proofs VB
theorem recs_rl {l : List RecV} {x : RecV} (h : x ∈ l) : RL (RecsR l) 1 eB x.1.v x.2.1 := fun S hS => by
  obtain ⟨T, h1, h2⟩ := mem_stars (List.mem_map.2 ⟨x, h, rfl⟩ : recR x ∈ l.map recR) S hS
  exact rds_mono (sl_rl T h2) h1
theorem take_spec {g : World} {A : HP} {r : Nat} {v : SV} {xs rest : List UInt8} (n : Nat) (hn : xs.length = n) (hA : RL A 1 eB v.v (xs ++ rest)) : Spec Tryz.prog g 168 [.pointer (some ⟨r, 0, none⟩), .int .i64 n] [cl r 270 [v.v, .bool false], A] fun K R => ∀ y w : SV, RL A 1 eB y.v xs → RL A 1 eB w.v rest → K y.v (cl r 270 [w.v, .bool false] :: A :: R) := by
  refine Spec.intro Tryz.func168 rfl Tryz.ntmps168 rfl fun R K hK => ?_
  refine WP.seq ?_
  refine WP.reg ?_
  refine WL.e e_assign ?_
  refine WL.next ?_
  refine WP.seq ?_
  refine WP.seq ?_
  refine WP.reg ?_
  refine WL.e e_move <| WL.e e_move <| WL.e e_nil <| WL.e (e_fa f270_0) <| WL.e (e_load a114) ?_
  refine WL.e (el_len sl114 hA) <| WL.e e_gtr ?_
  refine WL.next ?_
  refine WP.cond rfl (fun h => ?_) (fun h => ?_)
  · (rw [decide_eq_true_eq] at h; simp at h; omega)
  · have hle : n ≤ (xs ++ rest).length := by simp; omega
    refine WP.skip ?_
    refine PO.next ?_
    refine WP.seq ?_
    refine WP.draws mixedOk 17 ?_
    refine RW.e 0 rfl e_move <| RW.e 1 rfl e_move <| RW.e 2 rfl e_nil <| RW.e 3 rfl (e_fa f270_0) <| RW.e 4 rfl (e_load a114) <| RW.e 5 rfl e_move ?_
    refine RW.e 6 rfl (el_to (hi := n) sl114 hA hle) <| RW.e 7 rfl e_move <| RW.e 8 rfl e_nil <| RW.e 9 rfl (e_fa f270_0) <| RW.e 10 rfl (e_load a114) <| RW.e 11 rfl e_move ?_
    refine RW.e 12 rfl (el_from (lo := n) sl114 hA hle) <| RW.e 13 rfl e_assign <| RW.e 14 rfl e_nil <| RW.e 15 rfl (e_fa f270_0) ?_
    refine RW.any (is := [16]) rfl ⟨?_, trivial⟩
    refine RWat.h' rfl rfl rfl ?_
    refine (h_store s114 ?_)
    refine ⟨trivial, ?_⟩
    refine RW.done ?_
    refine PO.next ?_
    refine WP.seq ?_
    refine WP.reg ?_
    refine WL.e e_move <| WL.e e_assign ?_
    refine WL.next ?_
    refine WP.ret ?_
    exact PO.fin Tryz.results168 (rv_tmp rv_nil) (hK (subS v 0 n 1) (subS v n (xs ++ rest).length 1) (by have := RL.to_ eB_ok hA hle; rwa [List.take_left' hn] at this) (by have := RL.from_ eB_ok hA hle; rwa [List.drop_left' hn] at this))
theorem rnumber_spec {g : World} {A : HP} {r : Nat} {v : SV} {xs rest : List UInt8} (n : Nat) (hn : xs.length = n) (hA : RL A 1 eB v.v (xs ++ rest)) (hb : n ≤ 4) : Spec Tryz.prog g 137 [.pointer (some ⟨r, 0, none⟩), .int .i64 n] [cl r 270 [v.v, .bool false], A] fun K R => ∀ w : SV, RL A 1 eB w.v rest → K (.int .u32 (beN xs).toNat) (cl r 270 [w.v, .bool false] :: A :: R) := by
  refine Spec.intro Tryz.func137 rfl Tryz.ntmps137 rfl fun R K hK => ?_
  refine WP.seq ?_
  refine WP.reg ?_
  refine WL.e e_assign ?_
  refine WL.next ?_
  refine WP.seq ?_
  refine WP.seq ?_
  refine WP.reg ?_
  refine WL.e e_move <| WL.e e_move ?_
  refine WL.h (h_call (take_spec n hn hA) k168 ?_)
  intro y w hy hw
  refine WL.e (el_len sl114 hy) <| WL.e e_move ?_
  refine WL.next ?_
  refine WP.block ?_
  refine WP.loopK (fun (x : Nat × UInt32) => [(11, .int .i64 x.1), (4, .int .u32 x.2.toNat)]) (fun (x : Nat × UInt32) => cl r 270 [w.v, .bool false] :: A :: R) [(9, _), (10, _)] (fun (x : Nat × UInt32) => x.1 ≤ xs.length ∧ x.2 = beN (xs.take x.1)) (fun (x : Nat × UInt32) => xs.length - x.1) (0, 0) (⟨Nat.zero_le _, by simp [beN]⟩) ?_
  rintro ⟨x, m⟩ ⟨hx1, hx2⟩
  simp only at hx1 hx2
  dsimp only
  refine WP.seq ?_
  refine WP.reg ?_
  refine WL.e e_lss ?_
  refine WL.next ?_
  refine WP.seq ?_
  refine WP.cond rfl (fun h2 => ?_) (fun h2 => ?_)
  · have hlt : x < xs.length := by simp at h2; omega
    obtain ⟨c, hc⟩ : ∃ c, xs[x]? = some c := ⟨_, List.getElem?_eq_getElem hlt⟩
    refine WP.skip ?_
    refine PO.next ?_
    refine WP.seq ?_
    refine WP.block ?_
    refine WP.seq ?_
    refine WP.reg ?_
    refine WL.e (el_ia sl114 hy hlt) ?_
    refine WL.e (el_load0 a5 eB_ok hy hc) <| WL.e e_assign ?_
    refine WL.next ?_
    refine WP.reg ?_
    refine WL.e e_move <| WL.e (e_shl32 (m := 8) (by decide)) <| WL.e e_move <| WL.e (e_c8to32 (by rw [Tryz.underlying5]; rfl) Tryz.underlying22) <| WL.e e_or32 <| WL.e e_assign ?_
    refine WL.nil ?_
    refine PO.blockN ?_
    refine PO.next ?_
    refine WP.reg ?_
    refine WL.e (e_add rfl rfl (w_i64 (by omega) (by omega))) <| WL.e e_move ?_
    refine WL.nil ?_
    exact PO.againK (x + 1, (m <<< 8) ||| c.toUInt32) ⟨by simp only; omega, by simp only; rw [take_snoc hc, beN_snoc, ← hx2]⟩ (by simp only; omega)
  · obtain rfl : m = beN xs := by rw [hx2, List.take_of_length_le (by simp at h2; omega)]
    refine WP.exit ?_
    refine PO.past nofun ?_
    refine PO.round nofun ?_
    refine PO.blockX ?_
    refine PO.next ?_
    refine WP.seq ?_
    refine WP.reg ?_
    refine WL.e e_move <| WL.e e_assign ?_
    refine WL.next ?_
    refine WP.ret ?_
    exact PO.fin Tryz.results137 (rv_tmp rv_nil) (hK w hw)
theorem rtext_spec {g : World} {A : HP} {r : Nat} {v : SV} {rest : List UInt8} (s : ByteArray) (hs : s.size < 256) (hA : RL A 1 eB v.v (textB s ++ rest)) : Spec Tryz.prog g 136 [.pointer (some ⟨r, 0, none⟩)] [cl r 270 [v.v, .bool false], A] fun K R => ∀ w : SV, RL A 1 eB w.v rest → K (.string s) (cl r 270 [w.v, .bool false] :: A :: R) := by
  refine Spec.intro Tryz.func136 rfl Tryz.ntmps136 rfl fun R K hK => ?_
  refine WP.seq ?_
  refine WP.reg ?_
  refine WL.e e_assign ?_
  refine WL.next ?_
  refine WP.seq ?_
  refine WP.reg ?_
  refine WL.e e_move <| WL.e e_move ?_
  refine WL.h (h_call (rnumber_spec (xs := [UInt8.ofNat s.size]) (rest := bytesOf s ++ rest) 1 rfl hA (by decide)) k137 ?_)
  intro w hw
  rw [beN_num1 _ hs]
  refine WL.e (e_conv (c := (s.size : Int)) (by rw [Tryz.underlying22]; rfl) Tryz.underlying3 rfl (w_i64 (by omega) (by omega))) ?_
  refine WL.h (h_call (take_spec (xs := bytesOf s) (rest := rest) s.size (bytesOf_len s) hw) k168 ?_)
  intro y w2 hy hw2
  refine WL.e (e_b2s Tryz.underlying114 Tryz.underlying5 Tryz.underlying9 hy) <| WL.e e_assign ?_
  refine WL.next ?_
  refine WP.ret ?_
  rw [textOf_bytes]
  exact PO.fin Tryz.results136 (rv_tmp rv_nil) (hK w2 hw2)
theorem chg1_spec {g : World} {A : HP} {r : Nat} {v : SV} {rest : List UInt8} (c : ChgM) (hc : chgOk c = true) (hA : RL A 1 eB v.v (chgB c ++ rest)) : Spec Tryz.prog g 135 [.pointer (some ⟨r, 0, none⟩)] [cl r 270 [v.v, .bool false], A] fun K R => ∀ w : SV, RL A 1 eB w.v rest → K c.v (cl r 270 [w.v, .bool false] :: A :: R) := by
  have hks := chg_size hc
  refine Spec.intro Tryz.func135 rfl Tryz.ntmps135 rfl fun R K hK => ?_
  refine WP.seq ?_
  refine WP.reg ?_
  refine WL.h (h_alloc z108 fun b1 => ?_)
  refine WL.next ?_
  refine WP.seq ?_
  refine WP.reg ?_
  refine WL.e e_move ?_
  refine WL.h (h_call (rtext_spec (rest := [if c.gone then (1 : UInt8) else 0] ++ (numB c.val 4 ++ rest)) c.key hks (by have h0 := hA; simpa [chgB] using h0)) k136 ?_)
  intro w1 hw1
  refine WL.e (e_fa f108_0) ?_
  refine WL.h' (h_store s9 ?_)
  refine WL.next ?_
  refine WP.seq ?_
  refine WP.reg ?_
  refine WL.e e_move ?_
  refine WL.h (h_call (rnumber_spec (xs := [if c.gone then (1 : UInt8) else 0]) (rest := numB c.val 4 ++ rest) 1 rfl hw1 (by decide)) k137 ?_)
  intro w2 hw2
  refine WL.e (e_eql32 (b := 1)) <| WL.e (e_fa f108_2) ?_
  refine WL.h' (h_store s4 ?_)
  refine WL.next ?_
  refine WP.seq ?_
  refine WP.reg ?_
  refine WL.e e_move ?_
  refine WL.h (h_call (rnumber_spec (xs := numB c.val 4) (rest := rest) 4 (numB_len _ _) hw2 (by decide)) k137 ?_)
  intro w3 hw3
  rw [beN_num4, gone_back c]
  refine WL.e (e_fa f108_1) ?_
  refine WL.h' (h_store s22 ?_)
  refine WL.next ?_
  refine WP.seq ?_
  refine WP.reg ?_
  refine WL.e (e_loadN a108) ?_
  refine WL.h' (h_store s108 ?_)
  refine WL.next ?_
  refine WP.ret ?_
  exact PO.fin Tryz.results135 (rv_cellN a108 rv_nil) (hK w3 hw3)
/-- What the closure of a list that is read holds. -/
def GetJ (b4 b8 r : Nat) (y : Value) : HP := fun S => ∃ _ : Unit, stars [cl b4 233 [y], cl b8 230 [.pointer (some ⟨r, 0, none⟩)]] S
theorem get1_spec {g : World} {A : HP} {r b4 b8 : Nat} {y : Value} {v : SV} {rest : List UInt8} (h1 : ∀ c rest (v : SV), chgOk c = true → RL A 1 eB v.v (chgB c ++ rest) → CallV Tryz.prog g y [.pointer (some ⟨r, 0, none⟩)] [cl r 270 [v.v, .bool false], A] fun K R => ∀ w : SV, RL A 1 eB w.v rest → K c.v (cl r 270 [w.v, .bool false] :: A :: R)) (c : ChgM) (hc : chgOk c = true) (hA : RL A 1 eB v.v (chgB c ++ rest)) : Spec Tryz.prog g 167 [.pointer (some ⟨b4, 0, none⟩), .pointer (some ⟨b8, 0, none⟩)] [GetJ b4 b8 r y, cl r 270 [v.v, .bool false], A] fun K R => ∀ w : SV, RL A 1 eB w.v rest → K c.v (GetJ b4 b8 r y :: cl r 270 [w.v, .bool false] :: A :: R) := by
  refine Spec.intro Tryz.func167 rfl Tryz.ntmps167 rfl fun R K hK => ?_
  refine WP.opn (B := fun _ : Unit => [cl b4 233 [y], cl b8 230 [.pointer (some ⟨r, 0, none⟩)]]) (fun _ h => h) fun _ => ?_
  refine WP.seq ?_
  refine WP.reg ?_
  refine WL.h (h_alloc z108 fun b1 => ?_)
  refine WL.next ?_
  refine WP.seq ?_
  refine WP.reg ?_
  refine WL.e (e_load a233) <| WL.e (e_load a230) ?_
  refine WL.h (h_cally (h1 c rest v hc hA) ?_)
  intro w hw
  refine WL.h' (h_store s108 ?_)
  refine WL.next ?_
  refine WP.ret ?_
  refine PO.cls (A := GetJ b4 b8 r y) (B := [cl b4 233 [y], cl b8 230 [.pointer (some ⟨r, 0, none⟩)]]) (fun S h => ⟨(), h⟩) ?_
  exact PO.fin Tryz.results167 (rv_cellN a108 rv_nil) (hK w hw)
theorem several_spec {g : World} {A B : HP} {r : Nat} {y : Value} {v : SV} {l : List ChgM} (h2 : ∀ c rest (v : SV), chgOk c = true → RL A 1 eB v.v (chgB c ++ rest) → CallV Tryz.prog g y [] [B, cl r 270 [v.v, .bool false], A] fun K R => ∀ w : SV, RL A 1 eB w.v rest → K c.v (B :: cl r 270 [w.v, .bool false] :: A :: R)) (hl : l.length ≤ 4096) (hok : ∀ c ∈ l, chgOk c = true) (hA : RL A 1 eB v.v (chgsB l)) : Spec Tryz.prog g 166 [.pointer (some ⟨r, 0, none⟩), y] [B, cl r 270 [v.v, .bool false], A] fun K R => ∀ a m c (w : SV), K (.slice a m c) (Sl 108 3 ChgM.c (.slice a m c) l :: B :: cl r 270 [w.v, .bool false] :: A :: R) := by
  have hln : (UInt32.ofNat l.length).toNat = l.length := by rw [UInt32.toNat_ofNat']; exact Nat.mod_eq_of_lt (by omega)
  refine Spec.intro Tryz.func166 rfl Tryz.ntmps166 rfl fun R K hK => ?_
  refine WP.seq ?_
  refine WP.reg ?_
  refine WL.e e_assign ?_
  refine WL.next ?_
  refine WP.seq ?_
  refine WP.seq ?_
  refine WP.reg ?_
  refine WL.e e_move ?_
  refine WL.h (h_call (rnumber_spec (xs := numB (UInt32.ofNat l.length) 2) (rest := l.flatMap chgB) 2 (numB_len _ _) hA (by decide)) k137 ?_)
  intro w hw
  rw [beN_num2 _ (by rw [hln]; omega), hln]
  refine WL.e e_assign ?_
  refine WL.next ?_
  refine WP.block ?_
  refine WP.nils 108 3 ChgM.c none ?_
  refine WP.loopK (fun (x : Nat × SV × SV) => [(5, .int .u32 ((l.length - x.1 : Nat) : Int)), (4, x.2.1.v)]) (fun (x : Nat × SV × SV) => Sl 108 3 ChgM.c x.2.1.v (l.take x.1) :: B :: cl r 270 [x.2.2.v, .bool false] :: A :: R) [(0, _), (1, _)] (fun (x : Nat × SV × SV) => x.1 ≤ l.length ∧ RL A 1 eB x.2.2.v ((l.drop x.1).flatMap chgB)) (fun (x : Nat × SV × SV) => l.length - x.1) (0, ⟨none, 0, 0⟩, w) (⟨Nat.zero_le _, hw⟩) ?_
  rintro ⟨i, w4, w⟩ ⟨hi, hw⟩
  simp only at hi hw
  dsimp only
  refine WP.seq ?_
  refine WP.seq ?_
  refine WP.reg ?_
  refine WL.e e_move <| WL.e e_gtr <| WL.e e_move ?_
  refine WL.join 16 (.bool (decide (i < l.length))) (.c (.c (.c (.c (.c (.c .n)))))) ?_ ?_
  · refine WL.bool 10 rfl (fun hg => ?_) (fun hg => ?_)
    · skip
      refine WL.e e_move <| WL.e e_nil <| WL.e (e_fa f270_1) <| WL.e (e_load a4) <| WL.e e_not <| WL.e e_pick_t ?_
      exact WL.nil (PO.joined rfl (by rw [decide_eq_true_eq] at hg; simp; omega))
    · skip
      refine WL.skip <| WL.skip <| WL.skip <| WL.skip <| WL.skip <| WL.e e_pick_f ?_
      exact WL.nil (PO.joined rfl (by rw [decide_eq_false_iff_not] at hg; simp; omega))
  refine WL.next ?_
  refine WP.cond rfl (fun h3 => ?_) (fun h3 => ?_)
  · have hlt : i < l.length := of_decide_eq_true h3
    obtain ⟨x, hx⟩ : ∃ x, l[i]? = some x := ⟨_, List.getElem?_eq_getElem hlt⟩
    rw [drop_cons hx, List.flatMap_cons] at hw
    refine WP.skip ?_
    refine PO.next ?_
    refine WP.seq ?_
    refine WP.block ?_
    refine WP.reg ?_
    refine WL.e e_move <| WL.e e_move ?_
    refine WL.h (h_cally (h2 x ((l.drop (i + 1)).flatMap chgB) w (hok x (List.mem_of_getElem? hx)) hw) ?_)
    intro w2 hw2
    refine WL.h (h_bs sl103 z108 (.a3 (.tmp 21) rfl <| .n) fun b1 => ?_)
    refine WL.h (hl_append (xs := l.take i) (ys := [x]) sl103 chgE z108 (lit_rl chgE [x] rfl) (by simp; omega) (fun a2 n2 c2 => ?_))
    rw [show l.take i ++ [x] = l.take (i + 1) from (take_snoc hx).symm]
    refine WL.e e_assign ?_
    refine WL.nil ?_
    refine PO.blockN ?_
    refine PO.next ?_
    refine WP.reg ?_
    refine WL.e e_move <| WL.e (e_sub (c := ((l.length - (i + 1) : Nat) : Int)) rfl rfl (by rw [w_u32 (by omega) (by omega)]; omega)) <| WL.e e_assign ?_
    refine WL.nil ?_
    exact PO.againK (i + 1, ⟨a2, n2, c2⟩, w2) ⟨by simp only; omega, hw2⟩ (by simp only; omega)
  · replace h3 := of_decide_eq_false h3
    rw [List.take_of_length_le (show l.length ≤ i by omega)]
    refine WP.exit ?_
    refine PO.past nofun ?_
    refine PO.round nofun ?_
    refine PO.blockX ?_
    refine PO.next ?_
    refine WP.seq ?_
    refine WP.reg ?_
    refine WL.e e_move <| WL.e e_assign ?_
    refine WL.next ?_
    refine WP.ret ?_
    refine PO.sh (u := w4.v) ?_
    rintro a1 n1 c1 e1
    exact PO.fin Tryz.results166 (rv_tmp rv_nil) (by have h9 := hK w4.a w4.n w4.c w; exact h9)
theorem rget_spec {g : World} {A : HP} {fn : Fn} {y2 : Value} {v : SV} {l : List ChgM} (h1 : ∀ r c rest (v : SV), chgOk c = true → RL A 1 eB v.v (chgB c ++ rest) → CallV Tryz.prog g (.func fn #[] #[]) [.pointer (some ⟨r, 0, none⟩)] [cl r 270 [v.v, .bool false], A] fun K R => ∀ w : SV, RL A 1 eB w.v rest → K c.v (cl r 270 [w.v, .bool false] :: A :: R)) (h3 : ∀ (l : List ChgM) (u : SV), l.length ≤ 4096 → l.all chgOk = true → CallV Tryz.prog g y2 [u.v] [Sl 108 3 ChgM.c u.v l] fun K R => ∀ a m c, K (.tuple #[.slice a m c, .int .i64 0]) (Sl 5 1 eB (.slice a m c) (chgsB l) :: Sl 108 3 ChgM.c u.v l :: R)) (hl : l.length ≤ 4096) (hok : ∀ c ∈ l, chgOk c = true) (hA : RL A 1 eB v.v (chgsB l)) : Spec Tryz.prog g 134 [v.v, (.func fn #[] #[]), y2] [A] fun K R => ∀ a m c, K (.tuple #[.slice a m c, .int .i64 0]) (Sl 108 3 ChgM.c (.slice a m c) l :: A :: R) := by
  refine Spec.intro Tryz.func134 rfl Tryz.ntmps134 rfl fun R K hK => ?_
  refine WP.seq ?_
  refine WP.reg ?_
  refine WL.h (h_box fun b1 => ?_)
  refine WL.e e_assign <| WL.e e_assign ?_
  refine WL.next ?_
  refine WP.seq ?_
  refine WP.reg ?_
  refine WL.e e_move <| WL.e (e_build z270 p270 (.o (.tmp 12) rfl <| .z (.bool false) <| .n)) ?_
  refine WL.h (h_box fun b2 => ?_)
  refine WL.h (h_alloc z230 fun b3 => ?_)
  refine WL.h' (h_store s230 ?_)
  refine WL.next ?_
  refine WP.seq ?_
  refine WP.reg ?_
  refine WL.e (e_load a230) <| WL.e e_makeFunc ?_
  refine WL.cls (A := GetJ b1 b3 b2 (.func fn #[] #[])) (B := [cl b1 233 [(.func fn #[] #[])], cl b3 230 [.pointer (some ⟨b2, 0, none⟩)]]) (fun S h => ⟨(), h⟩) ?_
  refine WL.h (h_call (several_spec (y := .func (.func 167) #[] #[.pointer (some ⟨b1, 0, none⟩), .pointer (some ⟨b3, 0, none⟩)]) (fun c rest v hc hr => CallV.of_spec (fs := []) (cs := [.pointer (some ⟨b1, 0, none⟩), .pointer (some ⟨b3, 0, none⟩)]) (get1_spec (h1 b2) c hc hr) k167) hl hok hA) k166 ?_)
  intro a5 n5 c5 w
  refine WL.opn (B := fun _ : Unit => [cl b1 233 [(.func fn #[] #[])], cl b3 230 [.pointer (some ⟨b2, 0, none⟩)]]) (fun _ h => h) fun _ => ?_
  refine WL.e e_assign ?_
  refine WL.next ?_
  refine WP.seq ?_
  refine WP.reg ?_
  refine WL.e e_move <| WL.e e_move ?_
  refine WL.h (h_cally (h3 l ⟨a5, n5, c5⟩ hl (List.all_eq_true.2 hok)) ?_)
  intro a6 n6 c6
  refine WL.e e_move <| WL.e e_extract <| WL.e e_extract <| WL.e e_assign <| WL.e e_assign ?_
  refine WL.next ?_
  refine WP.seq ?_
  refine WP.seq ?_
  refine WP.reg ?_
  refine WL.e (e_load a230) <| WL.e e_nil <| WL.e (e_fa f270_1) <| WL.e (e_load a4) <| WL.e e_move ?_
  refine WL.bool 28 rfl (fun y1 => ?_) (fun y1 => ?_)
  · exact absurd y1 (by decide) -- end
  · skip
    refine WL.e e_move <| WL.e e_neq <| WL.e e_pick_f <| WL.e e_move ?_
    refine WL.bool 32 rfl (fun y2 => ?_) (fun y2 => ?_)
    · exact absurd y2 (by decide) -- end
    · skip
      refine WL.e e_move <| WL.e e_move ?_
      refine WL.h (h_call (BEqual_spec hA (sl_rl (xs := chgsB l))) k133 ?_)
      rw [beq_self_eq_true]
      refine WL.e e_not <| WL.e e_pick_f ?_
      refine WL.next ?_
      refine WP.cond_f rfl ?_
      refine WP.skip ?_
      refine PO.next ?_
      refine WP.seq ?_
      refine WP.reg ?_
      refine WL.e e_move <| WL.e e_assign <| WL.e e_assign ?_
      refine WL.next ?_
      refine WP.ret ?_
      exact PO.fin Tryz.results134 (rv_tmp (rv_tmp rv_nil)) (hK a5 n5 c5)
theorem putc_call {g : World} (l : List ChgM) (u : SV) (h1 : l.length ≤ 4096) (h2 : l.all chgOk = true) : CallV Tryz.prog g (.func (.func 55) #[] #[]) [u.v] [Sl 108 3 ChgM.c u.v l] fun K R => ∀ a m c, K (.tuple #[.slice a m c, .int .i64 0]) (Sl 5 1 eB (.slice a m c) (chgsB l) :: Sl 108 3 ChgM.c u.v l :: R) := fun R K w r hw hT => by
  have hcl := (chgs_len l).2 fun c hc => List.all_eq_true.1 h2 c hc
  have hn : l.length ≤ 68719476736 := by omega
  have hb : 2 + (l.flatMap chgB).length ≤ 68719476736 := by omega
  have hs := PutChanges_spec (g := g) (A := Sl 108 3 ChgM.c u.v l) (u := u.v) (l := l) sl_rl hn hb
  have h := CallV.of_spec (fs := []) (cs := []) (args := [u.v]) hs k55
  exact h R K w r hw ⟨fun h => absurd h (by rw [h2]; simp), fun _ h => absurd h1 h, fun _ _ => hT⟩
theorem GetChanges_spec {g : World} {A : HP} {v : SV} {l : List ChgM} (hl : l.length ≤ 4096) (hok : ∀ c ∈ l, chgOk c = true) (hA : RL A 1 eB v.v (chgsB l)) : Spec Tryz.prog g 82 [v.v] [A] fun K R => ∀ a m c, K (.tuple #[.slice a m c, .int .i64 0]) (Sl 108 3 ChgM.c (.slice a m c) l :: A :: R) := by
  refine Spec.intro Tryz.func82 rfl Tryz.ntmps82 rfl fun R K hK => ?_
  refine WP.seq ?_
  refine WP.reg ?_
  refine WL.e e_assign <| WL.e e_assign ?_
  refine WL.next ?_
  refine WP.seq ?_
  refine WP.reg ?_
  refine WL.e e_move ?_
  refine WL.h (h_call (rget_spec (fn := .func 135) (y2 := .func (.func 55) #[] #[]) (fun r c rest v hc hr => CallV.of_spec (fs := []) (cs := []) (chg1_spec c hc hr) k135) putc_call hl hok hA) k134 ?_)
  intro a m c
  refine WL.e e_extract <| WL.e e_extract <| WL.e e_assign <| WL.e e_assign ?_
  refine WL.next ?_
  refine WP.ret ?_
  exact PO.fin Tryz.results82 (rv_tmp (rv_tmp rv_nil)) (hK a m c)
end Go.SL
set_option linter.unusedSimpArgs false
set_option linter.unusedVariables false
namespace Go.SL.VY
open Go Go.Proofs Go.SL
theorem a114 : aggOf Tryz.prog 114 = some none := by kernel_rfl
theorem a123 : aggOf Tryz.prog 123 = some none := by kernel_rfl
theorem a22 : aggOf Tryz.prog 22 = some none := by kernel_rfl
theorem f127_1 : fldOf Tryz.prog 127 1 = some 1 := by kernel_rfl
theorem f127_2 : fldOf Tryz.prog 127 2 = some 2 := by kernel_rfl
theorem k70 : callable Tryz.prog 70 = true := by kernel_rfl
theorem k71 : callable Tryz.prog 71 = true := by kernel_rfl
theorem k80 : callable Tryz.prog 80 = true := by kernel_rfl
theorem k81 : callable Tryz.prog 81 = true := by kernel_rfl
theorem k82 : callable Tryz.prog 82 = true := by kernel_rfl
theorem p127 : placesOf Tryz.prog 127 = some [(0, 1), (1, 1), (2, 1), (3, 1), (4, 1)] := by kernel_rfl
theorem s22 : szOf Tryz.prog 22 = some 1 := by kernel_rfl
theorem sl155 : slOf Tryz.prog 155 = some (114, 1, 24) := by kernel_rfl
theorem z127 : zeroOf Tryz.prog 127 = some [.pointer none, .pointer none, .int .u32 0, .map none, .pointer none] := by kernel_rfl
end Go.SL.VY
namespace Go.SL
open Go Go.Proofs VY
theorem rowsN_step {H : List (List ChgM)} {i : Nat} {y : List ChgM} (h : H[i]? = some y) : rowsN H (i + 1) = changeR (rowsN H i) y := by
  unfold rowsN
  rw [take_snoc h, List.flatten_append, changeR_app]; simp
set_option maxHeartbeats 4000000 in
theorem ANew_spec {g : World} {dp : Nat} {d : DiskM} {at0 : Nat} (H : List (List ChgM)) (hd : DiskLogB d at0 (H.map chgsB)) (hok : ∀ cs ∈ H, cs.length ≤ 4096 ∧ ∀ c ∈ cs, chgOk c = true) (hsum : H.flatten.length ≤ 1000000000) :
    Spec Tryz.prog g 41 [.pointer (some ⟨dp, 0, none⟩)] [Dk dp d] fun K R => ∀ p, K (.tuple #[.pointer (some ⟨p, 0, none⟩), .int .i64 0]) (As p dp (st0 d at0 H) :: TxsU TPA [] :: R) := by
  refine Spec.intro Tryz.func41 rfl Tryz.ntmps41 rfl fun R K hK => ?_
  refine WP.seq ?_
  refine WP.reg ?_
  refine WL.e e_assign <| WL.e e_assign ?_
  refine WL.next ?_
  refine WP.seq ?_
  refine WP.reg ?_
  refine WL.e e_move ?_
  refine WL.h (h_call (Open_spec hd.ok (by rw [hd.waits]; simp)) k80 ?_)
  intro lp rv xs hx
  obtain ⟨hz, ha, hc⟩ := hd.recs
  obtain rfl : tot xs = at0 := by rw [← ha, ← hx]; simp [tot]; rfl
  have hxl : xs.map (·.2.1) = H.map chgsB := by rw [← hz, ← hx]; simp
  have hlen : xs.length = H.length := by have := congrArg List.length hxl; simpa using this
  have hxb : xs.length ≤ 4096 := by have h7 := (recs_le _ d.seen.flatten (Nat.le_refl _)).2; rw [flat_seen hd.ok.l2, hd.ok.len] at h7; have h8 := hd.ok.le; have h9 := congrArg List.length hx; simp at h9; omega
  rw [hc, hd.sync]
  refine WL.e e_move <| WL.e e_extract <| WL.e e_extract <| WL.e e_extract <| WL.e e_assign <| WL.e e_assign <| WL.e e_assign ?_
  refine WL.next ?_
  refine WP.seq ?_
  refine WP.seq ?_
  refine WP.reg ?_
  refine WL.e e_move <| WL.e e_neq ?_
  refine WL.next ?_
  refine WP.cond_f rfl ?_
  refine WP.skip ?_
  refine PO.next ?_
  refine WP.seq ?_
  refine WP.reg ?_
  refine WL.e e_move ?_
  refine WL.h (h_call (MNew_spec) k71 ?_)
  intro mp
  refine WL.h (h_makeMapB (ek := eU32) fun mb => ?_)
  refine WL.h (h_call (LNew_spec) k81 ?_)
  intro kp
  refine WL.e (e_build z127 p127 (.o (.tmp 21) rfl <| .o (.tmp 22) rfl <| .z (.int .u32 0) <| .o (.tmp 23) rfl <| .o (.tmp 24) rfl <| .n)) ?_
  refine WL.h (h_box fun b1 => ?_)
  refine WL.e e_assign ?_
  refine WL.next ?_
  refine WP.seq ?_
  refine WP.seq ?_
  refine WP.reg ?_
  refine WL.e e_move ?_
  refine WL.e (el_len (xs := xs) sl155 sl_rl) <| WL.e e_move ?_
  refine WL.next ?_
  refine WP.block ?_
  refine WP.loopK (fun (i : Nat) => [(29, .int .i64 i)]) (fun (i : Nat) => cl b1 127 [.pointer (some ⟨lp, 0, none⟩), .pointer (some ⟨mp, 0, none⟩), .int .u32 (UInt32.ofNat (i)).toNat, .map (some mb), .pointer (some ⟨kp, 0, none⟩)] :: cl lp 193 [.pointer (some ⟨dp, 0, none⟩), .int .i64 (tot xs)] :: Dk dp d :: Mm mp (rowsN H (i)) :: Mp eU32 (.map (some mb)) ([] : List (UInt32 × Value)) :: Lk kp [] :: Sl 114 1 recC rv.v xs :: RecsR xs :: R) [(7, _), (27, _), (28, _)] (fun (i : Nat) => i ≤ H.length) (fun (i : Nat) => H.length - i) 0 (Nat.zero_le _) ?_
  intro i hi
  refine WP.seq ?_
  refine WP.reg ?_
  refine WL.e e_lss ?_
  refine WL.next ?_
  refine WP.seq ?_
  refine WP.cond rfl (fun h1 => ?_) (fun h1 => ?_)
  · have hlt : i < xs.length := by rw [decide_eq_true_eq] at h1; omega
    obtain ⟨x, hxi⟩ : ∃ x, xs[i]? = some x := ⟨_, List.getElem?_eq_getElem hlt⟩
    obtain ⟨y, hy⟩ : ∃ y, H[i]? = some y := ⟨_, List.getElem?_eq_getElem (by omega)⟩
    have hxy : x.2.1 = chgsB y := by have := congrArg (·[i]?) hxl; simpa [hxi, hy] using this
    have hrl := recs_rl (List.mem_of_getElem? hxi)
    obtain ⟨hy1, hy2⟩ := hok y (List.mem_of_getElem? hy)
    have hrn := rowsN_len H i
    refine WP.skip ?_
    refine PO.next ?_
    refine WP.seq ?_
    refine WP.block ?_
    refine WP.seq ?_
    refine WP.reg ?_
    refine WL.e (el_ia (j := i) (xs := xs) sl155 sl_rl hlt) ?_
    refine WL.e (el_load0 (j := i) (xs := xs) (a := x) a114 recCE sl_rl hxi) <| WL.e e_assign ?_
    refine WL.next ?_
    refine WP.seq ?_
    refine WP.reg ?_
    refine WL.e e_move ?_
    refine WL.h (h_call (GetChanges_spec (v := x.1) (l := y) hy1 hy2 (hxy ▸ hrl)) k82 ?_)
    intro a5 n5 c5
    refine WL.e e_move <| WL.e e_extract <| WL.e e_extract <| WL.e e_assign <| WL.e e_assign ?_
    refine WL.next ?_
    refine WP.seq ?_
    refine WP.seq ?_
    refine WP.reg ?_
    refine WL.e e_move <| WL.e e_neq <| WL.e e_move ?_
    refine WL.bool 40 rfl (fun hg => ?_) (fun hg => ?_)
    · exact absurd hg (by decide) -- end
    · skip
      refine WL.e e_move <| WL.e e_nil <| WL.e (e_fa f127_1) <| WL.e (e_load a123) <| WL.e e_move ?_
      refine WL.h (h_call (Change_spec (l := rowsN H i) (cs := y) (sl_rl (E := 108)) (rowsN_rising _ _) (by omega)) k70 ?_)
      refine ⟨fun hb => absurd hb (by rw [List.any_eq_false.2 fun c hc => by simp [hy2 c hc]]; simp), fun _ => ?_⟩
      refine WL.e e_neq <| WL.e e_pick_f ?_
      refine WL.next ?_
      refine WP.cond_f rfl ?_
      refine WP.skip ?_
      refine PO.next ?_
      refine WP.reg ?_
      refine WL.e e_move <| WL.e e_nil <| WL.e (e_fa f127_2) <| WL.e (e_load a22) <| WL.e (e_add32 (b := 1)) <| WL.e e_nil <| WL.e (e_fa f127_2) ?_
      refine WL.h' (h_store s22 ?_)
      refine WL.nil ?_
      refine PO.blockN ?_
      refine PO.next ?_
      refine WP.reg ?_
      refine WL.e (e_add rfl rfl (w_i64 (by omega) (by omega))) <| WL.e e_move ?_
      refine WL.nil ?_
      rw [← rowsN_step hy, show UInt32.ofNat i + 1 = UInt32.ofNat (i + 1) by simp [UInt32.ofNat_add]]
      exact PO.againK (i + 1) (by omega) (by omega)
  · have hih : i = H.length := by rw [decide_eq_false_iff_not] at h1; omega
    subst hih
    refine WP.exit ?_
    refine PO.past nofun ?_
    refine PO.round nofun ?_
    refine PO.blockX ?_
    refine PO.next ?_
    refine WP.seq ?_
    refine WP.reg ?_
    refine WL.e e_move <| WL.e e_assign <| WL.e e_assign ?_
    refine WL.next ?_
    refine WP.ret ?_
    refine PO.conv (fun S h => TxsU_nil (TP := TPA) h) ?_
    refine PO.cls (A := As b1 dp (st0 d (tot xs) H)) (B := [cl b1 127 [.pointer (some ⟨lp, 0, none⟩), .pointer (some ⟨mp, 0, none⟩), .int .u32 (UInt32.ofNat (H.length)).toNat, .map (some mb), .pointer (some ⟨kp, 0, none⟩)], cl lp 193 [.pointer (some ⟨dp, 0, none⟩), .int .i64 (tot xs)], Dk dp d, Mm mp (rowsN H (H.length)), Mp eU32 (.map (some mb)) ([] : List (UInt32 × Value)), Lk kp []]) (fun S h => ⟨(lp, mp, kp, mb), h⟩) ?_
    exact PO.fin Tryz.results41 (rv_tmp (rv_tmp rv_nil)) (hK b1)
end Go.SL
set_option linter.unusedSimpArgs false
set_option linter.unusedVariables false
namespace Go.SL.VO
open Go Go.Proofs Go.SL
theorem a22 : aggOf Tryz.prog 22 = some none := by kernel_rfl
theorem mixedOk : Tryz.prog.follows .mixedOrders = true := by kernel_rfl
theorem sl82 : slOf Tryz.prog 82 = some (22, 1, 4) := by kernel_rfl
end Go.SL.VO
namespace Go.SL
open Go Go.Proofs VO
theorem ClipU_spec {g : World} {u : Value} {xs : List UInt32} : Spec Tryz.prog g 75 [u] [Sl 22 1 u32C u xs] fun K R => ∀ a m c, K (.slice a m c) (Sl 22 1 u32C (.slice a m c) xs :: R) := by
  refine Spec.intro Tryz.func75 rfl Tryz.ntmps75 rfl fun R K hK => ?_
  refine WP.seq ?_
  refine WP.reg ?_
  refine WL.e e_assign ?_
  refine WL.next ?_
  refine WP.seq ?_
  refine WP.reg ?_
  refine WL.e e_move <| WL.e e_move ?_
  refine WL.e (el_len (xs := xs) sl82 sl_rl) <| WL.e e_move ?_
  refine WL.e (el_len (xs := xs) sl82 sl_rl) ?_
  refine WL.e (el_to3 (hi := xs.length) (xs := xs) sl82 sl_rl (Nat.le_refl _)) <| WL.e e_assign ?_
  refine WL.next ?_
  refine WP.ret ?_
  refine PO.conv (conv1 (A := Sl 22 1 u32C u xs) (B := Sl 22 1 u32C (subV u 0 xs.length (some xs.length) 1) xs) (fun S h => by have h2 := sl_to3 (i := xs.length) u32E h (Nat.le_refl _); rwa [List.take_length] at h2) (by repeat first | exact .z | apply Put.s)) ?_
  refine PO.sh (u := subV u 0 xs.length (some xs.length) 1) fun a9 m9 c9 e9 => ?_
  rw [e9]
  exact PO.fin Tryz.results75 (rv_tmp rv_nil) (hK a9 m9 c9)
def idC (t : TxT) : List Value := u32C t.id
theorem idE : EncOk 1 idC := ⟨fun _ => rfl, fun _ => rfl⟩
end Go.SL
set_option linter.unusedSimpArgs false
set_option linter.unusedVariables false
namespace Go.SL.VZ
open Go Go.Proofs Go.SL
theorem a124 : aggOf Tryz.prog 124 = some none := by kernel_rfl
theorem a82 : aggOf Tryz.prog 82 = some none := by kernel_rfl
theorem f127_3 : fldOf Tryz.prog 127 3 = some 3 := by kernel_rfl
theorem k128 : callable Tryz.prog 128 = true := by kernel_rfl
theorem k129 : callable Tryz.prog 129 = true := by kernel_rfl
theorem k130 : callable Tryz.prog 130 = true := by kernel_rfl
theorem k161 : callable Tryz.prog 161 = true := by kernel_rfl
theorem k61 : callable Tryz.prog 61 = true := by kernel_rfl
theorem k75 : callable Tryz.prog 75 = true := by kernel_rfl
theorem k76 : callable Tryz.prog 76 = true := by kernel_rfl
theorem k77 : callable Tryz.prog 77 = true := by kernel_rfl
theorem s82 : szOf Tryz.prog 82 = some 1 := by kernel_rfl
theorem sl82 : slOf Tryz.prog 82 = some (22, 1, 4) := by kernel_rfl
theorem z22 : zeroOf Tryz.prog 22 = some [.int .u32 0] := by kernel_rfl
end Go.SL.VZ
namespace Go.SL
open Go Go.Proofs VZ
theorem AKeys_spec {g : World} {m : Nat} : Spec Tryz.prog g 77 [.map (some m)] [] fun K R => ∀ b, K (.func (.func 130) #[] #[.pointer (some ⟨b, 0, none⟩)]) (cl b 124 [.map (some m)] :: R) := by
  refine Spec.intro Tryz.func77 rfl Tryz.ntmps77 rfl fun R K hK => ?_
  refine WP.seq ?_
  refine WP.reg ?_
  refine WL.h (h_box fun b1 => ?_)
  refine WL.e e_assign ?_
  refine WL.next ?_
  refine WP.seq ?_
  refine WP.reg ?_
  refine WL.e e_makeFunc <| WL.e e_assign ?_
  refine WL.next ?_
  refine WP.ret ?_
  exact PO.fin Tryz.results77 (rv_tmp rv_nil) (hK b1)
theorem AKeys_iter {g : World} {b m : Nat} {ts : List (TxT)} : Iter Tryz.prog g 130 (fun y => [] ++ [y] ++ [.pointer (some ⟨b, 0, none⟩)]) [cl b 124 [.map (some m)], Mp eU32 (.map (some m)) (List.map kvU ts)] idC (fun _ => pu True) (fun xs => xs.Perm ts) (fun pre => ∃ r, (pre ++ r).Perm ts) [cl b 124 [.map (some m)], Mp eU32 (.map (some m)) (List.map kvU ts)] := by
  intro y J X cont hy
  refine Spec.intro Tryz.func130 rfl Tryz.ntmps130 rfl fun R K hK => ?_
  refine WP.seq ?_
  refine WP.reg ?_
  refine WL.e (e_load a124) ?_
  refine WL.h (h_range (kvs := List.map kvU ts) Tryz.underlying124 fun it => ?_)
  refine WL.next ?_
  refine WP.block ?_
  refine WP.loopK (fun (x : List (TxT) × List (TxT) × Option (UInt32 × Value)) => []) (fun (x : List (TxT) × List (TxT) × Option (UInt32 × Value)) => J x.2.1 :: MpIt eU32 (.map (some m)) it (List.map kvU ts) (List.map kvU x.1) x.2.2 :: cl b 124 [.map (some m)] :: R) [(0, _), (5, _)] (fun (x : List (TxT) × List (TxT) × Option (UInt32 × Value)) => (x.2.1 ++ x.1).Perm ts ∧ Hist cont x.2.1) (fun (x : List (TxT) × List (TxT) × Option (UInt32 × Value)) => x.1.length) (ts, [], none) (⟨.refl _, Hist.nil⟩) ?_
  rintro ⟨left, pre, cur⟩ ⟨hx1, hx2⟩
  simp only at hx1 hx2
  dsimp only
  refine WP.seq ?_
  refine WP.reg ?_
  refine WL.h (h_next (fun h0 => ?_) (fun a y0 b0 hx => ?_))
  · have hl0 : left = [] := by simpa using h0
    subst hl0
    refine WL.e e_extract ?_
    refine WL.next ?_
    refine WP.seq ?_
    refine WP.cond_f rfl ?_
    refine WP.exit ?_
    refine PO.past nofun ?_
    refine PO.round nofun ?_
    refine PO.blockX ?_
    exact PO.fin Tryz.results130 rv_nil (hK.1 pre (by simpa using hx1) hx2)
  · obtain ⟨A1, y, B1, hl, rfl, rfl, rfl⟩ := map_mid hx
    have hpp : (pre ++ ([y] ++ (A1 ++ B1))).Perm ts := by refine List.Perm.trans ?_ hx1; rw [hl]; exact List.Perm.append_left _ (List.perm_middle (a := y) (l₁ := A1) (l₂ := B1)).symm
    refine WL.e e_extract ?_
    refine WL.next ?_
    refine WP.seq ?_
    refine WP.cond_t rfl ?_
    refine WP.skip ?_
    refine PO.next ?_
    refine WP.block ?_
    refine WP.seq ?_
    refine WP.reg ?_
    refine WL.e e_entry <| WL.e e_extract <| WL.e e_assign ?_
    refine WL.next ?_
    refine WP.seq ?_
    refine WP.reg ?_
    refine WL.e e_move <| WL.e e_move ?_
    refine WL.h (HO.conv (fun S h => pu_stars trivial h) (h_cally (hy pre y ⟨_, by rw [List.append_assoc]; exact hpp⟩ hx2) ?_))
    refine ⟨fun hc => ?_, fun hc => ?_⟩
    · skip
      refine WL.e e_not ?_
      refine WL.next ?_
      refine WP.cond_f rfl ?_
      refine WP.skip ?_
      refine PO.blockN ?_
      rw [← List.map_append]
      exact PO.againK (A1 ++ B1, pre ++ [y], _) ⟨by simp only; rw [List.append_assoc]; exact hpp, hx2.snoc hc⟩ (by simp only [hl, List.length_append, List.length_cons]; omega)
    · skip
      refine WL.e e_not ?_
      refine WL.next ?_
      refine WP.cond_t rfl ?_
      refine WP.ret ?_
      refine PO.blockR ?_
      refine PO.round nofun ?_
      refine PO.blockR ?_
      refine PO.conv (conv1 (A := MpIt eU32 (.map (some m)) it (List.map kvU ts) _ _) (B := Mp eU32 (.map (some m)) (List.map kvU ts)) MpIt_Mp (by repeat first | exact .z | apply Put.s)) ?_
      exact PO.fin Tryz.results130 rv_nil (hK.2 pre y ⟨_, by rw [List.append_assoc]; exact hpp⟩ hx2 hc)
def AKJ (b : Nat) (pre : List (TxT)) : HP := fun S => ∃ sv : SV, stars [cl b 82 [sv.v], Sl 22 1 idC sv.v pre] S
theorem AKA_spec {g : World} {b m : Nat} {ts : List (TxT)} (hn : ts.length ≤ 68719476736) : Spec Tryz.prog g 161 [.slice none 0 0, .func (.func 130) #[] #[.pointer (some ⟨b, 0, none⟩)]] [cl b 124 [.map (some m)], Mp eU32 (.map (some m)) (List.map kvU ts)] fun K R => ∀ a n c xs, xs.Perm ts → K (.slice a n c) (Sl 22 1 idC (.slice a n c) xs :: cl b 124 [.map (some m)] :: Mp eU32 (.map (some m)) (List.map kvU ts) :: R) := by
  refine Spec.intro Tryz.func161 rfl Tryz.ntmps161 rfl fun R K hK => ?_
  refine WP.seq ?_
  refine WP.reg ?_
  refine WL.h (h_box fun b1 => ?_)
  refine WL.e e_assign ?_
  refine WL.next ?_
  refine WP.seq ?_
  refine WP.seq ?_
  refine WP.reg ?_
  refine WL.e e_move ?_
  refine WL.next ?_
  refine WP.block ?_
  refine WP.nils 22 1 idC none ?_
  refine WP.cls (A := AKJ b1 []) (B := [cl b1 82 [.slice none 0 0], Sl 22 1 idC (.slice none 0 0) ([])]) (fun S h => ⟨⟨none, 0, 0⟩, h⟩) ?_
  refine WP.range (R := ?RR) (f := 130) (fs := []) (cs := [.pointer (some ⟨b, 0, none⟩)]) (AKJ b1) (fun _ _ _ => pu True) (fun _ _ => True) (AKeys_iter (b := b) (m := m) (ts := ts)) k130 ?hLL ?_ ?_ ?_ (fun _ => rfl)
  case hLL => repeat first | exact .nil | exact Pick.z | apply Pick.s | apply Split.cons
  · rintro lb db fn tmps pre x R2 hp hh
    refine WP.opn (B := fun sv : SV => [cl b1 82 [sv.v], Sl 22 1 idC (sv.v) (pre)]) (fun _ h => h) fun sv => ?_
    have hlen : pre.length + 1 ≤ 68719476736 := by obtain ⟨r, hr⟩ := hp; have := hr.length_eq; simp only [List.length_append, List.length_cons, List.length_nil] at this; omega
    refine WP.reg ?_
    refine WL.e e_assign ?_
    refine WL.nil ?_
    refine PO.asg rfl (by repeat first | exact .z | apply Put.s) ?_
    refine WP.block ?_
    refine WP.reg ?_
    refine WL.e (e_load a82) <| WL.e e_move ?_
    refine WL.h (h_bs sl82 z22 (.o (.tmp 9) rfl <| .n) fun b2 => ?_)
    refine WL.h (hl_append (xs := pre) (ys := [x]) sl82 idE z22 (lit_rl idE [x] rfl) (by simp; omega) (fun a5 n5 c5 => ?_))
    refine WL.h' (h_store s82 ?_)
    refine WL.nil ?_
    refine PO.blockN ?_
    refine PO.cls (A := AKJ b1 (pre ++ [x])) (B := [cl b1 82 [.slice a5 n5 c5], Sl 22 1 idC (.slice a5 n5 c5) (pre ++ [x])]) (fun S h => ⟨⟨a5, n5, c5⟩, h⟩) ?_
    exact PO.rnd trivial (by repeat first | exact .refl | exact Pick.z | apply Pick.s | apply Sub.cons | apply Sub.drop)
  · rintro db xs hp hh
    refine PO.opn (B := fun sv : SV => [cl b1 82 [sv.v], Sl 22 1 idC (sv.v) (xs)]) (fun _ h => h) fun sv => ?_
    obtain ⟨a9, n9, c9⟩ := sv
    refine PO.blockN ?_
    refine PO.next ?_
    refine WP.seq ?_
    refine WP.reg ?_
    refine WL.e (e_load a82) <| WL.e e_assign ?_
    refine WL.next ?_
    refine WP.ret ?_
    exact PO.finM (by repeat first | exact .z | apply Put.s) Tryz.results161 (rv_tmp rv_nil) (hK a9 n9 c9 xs hp)
  · exact fun _ _ _ _ _ _ hc => absurd trivial hc
theorem AKC_spec {g : World} {b m : Nat} {ts : List (TxT)} (hn : ts.length ≤ 68719476736) : Spec Tryz.prog g 128 [.func (.func 130) #[] #[.pointer (some ⟨b, 0, none⟩)]] [cl b 124 [.map (some m)], Mp eU32 (.map (some m)) (List.map kvU ts)] fun K R => ∀ a n c xs, xs.Perm ts → K (.slice a n c) (Sl 22 1 idC (.slice a n c) xs :: cl b 124 [.map (some m)] :: Mp eU32 (.map (some m)) (List.map kvU ts) :: R) := by
  refine Spec.intro Tryz.func128 rfl Tryz.ntmps128 rfl fun R K hK => ?_
  refine WP.seq ?_
  refine WP.reg ?_
  refine WL.e e_assign ?_
  refine WL.next ?_
  refine WP.seq ?_
  refine WP.reg ?_
  refine WL.e e_move ?_
  refine WL.h (h_call (AKA_spec hn) k161 ?_)
  intro a n c xs hp
  refine WL.e e_assign ?_
  refine WL.next ?_
  refine WP.ret ?_
  exact PO.fin Tryz.results128 (rv_tmp rv_nil) (hK a n c xs hp)
theorem ASortedU_spec {g : World} {b m : Nat} {ts : List TxT} (hn : ts.length ≤ 68719476736) : Spec Tryz.prog g 76 [.func (.func 130) #[] #[.pointer (some ⟨b, 0, none⟩)]] [cl b 124 [.map (some m)], Mp eU32 (.map (some m)) (List.map kvU ts)] fun K R => ∀ a n c ys, ys.Perm (ts.map (·.id)) → (ys.Pairwise fun x y => x ≤ y) → K (.slice a n c) (Sl 22 1 u32C (.slice a n c) (ys) :: cl b 124 [.map (some m)] :: Mp eU32 (.map (some m)) (List.map kvU ts) :: R) := by
  refine Spec.intro Tryz.func76 rfl Tryz.ntmps76 rfl fun R K hK => ?_
  refine WP.seq ?_
  refine WP.reg ?_
  refine WL.e e_assign ?_
  refine WL.next ?_
  refine WP.seq ?_
  refine WP.reg ?_
  refine WL.e e_move ?_
  refine WL.h (h_call (AKC_spec hn) k128 ?_)
  intro a n c xs hp
  refine WL.e e_assign ?_
  refine WL.next ?_
  refine WP.seq ?_
  refine WP.reg ?_
  refine WL.e e_move ?_
  refine WL.conv (conv1 (A := Sl 22 1 idC (.slice a n c) xs) (B := Sl 22 1 u32C (.slice a n c) (xs.map (·.id))) (fun S h => sl_map (enc := u32C) (f := fun t : TxT => t.id) h) (by repeat first | exact .z | apply Put.s)) ?_
  refine WL.h (h_call (Sort32_spec (xs.map (·.id)) (by rw [List.length_map, hp.length_eq]; exact hn)) k129 ?_)
  intro ys h1 h2
  refine WL.next ?_
  refine WP.seq ?_
  refine WP.reg ?_
  refine WL.e e_move <| WL.e e_assign ?_
  refine WL.next ?_
  refine WP.ret ?_
  exact PO.fin Tryz.results76 (rv_tmp rv_nil) (hK a n c ys (h1.trans (hp.map _)) h2)
theorem AOpen_spec {g : World} {p dp : Nat} {s : StV} (hn : s.txs.length ≤ 68719476736) : Spec Tryz.prog g 39 [.pointer (some ⟨p, 0, none⟩)] [As p dp s] fun K R => ∀ a n c ys, ys.Perm (s.txs.map (·.id)) → (ys.Pairwise fun x y => x ≤ y) → K (.slice a n c) (Sl 22 1 u32C (.slice a n c) (ys) :: As p dp s :: R) := by
  refine Spec.intro Tryz.func39 rfl Tryz.ntmps39 rfl fun R K hK => ?_
  refine WP.seq ?_
  refine WP.reg ?_
  refine WL.e e_assign ?_
  refine WL.next ?_
  refine WP.seq ?_
  refine WP.seq ?_
  refine WP.reg ?_
  refine WL.e e_move ?_
  refine WL.h (h_call (Athere_spec) k61 ?_)
  refine WL.e e_not ?_
  refine WL.next ?_
  refine WP.cond_f rfl ?_
  refine WP.opn (As_op (p := p) (dp := dp) (s := s)) fun x => ?_
  obtain ⟨lp, mp, kp, mb⟩ := x
  dsimp only
  refine WP.skip ?_
  refine PO.next ?_
  refine WP.seq ?_
  refine WP.reg ?_
  refine WL.e e_move <| WL.e e_nil <| WL.e (e_fa f127_3) <| WL.e (e_load a124) ?_
  refine WL.h (h_call (AKeys_spec (m := mb)) k77 ?_)
  intro b
  refine WL.h (h_call (ASortedU_spec (b := b) (m := mb) (ts := s.txs) hn) k76 ?_)
  intro a1 n1 c1 ys h1 h2
  refine WL.h (h_call (ClipU_spec) k75 ?_)
  intro a2 n2 c2
  refine WL.e e_assign ?_
  refine WL.next ?_
  refine WP.ret ?_
  refine PO.cls (A := As p dp (s)) (B := [cl p 127 [.pointer (some ⟨lp, 0, none⟩), .pointer (some ⟨mp, 0, none⟩), .int .u32 (UInt32.ofNat s.H.length).toNat, .map (some mb), .pointer (some ⟨kp, 0, none⟩)], cl lp 193 [.pointer (some ⟨dp, 0, none⟩), .int .i64 s.at_], Dk dp s.d, Mm mp s.rows, Mp eU32 (.map (some mb)) (List.map kvU s.txs), Lk kp s.locks]) (fun S h => ⟨(lp, mp, kp, mb), h⟩) ?_
  exact PO.fin Tryz.results39 (rv_tmp rv_nil) (hK a2 n2 c2 ys h1 h2)
end Go.SL
set_option linter.unusedSimpArgs false
set_option linter.unusedVariables false
namespace Go.SL.VA
open Go Go.Proofs Go.SL
theorem a22 : aggOf Tryz.prog 22 = some none := by kernel_rfl
theorem a29 : aggOf Tryz.prog 29 = some none := by kernel_rfl
theorem a31 : aggOf Tryz.prog 31 = some (some 1) := by kernel_rfl
theorem a34 : aggOf Tryz.prog 34 = some none := by kernel_rfl
theorem a40 : aggOf Tryz.prog 40 = some (some 2) := by kernel_rfl
theorem a9 : aggOf Tryz.prog 9 = some none := by kernel_rfl
theorem f31_0 : fldOf Tryz.prog 31 0 = some 0 := by kernel_rfl
theorem f36_0 : fldOf Tryz.prog 36 0 = some 0 := by kernel_rfl
theorem f36_1 : fldOf Tryz.prog 36 1 = some 1 := by kernel_rfl
theorem f36_2 : fldOf Tryz.prog 36 2 = some 2 := by kernel_rfl
theorem f36_3 : fldOf Tryz.prog 36 3 = some 3 := by kernel_rfl
theorem f40_0 : fldOf Tryz.prog 40 0 = some 0 := by kernel_rfl
theorem f40_1 : fldOf Tryz.prog 40 1 = some 1 := by kernel_rfl
theorem k122 : callable Tryz.prog 122 = true := by kernel_rfl
theorem k125 : callable Tryz.prog 125 = true := by kernel_rfl
theorem k126 : callable Tryz.prog 126 = true := by kernel_rfl
theorem k69 : callable Tryz.prog 69 = true := by kernel_rfl
theorem k71 : callable Tryz.prog 71 = true := by kernel_rfl
theorem k74 : callable Tryz.prog 74 = true := by kernel_rfl
theorem k85 : callable Tryz.prog 85 = true := by kernel_rfl
theorem mixedOk : Tryz.prog.follows .mixedOrders = true := by kernel_rfl
theorem p31 : placesOf Tryz.prog 31 = some [(0, 1)] := by kernel_rfl
theorem p69 : placesOf Tryz.prog 69 = some [(0, 1), (1, 1)] := by kernel_rfl
theorem s29 : szOf Tryz.prog 29 = some 1 := by kernel_rfl
theorem s31 : szOf Tryz.prog 31 = some 1 := by kernel_rfl
theorem sl29 : slOf Tryz.prog 29 = some (40, 2, 24) := by kernel_rfl
theorem z31 : zeroOf Tryz.prog 31 = some [.slice none 0 0] := by kernel_rfl
theorem z69 : zeroOf Tryz.prog 69 = some [.string .empty, .string .empty] := by kernel_rfl
end Go.SL.VA
namespace Go.SL
open Go Go.Proofs VA
theorem RdS.mono {S T : Piece} {z n : Nat} {u : Value} {cs : List Value} (h : RdS S z u n cs) (hl : le S T) : RdS T z u n cs := by
  rcases h with h | ⟨b, o, c, l, t, h1, h2, h3, h4, h5⟩
  · exact .inl h
  · exact .inr ⟨b, o, c, l, t, h1, h2, hl _ _ h3, h4, h5⟩
end Go.SL
set_option linter.unusedSimpArgs false
set_option linter.unusedVariables false
namespace Go.SL.VC
open Go Go.Proofs Go.SL
theorem a108 : aggOf Tryz.prog 108 = some (some 3) := by kernel_rfl
theorem a22 : aggOf Tryz.prog 22 = some none := by kernel_rfl
theorem a4 : aggOf Tryz.prog 4 = some none := by kernel_rfl
theorem a69 : aggOf Tryz.prog 69 = some (some 2) := by kernel_rfl
theorem a9 : aggOf Tryz.prog 9 = some none := by kernel_rfl
theorem f108_0 : fldOf Tryz.prog 108 0 = some 0 := by kernel_rfl
theorem f108_1 : fldOf Tryz.prog 108 1 = some 1 := by kernel_rfl
theorem f108_2 : fldOf Tryz.prog 108 2 = some 2 := by kernel_rfl
theorem k63 : callable Tryz.prog 63 = true := by kernel_rfl
theorem k69 : callable Tryz.prog 69 = true := by kernel_rfl
theorem k71 : callable Tryz.prog 71 = true := by kernel_rfl
theorem k85 : callable Tryz.prog 85 = true := by kernel_rfl
theorem mixedOk : Tryz.prog.follows .mixedOrders = true := by kernel_rfl
theorem p69 : placesOf Tryz.prog 69 = some [(0, 1), (1, 1)] := by kernel_rfl
theorem s108 : szOf Tryz.prog 108 = some 3 := by kernel_rfl
theorem s22 : szOf Tryz.prog 22 = some 1 := by kernel_rfl
theorem s4 : szOf Tryz.prog 4 = some 1 := by kernel_rfl
theorem sl103 : slOf Tryz.prog 103 = some (108, 3, 24) := by kernel_rfl
theorem z108 : zeroOf Tryz.prog 108 = some [.string .empty, .int .u32 0, .bool false] := by kernel_rfl
theorem z22 : zeroOf Tryz.prog 22 = some [.int .u32 0] := by kernel_rfl
theorem z69 : zeroOf Tryz.prog 69 = some [.string .empty, .string .empty] := by kernel_rfl
end Go.SL.VC
namespace Go.SL
open Go Go.Proofs VC
end Go.SL
set_option linter.unusedSimpArgs false
set_option linter.unusedVariables false
namespace Go.SL.VD
open Go Go.Proofs Go.SL
theorem a103 : aggOf Tryz.prog 103 = some none := by kernel_rfl
theorem a108 : aggOf Tryz.prog 108 = some (some 3) := by kernel_rfl
theorem a22 : aggOf Tryz.prog 22 = some none := by kernel_rfl
theorem a4 : aggOf Tryz.prog 4 = some none := by kernel_rfl
theorem a40 : aggOf Tryz.prog 40 = some (some 2) := by kernel_rfl
theorem a69 : aggOf Tryz.prog 69 = some (some 2) := by kernel_rfl
theorem a9 : aggOf Tryz.prog 9 = some none := by kernel_rfl
theorem f108_0 : fldOf Tryz.prog 108 0 = some 0 := by kernel_rfl
theorem f108_1 : fldOf Tryz.prog 108 1 = some 1 := by kernel_rfl
theorem f108_2 : fldOf Tryz.prog 108 2 = some 2 := by kernel_rfl
theorem f40_0 : fldOf Tryz.prog 40 0 = some 0 := by kernel_rfl
theorem k142 : callable Tryz.prog 142 = true := by kernel_rfl
theorem k178 : callable Tryz.prog 178 = true := by kernel_rfl
theorem k63 : callable Tryz.prog 63 = true := by kernel_rfl
theorem k90 : callable Tryz.prog 90 = true := by kernel_rfl
theorem mixedOk : Tryz.prog.follows .mixedOrders = true := by kernel_rfl
theorem p40 : placesOf Tryz.prog 40 = some [(0, 1), (1, 1)] := by kernel_rfl
theorem p69 : placesOf Tryz.prog 69 = some [(0, 1), (1, 1)] := by kernel_rfl
theorem s108 : szOf Tryz.prog 108 = some 3 := by kernel_rfl
theorem s40 : szOf Tryz.prog 40 = some 2 := by kernel_rfl
theorem sl103 : slOf Tryz.prog 103 = some (108, 3, 24) := by kernel_rfl
theorem sl29 : slOf Tryz.prog 29 = some (40, 2, 24) := by kernel_rfl
theorem z108 : zeroOf Tryz.prog 108 = some [.string .empty, .int .u32 0, .bool false] := by kernel_rfl
theorem z40 : zeroOf Tryz.prog 40 = some [.string .empty, .int .u32 0] := by kernel_rfl
theorem z69 : zeroOf Tryz.prog 69 = some [.string .empty, .string .empty] := by kernel_rfl
end Go.SL.VD
namespace Go.SL
open Go Go.Proofs VD
end Go.SL
set_option linter.unusedSimpArgs false
set_option linter.unusedVariables false
namespace Go.SL.VE
open Go Go.Proofs Go.SL
theorem a103 : aggOf Tryz.prog 103 = some none := by kernel_rfl
theorem a114 : aggOf Tryz.prog 114 = some none := by kernel_rfl
theorem a22 : aggOf Tryz.prog 22 = some none := by kernel_rfl
theorem a31 : aggOf Tryz.prog 31 = some (some 1) := by kernel_rfl
theorem a34 : aggOf Tryz.prog 34 = some none := by kernel_rfl
theorem a36 : aggOf Tryz.prog 36 = some (some 4) := by kernel_rfl
theorem a69 : aggOf Tryz.prog 69 = some (some 2) := by kernel_rfl
theorem a9 : aggOf Tryz.prog 9 = some none := by kernel_rfl
theorem a96 : aggOf Tryz.prog 96 = some none := by kernel_rfl
theorem f36_0 : fldOf Tryz.prog 36 0 = some 0 := by kernel_rfl
theorem f36_1 : fldOf Tryz.prog 36 1 = some 1 := by kernel_rfl
theorem f36_3 : fldOf Tryz.prog 36 3 = some 3 := by kernel_rfl
theorem k48 : callable Tryz.prog 48 = true := by kernel_rfl
theorem k49 : callable Tryz.prog 49 = true := by kernel_rfl
theorem k55 : callable Tryz.prog 55 = true := by kernel_rfl
theorem k56 : callable Tryz.prog 56 = true := by kernel_rfl
theorem k57 : callable Tryz.prog 57 = true := by kernel_rfl
theorem k80 : callable Tryz.prog 80 = true := by kernel_rfl
theorem k82 : callable Tryz.prog 82 = true := by kernel_rfl
theorem mixedOk : Tryz.prog.follows .mixedOrders = true := by kernel_rfl
theorem p108 : placesOf Tryz.prog 108 = some [(0, 1), (1, 1), (2, 1)] := by kernel_rfl
theorem p31 : placesOf Tryz.prog 31 = some [(0, 1)] := by kernel_rfl
theorem p69 : placesOf Tryz.prog 69 = some [(0, 1), (1, 1)] := by kernel_rfl
theorem s103 : szOf Tryz.prog 103 = some 1 := by kernel_rfl
theorem s31 : szOf Tryz.prog 31 = some 1 := by kernel_rfl
theorem s69 : szOf Tryz.prog 69 = some 2 := by kernel_rfl
theorem sl103 : slOf Tryz.prog 103 = some (108, 3, 24) := by kernel_rfl
theorem sl155 : slOf Tryz.prog 155 = some (114, 1, 24) := by kernel_rfl
theorem z108 : zeroOf Tryz.prog 108 = some [.string .empty, .int .u32 0, .bool false] := by kernel_rfl
theorem z31 : zeroOf Tryz.prog 31 = some [.slice none 0 0] := by kernel_rfl
theorem z69 : zeroOf Tryz.prog 69 = some [.string .empty, .string .empty] := by kernel_rfl
end Go.SL.VE
namespace Go.SL
open Go Go.Proofs VE
end Go.SL
set_option linter.unusedSimpArgs false
set_option linter.unusedVariables false
namespace Go.SL.UA
open Go Go.Proofs Go.SL
theorem a36 : aggOf Tryz.prog 36 = some (some 4) := by kernel_rfl
theorem k41 : callable Tryz.prog 41 = true := by kernel_rfl
theorem k45 : callable Tryz.prog 45 = true := by kernel_rfl
theorem k61 : callable Tryz.prog 61 = true := by kernel_rfl
theorem p36 : placesOf Tryz.prog 36 = some [(0, 1), (1, 1), (2, 1), (3, 1)] := by kernel_rfl
theorem pt48 : isPtr Tryz.prog 48 = true := by kernel_rfl
theorem s36 : szOf Tryz.prog 36 = some 4 := by kernel_rfl
theorem z36 : zeroOf Tryz.prog 36 = some [.int .u8 0, .string .empty, .string .empty, .int .u32 0] := by kernel_rfl
end Go.SL.UA
namespace Go.SL
open Go Go.Proofs UA
theorem opened_spec {g : World} : Spec Tryz.prog g 22 [] [] fun K R => ∀ dp p, K (.tuple #[.pointer (some ⟨dp, 0, none⟩), .pointer (some ⟨p, 0, none⟩)]) (As p dp stF :: TxsU TPA [] :: R) := by
  refine Spec.intro Tryz.func22 rfl Tryz.ntmps22 rfl fun R K hK => ?_
  refine WP.seq ?_
  refine WP.reg ?_
  refine WL.e e_assign <| WL.e e_assign ?_
  refine WL.next ?_
  refine WP.seq ?_
  refine WP.reg ?_
  refine WL.h (h_call (New_spec 4096 (by decide)) k45 ?_)
  refine ⟨fun h => absurd h (by omega), fun _ _ dp => ?_⟩
  refine WL.e e_move <| WL.e e_extract <| WL.e e_extract <| WL.e e_assign <| WL.e e_assign ?_
  refine WL.next ?_
  refine WP.seq ?_
  refine WP.reg ?_
  refine WL.e e_move ?_
  refine WL.h (h_call (ANew_spec (d := newDisk 4096) (at0 := 0) [] DiskLogB.first (by simp) (by simp)) k41 ?_)
  intro p
  refine WL.e e_move <| WL.e e_extract <| WL.e e_extract <| WL.e e_assign <| WL.e e_assign ?_
  refine WL.next ?_
  refine WP.seq ?_
  refine WP.seq ?_
  refine WP.reg ?_
  refine WL.e e_move <| WL.e e_neq <| WL.e e_move ?_
  refine WL.bool 17 rfl (fun hg => ?_) (fun hg => ?_)
  · exact absurd hg (by decide) -- end
  · skip
    refine WL.e e_move <| WL.e e_neq <| WL.e e_pick_f ?_
    refine WL.next ?_
    refine WP.cond_f rfl ?_
    refine WP.skip ?_
    refine PO.next ?_
    refine WP.seq ?_
    refine WP.reg ?_
    refine WL.e e_move <| WL.e e_move <| WL.e e_assign <| WL.e e_assign ?_
    refine WL.next ?_
    refine WP.ret ?_
    exact PO.fin Tryz.results22 (rv_tmp (rv_tmp rv_nil)) (hK dp p)
theorem lput_spec {g : World} (k : ByteArray) (v : UInt32) : Spec Tryz.prog g 25 [.string k, .int .u32 v.toNat] [] fun K R => K (opPut k v).v R := by
  refine Spec.intro Tryz.func25 rfl Tryz.ntmps25 rfl fun R K hK => ?_
  refine WP.seq ?_
  refine WP.reg ?_
  refine WL.h (h_alloc z36 fun b1 => ?_)
  refine WL.next ?_
  refine WP.seq ?_
  refine WP.reg ?_
  refine WL.e e_move <| WL.e e_move <| WL.e (e_build z36 p36 (.o (.const (.int .u8 2)) rfl <| .o (.tmp 5) rfl <| .z (.string .empty) <| .o (.tmp 6) rfl <| .n)) ?_
  refine WL.h' (h_store s36 ?_)
  refine WL.next ?_
  refine WP.ret ?_
  exact PO.fin Tryz.results25 (rv_cellN a36 rv_nil) hK
theorem lget_spec {g : World} (k : ByteArray) : Spec Tryz.prog g 27 [.string k] [] fun K R => K (opGet k).v R := by
  refine Spec.intro Tryz.func27 rfl Tryz.ntmps27 rfl fun R K hK => ?_
  refine WP.seq ?_
  refine WP.reg ?_
  refine WL.h (h_alloc z36 fun b1 => ?_)
  refine WL.next ?_
  refine WP.seq ?_
  refine WP.reg ?_
  refine WL.e e_move <| WL.e (e_build z36 p36 (.o (.const (.int .u8 1)) rfl <| .o (.tmp 3) rfl <| .z (.string .empty) <| .z (.int .u32 0) <| .n)) ?_
  refine WL.h' (h_store s36 ?_)
  refine WL.next ?_
  refine WP.ret ?_
  exact PO.fin Tryz.results27 (rv_cellN a36 rv_nil) hK
theorem there_nil {g : World} : Spec Tryz.prog g 61 [.pointer none] [] fun K R => K (.bool false) R := by
  refine Spec.intro Tryz.func61 rfl Tryz.ntmps61 rfl fun R K hK => ?_
  refine WP.seq ?_
  refine WP.reg ?_
  refine WL.e e_assign ?_
  refine WL.next ?_
  refine WP.seq ?_
  refine WP.reg ?_
  refine WL.e e_move <| WL.e (e_pne pt48) <| WL.e e_move ?_
  refine WL.bool 5 rfl (fun h => ?_) (fun h => ?_)
  · cases h -- end
  · skip
    refine WL.skip <| WL.skip <| WL.skip <| WL.skip <| WL.skip <| WL.e e_pick_f <| WL.e e_assign ?_
    refine WL.next ?_
    refine WP.ret ?_
    exact PO.fin Tryz.results61 (rv_tmp rv_nil) hK
theorem Begin_nil {g : World} (n : UInt32) : Spec Tryz.prog g 23 [.pointer none, .int .u32 n.toNat] [] fun K R => K (.int .i64 2) R := by
  refine Spec.intro Tryz.func23 rfl Tryz.ntmps23 rfl fun R K hK => ?_
  refine WP.seq ?_
  refine WP.reg ?_
  refine WL.e e_assign ?_
  refine WL.next ?_
  refine WP.seq ?_
  refine WP.block ?_
  refine WP.seq ?_
  refine WP.reg ?_
  refine WL.e e_move ?_
  refine WL.h (h_call (there_nil) k61 ?_)
  refine WL.e e_not <| WL.e e_assign ?_
  refine WL.next ?_
  refine WP.cond_t rfl ?_
  refine WP.seq ?_
  refine WP.reg ?_
  refine WL.e e_assign ?_
  refine WL.next ?_
  refine WP.ret ?_
  refine PO.blockR ?_
  refine PO.past nofun ?_
  exact PO.fin Tryz.results23 (rv_tmp rv_nil) hK
end Go.SL
/- A store that locks, in plain Lean: a few things, one behind the other. -/
set_option linter.unusedSimpArgs false
set_option linter.unusedVariables false
set_option linter.unusedSectionVars false
namespace Go.SL
open Go
structure AtA (s : StV) (ts : List TxT) (H : List (List ChgM)) (L : LkT) (b : Nat) : Prop where
  at_ : AtS alphaG s ts H b
  lk : s.locks = L
section
variable {s : StV} {ts : List TxT} {H : List (List ChgM)} {L : LkT} {b : Nat}
theorem AtA.first : AtA stF [] [] [] 0 := ⟨AtS.first alp_first, rfl⟩
theorem AtA.ok (h : AtA s ts H L b) : AlphaOk s b := h.at_.ok
theorem AtA.beg (h : AtA s ts H L b) (n : UInt32) (q : Nat) (h0 : n ≠ 0) (hf : findU ts n = none) (hl : ts.length < 32) :
    begE s n = 0 ∧ AtA (begS s n q) (ts ++ [⟨n, q, ⟨UInt32.ofNat H.length, [], [], []⟩⟩]) H L b := by
  obtain ⟨e, h2⟩ := h.at_.beg n q h0 hf hl
  exact ⟨e, h2, by rw [begS, if_pos e]; exact h.lk⟩
theorem AtA.put (h : AtA s ts H L b) {n : UInt32} {t : TxT} (hf : findU ts n = some t) {x : OpM} (hx : opOk x = true) (hm : meet (spanOf x) (spanOf x) = true) (hw : writes x = true) (hno : wayL L n (spanOf x) true = []) (hb : b ≤ 1000) :
    ∃ s', doA s n x = .put s' ∧ AtA s' (setU ts n { t.x with own := t.x.own ++ [chgOf x], waits := [] }) H (lockS L n (spanOf x) true) (b + 1) := by
  have hf' : findU s.txs n = some t := by rw [h.at_.txs]; exact hf
  have e : doA s n x = .put { s with locks := lockS s.locks n (spanOf x) true, txs := setU s.txs n { t.x with own := t.x.own ++ [chgOf x], waits := [] } } := by simp [doA, hx, hf', hm, hw, h.lk, hno]
  refine ⟨_, e, ⟨?_, ?_, h.at_.his, h.at_.at_⟩, by rw [h.lk]⟩
  · obtain ⟨_, _, _, _, _, _, _, _, _, hok, _⟩ := alphaG.put h.at_.ok (by omega) e
    exact hok
  · show setU s.txs n _ = _
    rw [h.at_.txs]
theorem AtA.get (h : AtA s ts H L b) {n : UInt32} {t : TxT} (hf : findU ts n = some t) {x : OpM} (hx : opOk x = true) (hm : meet (spanOf x) (spanOf x) = true) (hw : writes x = false) (hno : wayL L n (spanOf x) false = []) (hb : b ≤ 1000) :
    ∃ s', doA s n x = .look s' (scanR (changeR (rowsN H H.length) t.x.own) (spanOf x) 256) ∧ AtA s' (setU ts n { t.x with waits := [] }) H (lockS L n (spanOf x) false) (b + 1) := by
  have hf' : findU s.txs n = some t := by rw [h.at_.txs]; exact hf
  have e : doA s n x = .look { s with locks := lockS s.locks n (spanOf x) false, txs := setU s.txs n { t.x with waits := [] } } (scanR (changeR s.rows t.x.own) (spanOf x) 256) := by simp [doA, hx, hf', hm, hw, h.lk, hno]
  refine ⟨{ s with locks := lockS s.locks n (spanOf x) false, txs := setU s.txs n { t.x with waits := [] } }, e.trans (by rw [h.at_.rows]), ⟨?_, ?_, h.at_.his, h.at_.at_⟩, by show lockS s.locks _ _ _ = _; rw [h.lk]⟩
  · obtain ⟨_, _, _, _, _, _, _, _, _, hok, _⟩ := alphaG.look h.at_.ok (by omega) e
    exact hok
  · show setU s.txs n _ = _
    rw [h.at_.txs]
theorem AtA.wait (h : AtA s ts H L b) {n : UInt32} {t : TxT} (hf : findU ts n = some t) {x : OpM} (hx : opOk x = true) (hm : meet (spanOf x) (spanOf x) = true) (hno : 0 < (wayL L n (spanOf x) (writes x)).length) (hr : ringB (setU ts n { t.x with waits := [] }) n (wayL L n (spanOf x) (writes x)) = false) :
    ∃ s', doA s n x = .err s' 8 ∧ AtA s' (setU ts n { t.x with waits := wayL L n (spanOf x) (writes x) }) H L b := by
  have hf' : findU s.txs n = some t := by rw [h.at_.txs]; exact hf
  have e : doA s n x = .err { s with txs := setU s.txs n { t.x with waits := wayL L n (spanOf x) (writes x) } } 8 := by
    unfold doA; rw [hx, hf', h.lk, h.at_.txs]; simp only [if_true, hm, hno, hr, Bool.true_and, decide_true, if_false, Bool.false_eq_true]
  refine ⟨_, e, ⟨?_, ?_, h.at_.his, h.at_.at_⟩, h.lk⟩
  · obtain ⟨_, _, _, _, _, hok, _⟩ := alphaG.err h.at_.ok e
    exact hok
  · show setU s.txs n _ = _
    rw [h.at_.txs]
theorem AtA.ring (h : AtA s ts H L b) {n : UInt32} {t : TxT} (hf : findU ts n = some t) {x : OpM} (hx : opOk x = true) (hm : meet (spanOf x) (spanOf x) = true) (hno : 0 < (wayL L n (spanOf x) (writes x)).length) (hr : ringB (setU ts n { t.x with waits := [] }) n (wayL L n (spanOf x) (writes x)) = true) :
    ∃ s', doA s n x = .err s' 9 ∧ AtA s' (delU (setU ts n { t.x with waits := [] }) n) H (freeL L n) b := by
  have hf' : findU s.txs n = some t := by rw [h.at_.txs]; exact hf
  have e : doA s n x = .err (endsA { s with txs := setU s.txs n { t.x with waits := [] } } n) 9 := by
    unfold doA; rw [hx, hf', h.lk, h.at_.txs]; simp only [if_true, hm, hno, hr, Bool.true_and, decide_true]
  refine ⟨_, e, ⟨?_, ?_, h.at_.his, h.at_.at_⟩, by show freeL s.locks n = _; rw [h.lk]⟩
  · obtain ⟨_, _, _, _, _, hok, _⟩ := alphaG.err h.at_.ok e
    exact hok
  · show delU (setU s.txs n _) n = _
    rw [h.at_.txs]
theorem AtA.com (h : AtA s ts H L b) {n : UInt32} {t : TxT} (hf : findU ts n = some t) (hl : t.x.own.length ≤ 80) (hH : H.length ≤ 40) (hb : b ≤ 1000) :
    comE alphaI s n = 0 ∧ comN alphaI s n = UInt32.ofNat H.length + 1 ∧ AtS alphaG (comS alphaI s n) (delU ts n) (H ++ [t.x.own]) (b + 1) := h.at_.com hf rfl hl hH hb
end
end Go.SL
/- A store that locks, in plain Lean: what is in the way when it lives. -/
set_option linter.unusedSimpArgs false
set_option linter.unusedVariables false
set_option linter.unusedSectionVars false
namespace Go.SL
open Go
deriving instance DecidableEq for SpanM
deriving instance DecidableEq for LockM
def lA : LkT := [(1, [⟨one kA, true⟩])]
def lAB : LkT := [(1, [⟨one kA, true⟩]), (2, [⟨one kB, true⟩])]
theorem lock_1 : lockS [] 1 (one kA) true = lA := by decide +kernel
theorem lock_2 : lockS lA 2 (one kB) true = lAB := by decide +kernel
theorem way_1 : wayL [] 1 (one kA) true = [] := by decide +kernel
theorem way_2 : wayL lA 2 (one kB) true = [] := by decide +kernel
theorem way_3 : wayL lAB 1 (one kB) false = [2] := by decide +kernel
theorem way_4 : wayL lAB 2 (one kA) false = [1] := by decide +kernel
theorem free_4 : freeL lAB 2 = lA := by decide +kernel
theorem way_5 : wayL lA 1 (one kB) false = [] := by decide +kernel
open Classical in
theorem ring_3 {ts : List TxT} {n : UInt32} {way : List UInt32} (h : edgesA ts n = []) (hw : n ∉ way) : ringB ts n way = false := by
  unfold ringB
  rw [decide_eq_false_iff_not]
  rintro ⟨w, h1, h2⟩
  cases h2 with
  | refl => exact hw h1
  | tail _ h3 => rw [h] at h3; cases h3
open Classical in
theorem ring_4 {ts : List TxT} {n w : UInt32} {way : List UInt32} (h : (w, n) ∈ edgesA ts n) (hw : w ∈ way) : ringB ts n way = true := by
  unfold ringB
  rw [decide_eq_true_iff]
  exact ⟨w, hw, Reach.tail .refl h⟩
end Go.SL
