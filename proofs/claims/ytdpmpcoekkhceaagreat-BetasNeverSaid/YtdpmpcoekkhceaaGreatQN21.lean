/- VB: rules and walks, several texts in one. -/
import Derived.Test.YtdpmpcoekkhceaaGreatQN20
import Derived.Test.YtdpmpcoekkhceaaGreatProg
import Derived.KernelRfl
set_option linter.unusedSimpArgs false
set_option linter.unusedVariables false
namespace Go.SL.VB
open Go Go.Proofs Go.SL
theorem a108 : aggOf Tryz.prog 108 = some (some 3) := by kernel_rfl
theorem a114 : aggOf Tryz.prog 114 = some none := by kernel_rfl
theorem a230 : aggOf Tryz.prog 230 = some none := by kernel_rfl
theorem a233 : aggOf Tryz.prog 233 = some none := by kernel_rfl
theorem a4 : aggOf Tryz.prog 4 = some none := by kernel_rfl
theorem a5 : aggOf Tryz.prog 5 = some none := by kernel_rfl
theorem f108_0 : fldOf Tryz.prog 108 0 = some 0 := by kernel_rfl
theorem f108_1 : fldOf Tryz.prog 108 1 = some 1 := by kernel_rfl
theorem f108_2 : fldOf Tryz.prog 108 2 = some 2 := by kernel_rfl
theorem f270_0 : fldOf Tryz.prog 270 0 = some 0 := by kernel_rfl
theorem f270_1 : fldOf Tryz.prog 270 1 = some 1 := by kernel_rfl
theorem k133 : callable Tryz.prog 133 = true := by kernel_rfl
theorem k134 : callable Tryz.prog 134 = true := by kernel_rfl
theorem k135 : callable Tryz.prog 135 = true := by kernel_rfl
theorem k136 : callable Tryz.prog 136 = true := by kernel_rfl
theorem k137 : callable Tryz.prog 137 = true := by kernel_rfl
theorem k166 : callable Tryz.prog 166 = true := by kernel_rfl
theorem k167 : callable Tryz.prog 167 = true := by kernel_rfl
theorem k168 : callable Tryz.prog 168 = true := by kernel_rfl
theorem k55 : callable Tryz.prog 55 = true := by kernel_rfl
theorem mixedOk : Tryz.prog.follows .mixedOrders = true := by kernel_rfl
theorem p270 : placesOf Tryz.prog 270 = some [(0, 1), (1, 1)] := by kernel_rfl
theorem s108 : szOf Tryz.prog 108 = some 3 := by kernel_rfl
theorem s114 : szOf Tryz.prog 114 = some 1 := by kernel_rfl
theorem s22 : szOf Tryz.prog 22 = some 1 := by kernel_rfl
theorem s230 : szOf Tryz.prog 230 = some 1 := by kernel_rfl
theorem s4 : szOf Tryz.prog 4 = some 1 := by kernel_rfl
theorem s9 : szOf Tryz.prog 9 = some 1 := by kernel_rfl
theorem sl103 : slOf Tryz.prog 103 = some (108, 3, 24) := by kernel_rfl
theorem sl114 : slOf Tryz.prog 114 = some (5, 1, 1) := by kernel_rfl
theorem z108 : zeroOf Tryz.prog 108 = some [.string .empty, .int .u32 0, .bool false] := by kernel_rfl
theorem z230 : zeroOf Tryz.prog 230 = some [.pointer none] := by kernel_rfl
theorem z270 : zeroOf Tryz.prog 270 = some [.slice none 0 0, .bool false] := by kernel_rfl
end Go.SL.VB
namespace Go.SL
open Go Go.Proofs VB
theorem recs_rl {l : List RecV} {x : RecV} (h : x ∈ l) : RL (RecsR l) 1 eB x.1.v x.2.1 := fun S hS => by
  obtain ⟨T, h1, h2⟩ := mem_stars (List.mem_map.2 ⟨x, h, rfl⟩ : recR x ∈ l.map recR) S hS
  exact rds_mono (sl_rl T h2) h1
theorem take_spec {g : World} {A : HP} {r : Nat} {v : SV} {xs rest : List UInt8} (n : Nat) (hn : xs.length = n) (hA : RL A 1 eB v.v (xs ++ rest)) : Spec Tryz.prog g 168 [.pointer (some ⟨r, 0, none⟩), .int .i64 n] [cl r 270 [v.v, .bool false], A] fun K R => ∀ y w : SV, RL A 1 eB y.v xs → RL A 1 eB w.v rest → K y.v (cl r 270 [w.v, .bool false] :: A :: R) := by
  refine Spec.intro Tryz.func168 rfl Tryz.ntmps168 rfl fun R K hK => ?_
  refine WP.seq ?_
  refine WP.reg ?_
  refine WL.e e_assign ?_
  refine WL.next ?_
  refine WP.seq ?_
  refine WP.seq ?_
  refine WP.reg ?_
  refine WL.e e_move <| WL.e e_move <| WL.e e_nil <| WL.e (e_fa f270_0) <| WL.e (e_load a114) ?_
  refine WL.e (el_len sl114 hA) <| WL.e e_gtr ?_
  refine WL.next ?_
  refine WP.cond rfl (fun h => ?_) (fun h => ?_)
  · (rw [decide_eq_true_eq] at h; simp at h; omega)
  · have hle : n ≤ (xs ++ rest).length := by simp; omega
    refine WP.skip ?_
    refine PO.next ?_
    refine WP.seq ?_
    refine WP.draws mixedOk 17 ?_
    refine RW.e 0 rfl e_move <| RW.e 1 rfl e_move <| RW.e 2 rfl e_nil <| RW.e 3 rfl (e_fa f270_0) <| RW.e 4 rfl (e_load a114) <| RW.e 5 rfl e_move ?_
    refine RW.e 6 rfl (el_to (hi := n) sl114 hA hle) <| RW.e 7 rfl e_move <| RW.e 8 rfl e_nil <| RW.e 9 rfl (e_fa f270_0) <| RW.e 10 rfl (e_load a114) <| RW.e 11 rfl e_move ?_
    refine RW.e 12 rfl (el_from (lo := n) sl114 hA hle) <| RW.e 13 rfl e_assign <| RW.e 14 rfl e_nil <| RW.e 15 rfl (e_fa f270_0) ?_
    refine RW.any (is := [16]) rfl ⟨?_, trivial⟩
    refine RWat.h' rfl rfl rfl ?_
    refine (h_store s114 ?_)
    refine ⟨trivial, ?_⟩
    refine RW.done ?_
    refine PO.next ?_
    refine WP.seq ?_
    refine WP.reg ?_
    refine WL.e e_move <| WL.e e_assign ?_
    refine WL.next ?_
    refine WP.ret ?_
    exact PO.fin Tryz.results168 (rv_tmp rv_nil) (hK (subS v 0 n 1) (subS v n (xs ++ rest).length 1) (by have := RL.to_ eB_ok hA hle; rwa [List.take_left' hn] at this) (by have := RL.from_ eB_ok hA hle; rwa [List.drop_left' hn] at this))
theorem rnumber_spec {g : World} {A : HP} {r : Nat} {v : SV} {xs rest : List UInt8} (n : Nat) (hn : xs.length = n) (hA : RL A 1 eB v.v (xs ++ rest)) (hb : n ≤ 4) : Spec Tryz.prog g 137 [.pointer (some ⟨r, 0, none⟩), .int .i64 n] [cl r 270 [v.v, .bool false], A] fun K R => ∀ w : SV, RL A 1 eB w.v rest → K (.int .u32 (beN xs).toNat) (cl r 270 [w.v, .bool false] :: A :: R) := by
  refine Spec.intro Tryz.func137 rfl Tryz.ntmps137 rfl fun R K hK => ?_
  refine WP.seq ?_
  refine WP.reg ?_
  refine WL.e e_assign ?_
  refine WL.next ?_
  refine WP.seq ?_
  refine WP.seq ?_
  refine WP.reg ?_
  refine WL.e e_move <| WL.e e_move ?_
  refine WL.h (h_call (take_spec n hn hA) k168 ?_)
  intro y w hy hw
  refine WL.e (el_len sl114 hy) <| WL.e e_move ?_
  refine WL.next ?_
  refine WP.block ?_
  refine WP.loopK (fun (x : Nat × UInt32) => [(11, .int .i64 x.1), (4, .int .u32 x.2.toNat)]) (fun (x : Nat × UInt32) => cl r 270 [w.v, .bool false] :: A :: R) [(9, _), (10, _)] (fun (x : Nat × UInt32) => x.1 ≤ xs.length ∧ x.2 = beN (xs.take x.1)) (fun (x : Nat × UInt32) => xs.length - x.1) (0, 0) (⟨Nat.zero_le _, by simp [beN]⟩) ?_
  rintro ⟨x, m⟩ ⟨hx1, hx2⟩
  simp only at hx1 hx2
  dsimp only
  refine WP.seq ?_
  refine WP.reg ?_
  refine WL.e e_lss ?_
  refine WL.next ?_
  refine WP.seq ?_
  refine WP.cond rfl (fun h2 => ?_) (fun h2 => ?_)
  · have hlt : x < xs.length := by simp at h2; omega
    obtain ⟨c, hc⟩ : ∃ c, xs[x]? = some c := ⟨_, List.getElem?_eq_getElem hlt⟩
    refine WP.skip ?_
    refine PO.next ?_
    refine WP.seq ?_
    refine WP.block ?_
    refine WP.seq ?_
    refine WP.reg ?_
    refine WL.e (el_ia sl114 hy hlt) ?_
    refine WL.e (el_load0 a5 eB_ok hy hc) <| WL.e e_assign ?_
    refine WL.next ?_
    refine WP.reg ?_
    refine WL.e e_move <| WL.e (e_shl32 (m := 8) (by decide)) <| WL.e e_move <| WL.e (e_c8to32 (by rw [Tryz.underlying5]; rfl) Tryz.underlying22) <| WL.e e_or32 <| WL.e e_assign ?_
    refine WL.nil ?_
    refine PO.blockN ?_
    refine PO.next ?_
    refine WP.reg ?_
    refine WL.e (e_add rfl rfl (w_i64 (by omega) (by omega))) <| WL.e e_move ?_
    refine WL.nil ?_
    exact PO.againK (x + 1, (m <<< 8) ||| c.toUInt32) ⟨by simp only; omega, by simp only; rw [take_snoc hc, beN_snoc, ← hx2]⟩ (by simp only; omega)
  · obtain rfl : m = beN xs := by rw [hx2, List.take_of_length_le (by simp at h2; omega)]
    refine WP.exit ?_
    refine PO.past nofun ?_
    refine PO.round nofun ?_
    refine PO.blockX ?_
    refine PO.next ?_
    refine WP.seq ?_
    refine WP.reg ?_
    refine WL.e e_move <| WL.e e_assign ?_
    refine WL.next ?_
    refine WP.ret ?_
    exact PO.fin Tryz.results137 (rv_tmp rv_nil) (hK w hw)
theorem rtext_spec {g : World} {A : HP} {r : Nat} {v : SV} {rest : List UInt8} (s : ByteArray) (hs : s.size < 256) (hA : RL A 1 eB v.v (textB s ++ rest)) : Spec Tryz.prog g 136 [.pointer (some ⟨r, 0, none⟩)] [cl r 270 [v.v, .bool false], A] fun K R => ∀ w : SV, RL A 1 eB w.v rest → K (.string s) (cl r 270 [w.v, .bool false] :: A :: R) := by
  refine Spec.intro Tryz.func136 rfl Tryz.ntmps136 rfl fun R K hK => ?_
  refine WP.seq ?_
  refine WP.reg ?_
  refine WL.e e_assign ?_
  refine WL.next ?_
  refine WP.seq ?_
  refine WP.reg ?_
  refine WL.e e_move <| WL.e e_move ?_
  refine WL.h (h_call (rnumber_spec (xs := [UInt8.ofNat s.size]) (rest := bytesOf s ++ rest) 1 rfl hA (by decide)) k137 ?_)
  intro w hw
  rw [beN_num1 _ hs]
  refine WL.e (e_conv (c := (s.size : Int)) (by rw [Tryz.underlying22]; rfl) Tryz.underlying3 rfl (w_i64 (by omega) (by omega))) ?_
  refine WL.h (h_call (take_spec (xs := bytesOf s) (rest := rest) s.size (bytesOf_len s) hw) k168 ?_)
  intro y w2 hy hw2
  refine WL.e (e_b2s Tryz.underlying114 Tryz.underlying5 Tryz.underlying9 hy) <| WL.e e_assign ?_
  refine WL.next ?_
  refine WP.ret ?_
  rw [textOf_bytes]
  exact PO.fin Tryz.results136 (rv_tmp rv_nil) (hK w2 hw2)
theorem chg1_spec {g : World} {A : HP} {r : Nat} {v : SV} {rest : List UInt8} (c : ChgM) (hc : chgOk c = true) (hA : RL A 1 eB v.v (chgB c ++ rest)) : Spec Tryz.prog g 135 [.pointer (some ⟨r, 0, none⟩)] [cl r 270 [v.v, .bool false], A] fun K R => ∀ w : SV, RL A 1 eB w.v rest → K c.v (cl r 270 [w.v, .bool false] :: A :: R) := by
  have hks := chg_size hc
  refine Spec.intro Tryz.func135 rfl Tryz.ntmps135 rfl fun R K hK => ?_
  refine WP.seq ?_
  refine WP.reg ?_
  refine WL.h (h_alloc z108 fun b1 => ?_)
  refine WL.next ?_
  refine WP.seq ?_
  refine WP.reg ?_
  refine WL.e e_move ?_
  refine WL.h (h_call (rtext_spec (rest := [if c.gone then (1 : UInt8) else 0] ++ (numB c.val 4 ++ rest)) c.key hks (by have h0 := hA; simpa [chgB] using h0)) k136 ?_)
  intro w1 hw1
  refine WL.e (e_fa f108_0) ?_
  refine WL.h' (h_store s9 ?_)
  refine WL.next ?_
  refine WP.seq ?_
  refine WP.reg ?_
  refine WL.e e_move ?_
  refine WL.h (h_call (rnumber_spec (xs := [if c.gone then (1 : UInt8) else 0]) (rest := numB c.val 4 ++ rest) 1 rfl hw1 (by decide)) k137 ?_)
  intro w2 hw2
  refine WL.e (e_eql32 (b := 1)) <| WL.e (e_fa f108_2) ?_
  refine WL.h' (h_store s4 ?_)
  refine WL.next ?_
  refine WP.seq ?_
  refine WP.reg ?_
  refine WL.e e_move ?_
  refine WL.h (h_call (rnumber_spec (xs := numB c.val 4) (rest := rest) 4 (numB_len _ _) hw2 (by decide)) k137 ?_)
  intro w3 hw3
  rw [beN_num4, gone_back c]
  refine WL.e (e_fa f108_1) ?_
  refine WL.h' (h_store s22 ?_)
  refine WL.next ?_
  refine WP.seq ?_
  refine WP.reg ?_
  refine WL.e (e_loadN a108) ?_
  refine WL.h' (h_store s108 ?_)
  refine WL.next ?_
  refine WP.ret ?_
  exact PO.fin Tryz.results135 (rv_cellN a108 rv_nil) (hK w3 hw3)
/-- What the closure of a list that is read holds. -/
def GetJ (b4 b8 r : Nat) (y : Value) : HP := fun S => ∃ _ : Unit, stars [cl b4 233 [y], cl b8 230 [.pointer (some ⟨r, 0, none⟩)]] S
theorem get1_spec {g : World} {A : HP} {r b4 b8 : Nat} {y : Value} {v : SV} {rest : List UInt8} (h1 : ∀ c rest (v : SV), chgOk c = true → RL A 1 eB v.v (chgB c ++ rest) → CallV Tryz.prog g y [.pointer (some ⟨r, 0, none⟩)] [cl r 270 [v.v, .bool false], A] fun K R => ∀ w : SV, RL A 1 eB w.v rest → K c.v (cl r 270 [w.v, .bool false] :: A :: R)) (c : ChgM) (hc : chgOk c = true) (hA : RL A 1 eB v.v (chgB c ++ rest)) : Spec Tryz.prog g 167 [.pointer (some ⟨b4, 0, none⟩), .pointer (some ⟨b8, 0, none⟩)] [GetJ b4 b8 r y, cl r 270 [v.v, .bool false], A] fun K R => ∀ w : SV, RL A 1 eB w.v rest → K c.v (GetJ b4 b8 r y :: cl r 270 [w.v, .bool false] :: A :: R) := by
  refine Spec.intro Tryz.func167 rfl Tryz.ntmps167 rfl fun R K hK => ?_
  refine WP.opn (B := fun _ : Unit => [cl b4 233 [y], cl b8 230 [.pointer (some ⟨r, 0, none⟩)]]) (fun _ h => h) fun _ => ?_
  refine WP.seq ?_
  refine WP.reg ?_
  refine WL.h (h_alloc z108 fun b1 => ?_)
  refine WL.next ?_
  refine WP.seq ?_
  refine WP.reg ?_
  refine WL.e (e_load a233) <| WL.e (e_load a230) ?_
  refine WL.h (h_cally (h1 c rest v hc hA) ?_)
  intro w hw
  refine WL.h' (h_store s108 ?_)
  refine WL.next ?_
  refine WP.ret ?_
  refine PO.cls (A := GetJ b4 b8 r y) (B := [cl b4 233 [y], cl b8 230 [.pointer (some ⟨r, 0, none⟩)]]) (fun S h => ⟨(), h⟩) ?_
  exact PO.fin Tryz.results167 (rv_cellN a108 rv_nil) (hK w hw)
theorem several_spec {g : World} {A B : HP} {r : Nat} {y : Value} {v : SV} {l : List ChgM} (h2 : ∀ c rest (v : SV), chgOk c = true → RL A 1 eB v.v (chgB c ++ rest) → CallV Tryz.prog g y [] [B, cl r 270 [v.v, .bool false], A] fun K R => ∀ w : SV, RL A 1 eB w.v rest → K c.v (B :: cl r 270 [w.v, .bool false] :: A :: R)) (hl : l.length ≤ 4096) (hok : ∀ c ∈ l, chgOk c = true) (hA : RL A 1 eB v.v (chgsB l)) : Spec Tryz.prog g 166 [.pointer (some ⟨r, 0, none⟩), y] [B, cl r 270 [v.v, .bool false], A] fun K R => ∀ a m c (w : SV), K (.slice a m c) (Sl 108 3 ChgM.c (.slice a m c) l :: B :: cl r 270 [w.v, .bool false] :: A :: R) := by
  have hln : (UInt32.ofNat l.length).toNat = l.length := by rw [UInt32.toNat_ofNat']; exact Nat.mod_eq_of_lt (by omega)
  refine Spec.intro Tryz.func166 rfl Tryz.ntmps166 rfl fun R K hK => ?_
  refine WP.seq ?_
  refine WP.reg ?_
  refine WL.e e_assign ?_
  refine WL.next ?_
  refine WP.seq ?_
  refine WP.seq ?_
  refine WP.reg ?_
  refine WL.e e_move ?_
  refine WL.h (h_call (rnumber_spec (xs := numB (UInt32.ofNat l.length) 2) (rest := l.flatMap chgB) 2 (numB_len _ _) hA (by decide)) k137 ?_)
  intro w hw
  rw [beN_num2 _ (by rw [hln]; omega), hln]
  refine WL.e e_assign ?_
  refine WL.next ?_
  refine WP.block ?_
  refine WP.nils 108 3 ChgM.c none ?_
  refine WP.loopK (fun (x : Nat × SV × SV) => [(5, .int .u32 ((l.length - x.1 : Nat) : Int)), (4, x.2.1.v)]) (fun (x : Nat × SV × SV) => Sl 108 3 ChgM.c x.2.1.v (l.take x.1) :: B :: cl r 270 [x.2.2.v, .bool false] :: A :: R) [(0, _), (1, _)] (fun (x : Nat × SV × SV) => x.1 ≤ l.length ∧ RL A 1 eB x.2.2.v ((l.drop x.1).flatMap chgB)) (fun (x : Nat × SV × SV) => l.length - x.1) (0, ⟨none, 0, 0⟩, w) (⟨Nat.zero_le _, hw⟩) ?_
  rintro ⟨i, w4, w⟩ ⟨hi, hw⟩
  simp only at hi hw
  dsimp only
  refine WP.seq ?_
  refine WP.seq ?_
  refine WP.reg ?_
  refine WL.e e_move <| WL.e e_gtr <| WL.e e_move ?_
  refine WL.join 16 (.bool (decide (i < l.length))) (.c (.c (.c (.c (.c (.c .n)))))) ?_ ?_
  · refine WL.bool 10 rfl (fun hg => ?_) (fun hg => ?_)
    · skip
      refine WL.e e_move <| WL.e e_nil <| WL.e (e_fa f270_1) <| WL.e (e_load a4) <| WL.e e_not <| WL.e e_pick_t ?_
      exact WL.nil (PO.joined rfl (by rw [decide_eq_true_eq] at hg; simp; omega))
    · skip
      refine WL.skip <| WL.skip <| WL.skip <| WL.skip <| WL.skip <| WL.e e_pick_f ?_
      exact WL.nil (PO.joined rfl (by rw [decide_eq_false_iff_not] at hg; simp; omega))
  refine WL.next ?_
  refine WP.cond rfl (fun h3 => ?_) (fun h3 => ?_)
  · have hlt : i < l.length := of_decide_eq_true h3
    obtain ⟨x, hx⟩ : ∃ x, l[i]? = some x := ⟨_, List.getElem?_eq_getElem hlt⟩
    rw [drop_cons hx, List.flatMap_cons] at hw
    refine WP.skip ?_
    refine PO.next ?_
    refine WP.seq ?_
    refine WP.block ?_
    refine WP.reg ?_
    refine WL.e e_move <| WL.e e_move ?_
    refine WL.h (h_cally (h2 x ((l.drop (i + 1)).flatMap chgB) w (hok x (List.mem_of_getElem? hx)) hw) ?_)
    intro w2 hw2
    refine WL.h (h_bs sl103 z108 (.a3 (.tmp 21) rfl <| .n) fun b1 => ?_)
    refine WL.h (hl_append (xs := l.take i) (ys := [x]) sl103 chgE z108 (lit_rl chgE [x] rfl) (by simp; omega) (fun a2 n2 c2 => ?_))
    rw [show l.take i ++ [x] = l.take (i + 1) from (take_snoc hx).symm]
    refine WL.e e_assign ?_
    refine WL.nil ?_
    refine PO.blockN ?_
    refine PO.next ?_
    refine WP.reg ?_
    refine WL.e e_move <| WL.e (e_sub (c := ((l.length - (i + 1) : Nat) : Int)) rfl rfl (by rw [w_u32 (by omega) (by omega)]; omega)) <| WL.e e_assign ?_
    refine WL.nil ?_
    exact PO.againK (i + 1, ⟨a2, n2, c2⟩, w2) ⟨by simp only; omega, hw2⟩ (by simp only; omega)
  · replace h3 := of_decide_eq_false h3
    rw [List.take_of_length_le (show l.length ≤ i by omega)]
    refine WP.exit ?_
    refine PO.past nofun ?_
    refine PO.round nofun ?_
    refine PO.blockX ?_
    refine PO.next ?_
    refine WP.seq ?_
    refine WP.reg ?_
    refine WL.e e_move <| WL.e e_assign ?_
    refine WL.next ?_
    refine WP.ret ?_
    refine PO.sh (u := w4.v) ?_
    rintro a1 n1 c1 e1
    exact PO.fin Tryz.results166 (rv_tmp rv_nil) (by have h9 := hK w4.a w4.n w4.c w; exact h9)
theorem rget_spec {g : World} {A : HP} {fn : Fn} {y2 : Value} {v : SV} {l : List ChgM} (h1 : ∀ r c rest (v : SV), chgOk c = true → RL A 1 eB v.v (chgB c ++ rest) → CallV Tryz.prog g (.func fn #[] #[]) [.pointer (some ⟨r, 0, none⟩)] [cl r 270 [v.v, .bool false], A] fun K R => ∀ w : SV, RL A 1 eB w.v rest → K c.v (cl r 270 [w.v, .bool false] :: A :: R)) (h3 : ∀ (l : List ChgM) (u : SV), l.length ≤ 4096 → l.all chgOk = true → CallV Tryz.prog g y2 [u.v] [Sl 108 3 ChgM.c u.v l] fun K R => ∀ a m c, K (.tuple #[.slice a m c, .int .i64 0]) (Sl 5 1 eB (.slice a m c) (chgsB l) :: Sl 108 3 ChgM.c u.v l :: R)) (hl : l.length ≤ 4096) (hok : ∀ c ∈ l, chgOk c = true) (hA : RL A 1 eB v.v (chgsB l)) : Spec Tryz.prog g 134 [v.v, (.func fn #[] #[]), y2] [A] fun K R => ∀ a m c, K (.tuple #[.slice a m c, .int .i64 0]) (Sl 108 3 ChgM.c (.slice a m c) l :: A :: R) := by
  refine Spec.intro Tryz.func134 rfl Tryz.ntmps134 rfl fun R K hK => ?_
  refine WP.seq ?_
  refine WP.reg ?_
  refine WL.h (h_box fun b1 => ?_)
  refine WL.e e_assign <| WL.e e_assign ?_
  refine WL.next ?_
  refine WP.seq ?_
  refine WP.reg ?_
  refine WL.e e_move <| WL.e (e_build z270 p270 (.o (.tmp 12) rfl <| .z (.bool false) <| .n)) ?_
  refine WL.h (h_box fun b2 => ?_)
  refine WL.h (h_alloc z230 fun b3 => ?_)
  refine WL.h' (h_store s230 ?_)
  refine WL.next ?_
  refine WP.seq ?_
  refine WP.reg ?_
  refine WL.e (e_load a230) <| WL.e e_makeFunc ?_
  refine WL.cls (A := GetJ b1 b3 b2 (.func fn #[] #[])) (B := [cl b1 233 [(.func fn #[] #[])], cl b3 230 [.pointer (some ⟨b2, 0, none⟩)]]) (fun S h => ⟨(), h⟩) ?_
  refine WL.h (h_call (several_spec (y := .func (.func 167) #[] #[.pointer (some ⟨b1, 0, none⟩), .pointer (some ⟨b3, 0, none⟩)]) (fun c rest v hc hr => CallV.of_spec (fs := []) (cs := [.pointer (some ⟨b1, 0, none⟩), .pointer (some ⟨b3, 0, none⟩)]) (get1_spec (h1 b2) c hc hr) k167) hl hok hA) k166 ?_)
  intro a5 n5 c5 w
  refine WL.opn (B := fun _ : Unit => [cl b1 233 [(.func fn #[] #[])], cl b3 230 [.pointer (some ⟨b2, 0, none⟩)]]) (fun _ h => h) fun _ => ?_
  refine WL.e e_assign ?_
  refine WL.next ?_
  refine WP.seq ?_
  refine WP.reg ?_
  refine WL.e e_move <| WL.e e_move ?_
  refine WL.h (h_cally (h3 l ⟨a5, n5, c5⟩ hl (List.all_eq_true.2 hok)) ?_)
  intro a6 n6 c6
  refine WL.e e_move <| WL.e e_extract <| WL.e e_extract <| WL.e e_assign <| WL.e e_assign ?_
  refine WL.next ?_
  refine WP.seq ?_
  refine WP.seq ?_
  refine WP.reg ?_
  refine WL.e (e_load a230) <| WL.e e_nil <| WL.e (e_fa f270_1) <| WL.e (e_load a4) <| WL.e e_move ?_
  refine WL.bool 28 rfl (fun y1 => ?_) (fun y1 => ?_)
  · exact absurd y1 (by decide) -- end
  · skip
    refine WL.e e_move <| WL.e e_neq <| WL.e e_pick_f <| WL.e e_move ?_
    refine WL.bool 32 rfl (fun y2 => ?_) (fun y2 => ?_)
    · exact absurd y2 (by decide) -- end
    · skip
      refine WL.e e_move <| WL.e e_move ?_
      refine WL.h (h_call (BEqual_spec hA (sl_rl (xs := chgsB l))) k133 ?_)
      rw [beq_self_eq_true]
      refine WL.e e_not <| WL.e e_pick_f ?_
      refine WL.next ?_
      refine WP.cond_f rfl ?_
      refine WP.skip ?_
      refine PO.next ?_
      refine WP.seq ?_
      refine WP.reg ?_
      refine WL.e e_move <| WL.e e_assign <| WL.e e_assign ?_
      refine WL.next ?_
      refine WP.ret ?_
      exact PO.fin Tryz.results134 (rv_tmp (rv_tmp rv_nil)) (hK a5 n5 c5)
theorem putc_call {g : World} (l : List ChgM) (u : SV) (h1 : l.length ≤ 4096) (h2 : l.all chgOk = true) : CallV Tryz.prog g (.func (.func 55) #[] #[]) [u.v] [Sl 108 3 ChgM.c u.v l] fun K R => ∀ a m c, K (.tuple #[.slice a m c, .int .i64 0]) (Sl 5 1 eB (.slice a m c) (chgsB l) :: Sl 108 3 ChgM.c u.v l :: R) := fun R K w r hw hT => by
  have hcl := (chgs_len l).2 fun c hc => List.all_eq_true.1 h2 c hc
  have hn : l.length ≤ 68719476736 := by omega
  have hb : 2 + (l.flatMap chgB).length ≤ 68719476736 := by omega
  have hs := PutChanges_spec (g := g) (A := Sl 108 3 ChgM.c u.v l) (u := u.v) (l := l) sl_rl hn hb
  have h := CallV.of_spec (fs := []) (cs := []) (args := [u.v]) hs k55
  exact h R K w r hw ⟨fun h => absurd h (by rw [h2]; simp), fun _ h => absurd h1 h, fun _ _ => hT⟩
theorem GetChanges_spec {g : World} {A : HP} {v : SV} {l : List ChgM} (hl : l.length ≤ 4096) (hok : ∀ c ∈ l, chgOk c = true) (hA : RL A 1 eB v.v (chgsB l)) : Spec Tryz.prog g 82 [v.v] [A] fun K R => ∀ a m c, K (.tuple #[.slice a m c, .int .i64 0]) (Sl 108 3 ChgM.c (.slice a m c) l :: A :: R) := by
  refine Spec.intro Tryz.func82 rfl Tryz.ntmps82 rfl fun R K hK => ?_
  refine WP.seq ?_
  refine WP.reg ?_
  refine WL.e e_assign <| WL.e e_assign ?_
  refine WL.next ?_
  refine WP.seq ?_
  refine WP.reg ?_
  refine WL.e e_move ?_
  refine WL.h (h_call (rget_spec (fn := .func 135) (y2 := .func (.func 55) #[] #[]) (fun r c rest v hc hr => CallV.of_spec (fs := []) (cs := []) (chg1_spec c hc hr) k135) putc_call hl hok hA) k134 ?_)
  intro a m c
  refine WL.e e_extract <| WL.e e_extract <| WL.e e_assign <| WL.e e_assign ?_
  refine WL.next ?_
  refine WP.ret ?_
  exact PO.fin Tryz.results82 (rv_tmp (rv_tmp rv_nil)) (hK a m c)
end Go.SL
