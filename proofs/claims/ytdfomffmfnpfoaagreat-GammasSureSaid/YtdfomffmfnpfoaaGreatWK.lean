import Derived.Test.YtdfomffmfnpfoaaGreatWE
import Derived.Test.YtdfomffmfnpfoaaGreatWG
import Derived.Test.YtdfomffmfnpfoaaGreatMH
import Derived.Test.YtdfomffmfnpfoaaGreatProg
import Derived.KernelRfl
set_option linter.unusedSimpArgs false
set_option linter.unusedVariables false
namespace Go.SL.WK
open Go Go.Proofs Go.SL
theorem a103 : aggOf Tryz.prog 103 = some (some 3) := by kernel_rfl
theorem a112 : aggOf Tryz.prog 112 = some none := by kernel_rfl
theorem a116 : aggOf Tryz.prog 116 = some none := by kernel_rfl
theorem a162 : aggOf Tryz.prog 162 = some none := by kernel_rfl
theorem a165 : aggOf Tryz.prog 165 = some none := by kernel_rfl
theorem a31 : aggOf Tryz.prog 31 = some none := by kernel_rfl
theorem a34 : aggOf Tryz.prog 34 = some (some 4) := by kernel_rfl
theorem a37 : aggOf Tryz.prog 37 = some (some 8) := by kernel_rfl
theorem a4 : aggOf Tryz.prog 4 = some none := by kernel_rfl
theorem a5 : aggOf Tryz.prog 5 = some none := by kernel_rfl
theorem a64 : aggOf Tryz.prog 64 = some none := by kernel_rfl
theorem a74 : aggOf Tryz.prog 74 = some none := by kernel_rfl
theorem a77 : aggOf Tryz.prog 77 = some none := by kernel_rfl
theorem a81 : aggOf Tryz.prog 81 = some none := by kernel_rfl
theorem f103_0 : fldOf Tryz.prog 103 0 = some 0 := by kernel_rfl
theorem f103_1 : fldOf Tryz.prog 103 1 = some 1 := by kernel_rfl
theorem f103_2 : fldOf Tryz.prog 103 2 = some 2 := by kernel_rfl
theorem f118_0 : fldOf Tryz.prog 118 0 = some 0 := by kernel_rfl
theorem f118_1 : fldOf Tryz.prog 118 1 = some 1 := by kernel_rfl
theorem f118_2 : fldOf Tryz.prog 118 2 = some 2 := by kernel_rfl
theorem f188_0 : fldOf Tryz.prog 188 0 = some 0 := by kernel_rfl
theorem f188_1 : fldOf Tryz.prog 188 1 = some 1 := by kernel_rfl
theorem f37_0 : fldOf Tryz.prog 37 0 = some 0 := by kernel_rfl
theorem f37_1 : fldOf Tryz.prog 37 1 = some 1 := by kernel_rfl
theorem f37_2 : fldOf Tryz.prog 37 2 = some 2 := by kernel_rfl
theorem f79_1 : fldOf Tryz.prog 79 1 = some 1 := by kernel_rfl
theorem f79_3 : fldOf Tryz.prog 79 3 = some 3 := by kernel_rfl
theorem f79_5 : fldOf Tryz.prog 79 5 = some 5 := by kernel_rfl
theorem k10 : callable Tryz.prog 10 = true := by kernel_rfl
theorem k107 : callable Tryz.prog 107 = true := by kernel_rfl
theorem k108 : callable Tryz.prog 108 = true := by kernel_rfl
theorem k109 : callable Tryz.prog 109 = true := by kernel_rfl
theorem k11 : callable Tryz.prog 11 = true := by kernel_rfl
theorem k110 : callable Tryz.prog 110 = true := by kernel_rfl
theorem k111 : callable Tryz.prog 111 = true := by kernel_rfl
theorem k112 : callable Tryz.prog 112 = true := by kernel_rfl
theorem k12 : callable Tryz.prog 12 = true := by kernel_rfl
theorem k120 : callable Tryz.prog 120 = true := by kernel_rfl
theorem k13 : callable Tryz.prog 13 = true := by kernel_rfl
theorem k130 : callable Tryz.prog 130 = true := by kernel_rfl
theorem k16 : callable Tryz.prog 16 = true := by kernel_rfl
theorem k17 : callable Tryz.prog 17 = true := by kernel_rfl
theorem k18 : callable Tryz.prog 18 = true := by kernel_rfl
theorem k19 : callable Tryz.prog 19 = true := by kernel_rfl
theorem k20 : callable Tryz.prog 20 = true := by kernel_rfl
theorem k23 : callable Tryz.prog 23 = true := by kernel_rfl
theorem k24 : callable Tryz.prog 24 = true := by kernel_rfl
theorem k27 : callable Tryz.prog 27 = true := by kernel_rfl
theorem k31 : callable Tryz.prog 31 = true := by kernel_rfl
theorem k32 : callable Tryz.prog 32 = true := by kernel_rfl
theorem k40 : callable Tryz.prog 40 = true := by kernel_rfl
theorem k45 : callable Tryz.prog 45 = true := by kernel_rfl
theorem k46 : callable Tryz.prog 46 = true := by kernel_rfl
theorem k47 : callable Tryz.prog 47 = true := by kernel_rfl
theorem k48 : callable Tryz.prog 48 = true := by kernel_rfl
theorem k49 : callable Tryz.prog 49 = true := by kernel_rfl
theorem k50 : callable Tryz.prog 50 = true := by kernel_rfl
theorem k51 : callable Tryz.prog 51 = true := by kernel_rfl
theorem k7 : callable Tryz.prog 7 = true := by kernel_rfl
theorem k8 : callable Tryz.prog 8 = true := by kernel_rfl
theorem k82 : callable Tryz.prog 82 = true := by kernel_rfl
theorem k83 : callable Tryz.prog 83 = true := by kernel_rfl
theorem k84 : callable Tryz.prog 84 = true := by kernel_rfl
theorem k85 : callable Tryz.prog 85 = true := by kernel_rfl
theorem k86 : callable Tryz.prog 86 = true := by kernel_rfl
theorem k87 : callable Tryz.prog 87 = true := by kernel_rfl
theorem k88 : callable Tryz.prog 88 = true := by kernel_rfl
theorem k89 : callable Tryz.prog 89 = true := by kernel_rfl
theorem k9 : callable Tryz.prog 9 = true := by kernel_rfl
theorem mixedOk : Tryz.prog.follows .mixedOrders = true := by kernel_rfl
theorem p118 : placesOf Tryz.prog 118 = some [(0, 1), (1, 1), (2, 1)] := by kernel_rfl
theorem p188 : placesOf Tryz.prog 188 = some [(0, 1), (1, 1)] := by kernel_rfl
theorem p79 : placesOf Tryz.prog 79 = some [(0, 1), (1, 1), (2, 1), (3, 1), (4, 1), (5, 1)] := by kernel_rfl
theorem pt26 : isPtr Tryz.prog 26 = true := by kernel_rfl
theorem s103 : szOf Tryz.prog 103 = some 3 := by kernel_rfl
theorem s112 : szOf Tryz.prog 112 = some 1 := by kernel_rfl
theorem s162 : szOf Tryz.prog 162 = some 1 := by kernel_rfl
theorem s31 : szOf Tryz.prog 31 = some 1 := by kernel_rfl
theorem s37 : szOf Tryz.prog 37 = some 8 := by kernel_rfl
theorem s4 : szOf Tryz.prog 4 = some 1 := by kernel_rfl
theorem s81 : szOf Tryz.prog 81 = some 1 := by kernel_rfl
theorem s9 : szOf Tryz.prog 9 = some 1 := by kernel_rfl
theorem sl112 : slOf Tryz.prog 112 = some (115, 64, 64) := by kernel_rfl
theorem sl116 : slOf Tryz.prog 116 = some (120, 65, 72) := by kernel_rfl
theorem sl121 : slOf Tryz.prog 121 = some (81, 1, 24) := by kernel_rfl
theorem sl22 : slOf Tryz.prog 22 = some (37, 8, 72) := by kernel_rfl
theorem sl64 : slOf Tryz.prog 64 = some (31, 1, 4) := by kernel_rfl
theorem sl81 : slOf Tryz.prog 81 = some (5, 1, 1) := by kernel_rfl
theorem sl86 : slOf Tryz.prog 86 = some (103, 3, 24) := by kernel_rfl
theorem z103 : zeroOf Tryz.prog 103 = some [.string .empty, .int .u32 0, .bool false] := by kernel_rfl
theorem z115 : zeroOf Tryz.prog 115 = some (List.replicate 64 (.int .u8 0)) := by kernel_rfl
theorem z118 : zeroOf Tryz.prog 118 = some [.slice none 0 0, .slice none 0 0, .slice none 0 0] := by kernel_rfl
theorem z162 : zeroOf Tryz.prog 162 = some [.pointer none] := by kernel_rfl
theorem z188 : zeroOf Tryz.prog 188 = some [.slice none 0 0, .bool false] := by kernel_rfl
theorem z37 : zeroOf Tryz.prog 37 = some [.int .u8 0, .int .u32 0, .int .u8 0, .string .empty, .string .empty, .int .u32 0, .int .u64 0, .int .i64 0] := by kernel_rfl
theorem z79 : zeroOf Tryz.prog 79 = some [.pointer none, .pointer none, .map none, .int .u32 0, .slice none 0 0, .map none] := by kernel_rfl
end Go.SL.WK
namespace Go.SL
open Go Go.Proofs WK
theorem take_spec {g : World} {A : HP} {r : Nat} {v : SV} {xs rest : List UInt8} (n : Nat) (hn : xs.length = n) (hA : RL A 1 eB v.v (xs ++ rest)) : Spec Tryz.prog g 109 [.pointer (some ⟨r, 0, none⟩), .int .i64 n] [cl r 188 [v.v, .bool false], A] fun K R => ∀ y w : SV, RL A 1 eB y.v xs → RL A 1 eB w.v rest → K y.v (cl r 188 [w.v, .bool false] :: A :: R) := by
  refine Spec.intro Tryz.func109 rfl Tryz.ntmps109 rfl fun R K hK => ?_
  refine WP.seq ?_
  refine WP.reg ?_
  refine WL.e e_assign ?_
  refine WL.next ?_
  refine WP.seq ?_
  refine WP.seq ?_
  refine WP.reg ?_
  refine WL.e e_move <| WL.e e_move <| WL.e e_nil <| WL.e (e_fa f188_0) <| WL.e (e_load a81) ?_
  refine WL.e (el_len sl81 hA) <| WL.e e_gtr ?_
  refine WL.next ?_
  refine WP.cond rfl (fun h => ?_) (fun h => ?_)
  · (rw [decide_eq_true_eq] at h; simp at h; omega)
  · have hle : n ≤ (xs ++ rest).length := by simp; omega
    refine WP.skip ?_
    refine PO.next ?_
    refine WP.seq ?_
    refine WP.draws mixedOk 17 ?_
    refine RW.e 0 rfl e_move <| RW.e 1 rfl e_move <| RW.e 2 rfl e_nil <| RW.e 3 rfl (e_fa f188_0) <| RW.e 4 rfl (e_load a81) <| RW.e 5 rfl e_move ?_
    refine RW.e 6 rfl (el_to (hi := n) sl81 hA hle) <| RW.e 7 rfl e_move <| RW.e 8 rfl e_nil <| RW.e 9 rfl (e_fa f188_0) <| RW.e 10 rfl (e_load a81) <| RW.e 11 rfl e_move ?_
    refine RW.e 12 rfl (el_from (lo := n) sl81 hA hle) <| RW.e 13 rfl e_assign <| RW.e 14 rfl e_nil <| RW.e 15 rfl (e_fa f188_0) ?_
    refine RW.any (is := [16]) rfl ⟨?_, trivial⟩
    refine RWat.h' rfl rfl rfl ?_
    refine (h_store s81 ?_)
    refine ⟨trivial, ?_⟩
    refine RW.done ?_
    refine PO.next ?_
    refine WP.seq ?_
    refine WP.reg ?_
    refine WL.e e_move <| WL.e e_assign ?_
    refine WL.next ?_
    refine WP.ret ?_
    exact PO.fin Tryz.results109 (rv_tmp rv_nil) (hK (subS v 0 n 1) (subS v n (xs ++ rest).length 1) (by have := RL.to_ eB_ok hA hle; rwa [List.take_left' hn] at this) (by have := RL.from_ eB_ok hA hle; rwa [List.drop_left' hn] at this))

theorem rnumber_spec {g : World} {A : HP} {r : Nat} {v : SV} {xs rest : List UInt8} (n : Nat) (hn : xs.length = n) (hA : RL A 1 eB v.v (xs ++ rest)) (hb : n ≤ 4) : Spec Tryz.prog g 86 [.pointer (some ⟨r, 0, none⟩), .int .i64 n] [cl r 188 [v.v, .bool false], A] fun K R => ∀ w : SV, RL A 1 eB w.v rest → K (.int .u32 (beN xs).toNat) (cl r 188 [w.v, .bool false] :: A :: R) := by
  refine Spec.intro Tryz.func86 rfl Tryz.ntmps86 rfl fun R K hK => ?_
  refine WP.seq ?_
  refine WP.reg ?_
  refine WL.e e_assign ?_
  refine WL.next ?_
  refine WP.seq ?_
  refine WP.seq ?_
  refine WP.reg ?_
  refine WL.e e_move <| WL.e e_move ?_
  refine WL.h (h_call (take_spec n hn hA) k109 ?_)
  intro y w hy hw
  refine WL.e (el_len sl81 hy) <| WL.e e_move ?_
  refine WL.next ?_
  refine WP.block ?_
  refine WP.loopK (fun (x : Nat × UInt32) => [(11, .int .i64 x.1), (4, .int .u32 x.2.toNat)]) (fun (x : Nat × UInt32) => cl r 188 [w.v, .bool false] :: A :: R) [(9, _), (10, _)] (fun (x : Nat × UInt32) => x.1 ≤ xs.length ∧ x.2 = beN (xs.take x.1)) (fun (x : Nat × UInt32) => xs.length - x.1) (0, 0) (⟨Nat.zero_le _, by simp [beN]⟩) ?_
  rintro ⟨x, m⟩ ⟨hx1, hx2⟩
  simp only at hx1 hx2
  dsimp only
  refine WP.seq ?_
  refine WP.reg ?_
  refine WL.e e_lss ?_
  refine WL.next ?_
  refine WP.seq ?_
  refine WP.cond rfl (fun h2 => ?_) (fun h2 => ?_)
  · have hlt : x < xs.length := by simp at h2; omega
    obtain ⟨c, hc⟩ : ∃ c, xs[x]? = some c := ⟨_, List.getElem?_eq_getElem hlt⟩
    refine WP.skip ?_
    refine PO.next ?_
    refine WP.seq ?_
    refine WP.block ?_
    refine WP.seq ?_
    refine WP.reg ?_
    refine WL.e (el_ia sl81 hy hlt) ?_
    refine WL.e (el_load0 a5 eB_ok hy hc) <| WL.e e_assign ?_
    refine WL.next ?_
    refine WP.reg ?_
    refine WL.e e_move <| WL.e (e_shl32 (m := 8) (by decide)) <| WL.e e_move <| WL.e (e_c8to32 (by rw [Tryz.underlying5]; rfl) Tryz.underlying31) <| WL.e e_or32 <| WL.e e_assign ?_
    refine WL.nil ?_
    refine PO.blockN ?_
    refine PO.next ?_
    refine WP.reg ?_
    refine WL.e (e_add rfl rfl (w_i64 (by omega) (by omega))) <| WL.e e_move ?_
    refine WL.nil ?_
    exact PO.againK (x + 1, (m <<< 8) ||| c.toUInt32) ⟨by simp only; omega, by simp only; rw [take_snoc hc, beN_snoc, ← hx2]⟩ (by simp only; omega)
  · obtain rfl : m = beN xs := by rw [hx2, List.take_of_length_le (by simp at h2; omega)]
    refine WP.exit ?_
    refine PO.past nofun ?_
    refine PO.round nofun ?_
    refine PO.blockX ?_
    refine PO.next ?_
    refine WP.seq ?_
    refine WP.reg ?_
    refine WL.e e_move <| WL.e e_assign ?_
    refine WL.next ?_
    refine WP.ret ?_
    exact PO.fin Tryz.results86 (rv_tmp rv_nil) (hK w hw)

theorem rtext_spec {g : World} {A : HP} {r : Nat} {v : SV} {rest : List UInt8} (s : ByteArray) (hs : s.size < 256) (hA : RL A 1 eB v.v (textB s ++ rest)) : Spec Tryz.prog g 85 [.pointer (some ⟨r, 0, none⟩)] [cl r 188 [v.v, .bool false], A] fun K R => ∀ w : SV, RL A 1 eB w.v rest → K (.string s) (cl r 188 [w.v, .bool false] :: A :: R) := by
  refine Spec.intro Tryz.func85 rfl Tryz.ntmps85 rfl fun R K hK => ?_
  refine WP.seq ?_
  refine WP.reg ?_
  refine WL.e e_assign ?_
  refine WL.next ?_
  refine WP.seq ?_
  refine WP.reg ?_
  refine WL.e e_move <| WL.e e_move ?_
  refine WL.h (h_call (rnumber_spec (xs := [UInt8.ofNat s.size]) (rest := bytesOf s ++ rest) 1 rfl hA (by decide)) k86 ?_)
  intro w hw
  rw [beN_num1 _ hs]
  refine WL.e (e_conv (c := (s.size : Int)) (by rw [Tryz.underlying31]; rfl) Tryz.underlying3 rfl (w_i64 (by omega) (by omega))) ?_
  refine WL.h (h_call (take_spec (xs := bytesOf s) (rest := rest) s.size (bytesOf_len s) hw) k109 ?_)
  intro y w2 hy hw2
  refine WL.e (e_b2s Tryz.underlying81 Tryz.underlying5 Tryz.underlying9 hy) <| WL.e e_assign ?_
  refine WL.next ?_
  refine WP.ret ?_
  rw [textOf_bytes]
  exact PO.fin Tryz.results85 (rv_tmp rv_nil) (hK w2 hw2)

theorem chg1_spec {g : World} {A : HP} {r : Nat} {v : SV} {rest : List UInt8} (c : ChgM) (hc : chgOk c = true) (hA : RL A 1 eB v.v (chgB c ++ rest)) : Spec Tryz.prog g 84 [.pointer (some ⟨r, 0, none⟩)] [cl r 188 [v.v, .bool false], A] fun K R => ∀ w : SV, RL A 1 eB w.v rest → K c.v (cl r 188 [w.v, .bool false] :: A :: R) := by
  have hks := chg_size hc
  refine Spec.intro Tryz.func84 rfl Tryz.ntmps84 rfl fun R K hK => ?_
  refine WP.seq ?_
  refine WP.reg ?_
  refine WL.h (h_alloc z103 fun b1 => ?_)
  refine WL.next ?_
  refine WP.seq ?_
  refine WP.reg ?_
  refine WL.e e_move ?_
  refine WL.h (h_call (rtext_spec (rest := [if c.gone then (1 : UInt8) else 0] ++ (numB c.val 4 ++ rest)) c.key hks (by have h0 := hA; simpa [chgB] using h0)) k85 ?_)
  intro w1 hw1
  refine WL.e (e_fa f103_0) ?_
  refine WL.h' (h_store s9 ?_)
  refine WL.next ?_
  refine WP.seq ?_
  refine WP.reg ?_
  refine WL.e e_move ?_
  refine WL.h (h_call (rnumber_spec (xs := [if c.gone then (1 : UInt8) else 0]) (rest := numB c.val 4 ++ rest) 1 rfl hw1 (by decide)) k86 ?_)
  intro w2 hw2
  refine WL.e (e_eql32 (b := 1)) <| WL.e (e_fa f103_2) ?_
  refine WL.h' (h_store s4 ?_)
  refine WL.next ?_
  refine WP.seq ?_
  refine WP.reg ?_
  refine WL.e e_move ?_
  refine WL.h (h_call (rnumber_spec (xs := numB c.val 4) (rest := rest) 4 (numB_len _ _) hw2 (by decide)) k86 ?_)
  intro w3 hw3
  rw [beN_num4, gone_back c]
  refine WL.e (e_fa f103_1) ?_
  refine WL.h' (h_store s31 ?_)
  refine WL.next ?_
  refine WP.seq ?_
  refine WP.reg ?_
  refine WL.e (e_loadN a103) ?_
  refine WL.h' (h_store s103 ?_)
  refine WL.next ?_
  refine WP.ret ?_
  exact PO.fin Tryz.results84 (rv_cellN a103 rv_nil) (hK w3 hw3)

/-- What the closure of a list that is read holds. -/
def GetJ (b4 b8 r : Nat) (y : Value) : HP := fun S => ∃ _ : Unit, stars [cl b4 165 [y], cl b8 162 [.pointer (some ⟨r, 0, none⟩)]] S

theorem get1_spec {g : World} {A : HP} {r b4 b8 : Nat} {y : Value} {v : SV} {rest : List UInt8} (h1 : ∀ c rest (v : SV), chgOk c = true → RL A 1 eB v.v (chgB c ++ rest) → CallV Tryz.prog g y [.pointer (some ⟨r, 0, none⟩)] [cl r 188 [v.v, .bool false], A] fun K R => ∀ w : SV, RL A 1 eB w.v rest → K c.v (cl r 188 [w.v, .bool false] :: A :: R)) (c : ChgM) (hc : chgOk c = true) (hA : RL A 1 eB v.v (chgB c ++ rest)) : Spec Tryz.prog g 108 [.pointer (some ⟨b4, 0, none⟩), .pointer (some ⟨b8, 0, none⟩)] [GetJ b4 b8 r y, cl r 188 [v.v, .bool false], A] fun K R => ∀ w : SV, RL A 1 eB w.v rest → K c.v (GetJ b4 b8 r y :: cl r 188 [w.v, .bool false] :: A :: R) := by
  refine Spec.intro Tryz.func108 rfl Tryz.ntmps108 rfl fun R K hK => ?_
  refine WP.opn (B := fun _ : Unit => [cl b4 165 [y], cl b8 162 [.pointer (some ⟨r, 0, none⟩)]]) (fun _ h => h) fun _ => ?_
  refine WP.seq ?_
  refine WP.reg ?_
  refine WL.h (h_alloc z103 fun b1 => ?_)
  refine WL.next ?_
  refine WP.seq ?_
  refine WP.reg ?_
  refine WL.e (e_load a165) <| WL.e (e_load a162) ?_
  refine WL.h (h_cally (h1 c rest v hc hA) ?_)
  intro w hw
  refine WL.h' (h_store s103 ?_)
  refine WL.next ?_
  refine WP.ret ?_
  refine PO.cls (A := GetJ b4 b8 r y) (B := [cl b4 165 [y], cl b8 162 [.pointer (some ⟨r, 0, none⟩)]]) (fun S h => ⟨(), h⟩) ?_
  exact PO.fin Tryz.results108 (rv_cellN a103 rv_nil) (hK w hw)

theorem several_spec {g : World} {A B : HP} {r : Nat} {y : Value} {v : SV} {l : List ChgM} (h2 : ∀ c rest (v : SV), chgOk c = true → RL A 1 eB v.v (chgB c ++ rest) → CallV Tryz.prog g y [] [B, cl r 188 [v.v, .bool false], A] fun K R => ∀ w : SV, RL A 1 eB w.v rest → K c.v (B :: cl r 188 [w.v, .bool false] :: A :: R)) (hl : l.length ≤ 4096) (hok : ∀ c ∈ l, chgOk c = true) (hA : RL A 1 eB v.v (chgsB l)) : Spec Tryz.prog g 107 [.pointer (some ⟨r, 0, none⟩), y] [B, cl r 188 [v.v, .bool false], A] fun K R => ∀ a m c (w : SV), K (.slice a m c) (Sl 103 3 ChgM.c (.slice a m c) l :: B :: cl r 188 [w.v, .bool false] :: A :: R) := by
  have hln : (UInt32.ofNat l.length).toNat = l.length := by rw [UInt32.toNat_ofNat']; exact Nat.mod_eq_of_lt (by omega)
  refine Spec.intro Tryz.func107 rfl Tryz.ntmps107 rfl fun R K hK => ?_
  refine WP.seq ?_
  refine WP.reg ?_
  refine WL.e e_assign ?_
  refine WL.next ?_
  refine WP.seq ?_
  refine WP.seq ?_
  refine WP.reg ?_
  refine WL.e e_move ?_
  refine WL.h (h_call (rnumber_spec (xs := numB (UInt32.ofNat l.length) 2) (rest := l.flatMap chgB) 2 (numB_len _ _) hA (by decide)) k86 ?_)
  intro w hw
  rw [beN_num2 _ (by rw [hln]; omega), hln]
  refine WL.e e_assign ?_
  refine WL.next ?_
  refine WP.block ?_
  refine WP.nils 103 3 ChgM.c none ?_
  refine WP.loopK (fun (x : Nat × SV × SV) => [(5, .int .u32 ((l.length - x.1 : Nat) : Int)), (4, x.2.1.v)]) (fun (x : Nat × SV × SV) => Sl 103 3 ChgM.c x.2.1.v (l.take x.1) :: B :: cl r 188 [x.2.2.v, .bool false] :: A :: R) [(0, _), (1, _)] (fun (x : Nat × SV × SV) => x.1 ≤ l.length ∧ RL A 1 eB x.2.2.v ((l.drop x.1).flatMap chgB)) (fun (x : Nat × SV × SV) => l.length - x.1) (0, ⟨none, 0, 0⟩, w) (⟨Nat.zero_le _, hw⟩) ?_
  rintro ⟨i, w4, w⟩ ⟨hi, hw⟩
  simp only at hi hw
  dsimp only
  refine WP.seq ?_
  refine WP.seq ?_
  refine WP.reg ?_
  refine WL.e e_move <| WL.e e_gtr <| WL.e e_move ?_
  refine WL.join 16 (.bool (decide (i < l.length))) (.c (.c (.c (.c (.c (.c .n)))))) ?_ ?_
  · refine WL.bool 10 rfl (fun hg => ?_) (fun hg => ?_)
    · skip
      refine WL.e e_move <| WL.e e_nil <| WL.e (e_fa f188_1) <| WL.e (e_load a4) <| WL.e e_not <| WL.e e_pick_t ?_
      exact WL.nil (PO.joined rfl (by rw [decide_eq_true_eq] at hg; simp; omega))
    · skip
      refine WL.skip <| WL.skip <| WL.skip <| WL.skip <| WL.skip <| WL.e e_pick_f ?_
      exact WL.nil (PO.joined rfl (by rw [decide_eq_false_iff_not] at hg; simp; omega))
  refine WL.next ?_
  refine WP.cond rfl (fun h3 => ?_) (fun h3 => ?_)
  · have hlt : i < l.length := of_decide_eq_true h3
    obtain ⟨x, hx⟩ : ∃ x, l[i]? = some x := ⟨_, List.getElem?_eq_getElem hlt⟩
    rw [drop_cons hx, List.flatMap_cons] at hw
    refine WP.skip ?_
    refine PO.next ?_
    refine WP.seq ?_
    refine WP.block ?_
    refine WP.reg ?_
    refine WL.e e_move <| WL.e e_move ?_
    refine WL.h (h_cally (h2 x ((l.drop (i + 1)).flatMap chgB) w (hok x (List.mem_of_getElem? hx)) hw) ?_)
    intro w2 hw2
    refine WL.h (h_bs sl86 z103 (.a3 (.tmp 21) rfl <| .n) fun b1 => ?_)
    refine WL.h (hl_append (xs := l.take i) (ys := [x]) sl86 chgE z103 (lit_rl chgE [x] rfl) (by simp; omega) (fun a2 n2 c2 => ?_))
    rw [show l.take i ++ [x] = l.take (i + 1) from (take_snoc hx).symm]
    refine WL.e e_assign ?_
    refine WL.nil ?_
    refine PO.blockN ?_
    refine PO.next ?_
    refine WP.reg ?_
    refine WL.e e_move <| WL.e (e_sub (c := ((l.length - (i + 1) : Nat) : Int)) rfl rfl (by rw [w_u32 (by omega) (by omega)]; omega)) <| WL.e e_assign ?_
    refine WL.nil ?_
    exact PO.againK (i + 1, ⟨a2, n2, c2⟩, w2) ⟨by simp only; omega, hw2⟩ (by simp only; omega)
  · replace h3 := of_decide_eq_false h3
    rw [List.take_of_length_le (show l.length ≤ i by omega)]
    refine WP.exit ?_
    refine PO.past nofun ?_
    refine PO.round nofun ?_
    refine PO.blockX ?_
    refine PO.next ?_
    refine WP.seq ?_
    refine WP.reg ?_
    refine WL.e e_move <| WL.e e_assign ?_
    refine WL.next ?_
    refine WP.ret ?_
    refine PO.sh (u := w4.v) ?_
    rintro a1 n1 c1 e1
    exact PO.fin Tryz.results107 (rv_tmp rv_nil) (by have h9 := hK w4.a w4.n w4.c w; exact h9)

theorem rget_spec {g : World} {A : HP} {fn : Fn} {y2 : Value} {v : SV} {l : List ChgM} (h1 : ∀ r c rest (v : SV), chgOk c = true → RL A 1 eB v.v (chgB c ++ rest) → CallV Tryz.prog g (.func fn #[] #[]) [.pointer (some ⟨r, 0, none⟩)] [cl r 188 [v.v, .bool false], A] fun K R => ∀ w : SV, RL A 1 eB w.v rest → K c.v (cl r 188 [w.v, .bool false] :: A :: R)) (h3 : ∀ (l : List ChgM) (u : SV), l.length ≤ 4096 → l.all chgOk = true → CallV Tryz.prog g y2 [u.v] [Sl 103 3 ChgM.c u.v l] fun K R => ∀ a m c, K (.tuple #[.slice a m c, .int .i64 0]) (Sl 5 1 eB (.slice a m c) (chgsB l) :: Sl 103 3 ChgM.c u.v l :: R)) (hl : l.length ≤ 4096) (hok : ∀ c ∈ l, chgOk c = true) (hA : RL A 1 eB v.v (chgsB l)) : Spec Tryz.prog g 83 [v.v, (.func fn #[] #[]), y2] [A] fun K R => ∀ a m c, K (.tuple #[.slice a m c, .int .i64 0]) (Sl 103 3 ChgM.c (.slice a m c) l :: A :: R) := by
  refine Spec.intro Tryz.func83 rfl Tryz.ntmps83 rfl fun R K hK => ?_
  refine WP.seq ?_
  refine WP.reg ?_
  refine WL.h (h_box fun b1 => ?_)
  refine WL.e e_assign <| WL.e e_assign ?_
  refine WL.next ?_
  refine WP.seq ?_
  refine WP.reg ?_
  refine WL.e e_move <| WL.e (e_build z188 p188 (.o (.tmp 12) rfl <| .z (.bool false) <| .n)) ?_
  refine WL.h (h_box fun b2 => ?_)
  refine WL.h (h_alloc z162 fun b3 => ?_)
  refine WL.h' (h_store s162 ?_)
  refine WL.next ?_
  refine WP.seq ?_
  refine WP.reg ?_
  refine WL.e (e_load a162) <| WL.e e_makeFunc ?_
  refine WL.cls (A := GetJ b1 b3 b2 (.func fn #[] #[])) (B := [cl b1 165 [(.func fn #[] #[])], cl b3 162 [.pointer (some ⟨b2, 0, none⟩)]]) (fun S h => ⟨(), h⟩) ?_
  refine WL.h (h_call (several_spec (y := .func (.func 108) #[] #[.pointer (some ⟨b1, 0, none⟩), .pointer (some ⟨b3, 0, none⟩)]) (fun c rest v hc hr => CallV.of_spec (fs := []) (cs := [.pointer (some ⟨b1, 0, none⟩), .pointer (some ⟨b3, 0, none⟩)]) (get1_spec (h1 b2) c hc hr) k108) hl hok hA) k107 ?_)
  intro a5 n5 c5 w
  refine WL.opn (B := fun _ : Unit => [cl b1 165 [(.func fn #[] #[])], cl b3 162 [.pointer (some ⟨b2, 0, none⟩)]]) (fun _ h => h) fun _ => ?_
  refine WL.e e_assign ?_
  refine WL.next ?_
  refine WP.seq ?_
  refine WP.reg ?_
  refine WL.e e_move <| WL.e e_move ?_
  refine WL.h (h_cally (h3 l ⟨a5, n5, c5⟩ hl (List.all_eq_true.2 hok)) ?_)
  intro a6 n6 c6
  refine WL.e e_move <| WL.e e_extract <| WL.e e_extract <| WL.e e_assign <| WL.e e_assign ?_
  refine WL.next ?_
  refine WP.seq ?_
  refine WP.seq ?_
  refine WP.reg ?_
  refine WL.e (e_load a162) <| WL.e e_nil <| WL.e (e_fa f188_1) <| WL.e (e_load a4) <| WL.e e_move ?_
  refine WL.bool 28 rfl (fun y1 => ?_) (fun y1 => ?_)
  · exact absurd y1 (by decide) -- end
  · skip
    refine WL.e e_move <| WL.e e_neq <| WL.e e_pick_f <| WL.e e_move ?_
    refine WL.bool 32 rfl (fun y2 => ?_) (fun y2 => ?_)
    · exact absurd y2 (by decide) -- end
    · skip
      refine WL.e e_move <| WL.e e_move ?_
      refine WL.h (h_call (BEqual_spec hA (sl_rl (xs := chgsB l))) k82 ?_)
      rw [beq_self_eq_true]
      refine WL.e e_not <| WL.e e_pick_f ?_
      refine WL.next ?_
      refine WP.cond_f rfl ?_
      refine WP.skip ?_
      refine PO.next ?_
      refine WP.seq ?_
      refine WP.reg ?_
      refine WL.e e_move <| WL.e e_assign <| WL.e e_assign ?_
      refine WL.next ?_
      refine WP.ret ?_
      exact PO.fin Tryz.results83 (rv_tmp (rv_tmp rv_nil)) (hK a5 n5 c5)

theorem putc_call {g : World} (l : List ChgM) (u : SV) (h1 : l.length ≤ 4096) (h2 : l.all chgOk = true) : CallV Tryz.prog g (.func (.func 27) #[] #[]) [u.v] [Sl 103 3 ChgM.c u.v l] fun K R => ∀ a m c, K (.tuple #[.slice a m c, .int .i64 0]) (Sl 5 1 eB (.slice a m c) (chgsB l) :: Sl 103 3 ChgM.c u.v l :: R) := fun R K w r hw hT => by
  have hcl := (chgs_len l).2 fun c hc => List.all_eq_true.1 h2 c hc
  have hn : l.length ≤ 68719476736 := by omega
  have hb : 2 + (l.flatMap chgB).length ≤ 68719476736 := by omega
  have hs := PutChanges_spec (g := g) (A := Sl 103 3 ChgM.c u.v l) (u := u.v) (l := l) sl_rl hn hb
  have h := CallV.of_spec (fs := []) (cs := []) (args := [u.v]) hs k27
  exact h R K w r hw ⟨fun h => absurd h (by rw [h2]; simp), fun _ h => absurd h1 h, fun _ _ => hT⟩

theorem GetChanges_spec {g : World} {A : HP} {v : SV} {l : List ChgM} (hl : l.length ≤ 4096) (hok : ∀ c ∈ l, chgOk c = true) (hA : RL A 1 eB v.v (chgsB l)) : Spec Tryz.prog g 48 [v.v] [A] fun K R => ∀ a m c, K (.tuple #[.slice a m c, .int .i64 0]) (Sl 103 3 ChgM.c (.slice a m c) l :: A :: R) := by
  refine Spec.intro Tryz.func48 rfl Tryz.ntmps48 rfl fun R K hK => ?_
  refine WP.seq ?_
  refine WP.reg ?_
  refine WL.e e_assign <| WL.e e_assign ?_
  refine WL.next ?_
  refine WP.seq ?_
  refine WP.reg ?_
  refine WL.e e_move ?_
  refine WL.h (h_call (rget_spec (fn := .func 84) (y2 := .func (.func 27) #[] #[]) (fun r c rest v hc hr => CallV.of_spec (fs := []) (cs := []) (chg1_spec c hc hr) k84) putc_call hl hok hA) k83 ?_)
  intro a m c
  refine WL.e e_extract <| WL.e e_extract <| WL.e e_assign <| WL.e e_assign ?_
  refine WL.next ?_
  refine WP.ret ?_
  exact PO.fin Tryz.results48 (rv_tmp (rv_tmp rv_nil)) (hK a m c)

theorem Txs_nil {L : List HP} {S : Piece} (h : stars L S) : stars (Txs [] :: L) S := bun_stars (L := []) h

theorem recs_rl {l : List RecV} {x : RecV} (h : x ∈ l) : RL (RecsR l) 1 eB x.1.v x.2.1 := fun S hS => by
  obtain ⟨T, h1, h2⟩ := mem_stars (List.mem_map.2 ⟨x, h, rfl⟩ : recR x ∈ l.map recR) S hS
  exact rds_mono (sl_rl T h2) h1

set_option maxHeartbeats 4000000 in
theorem NewR_spec {g : World} {dp : Nat} {d : DiskM} (ys : List RecG) (at0 : Nat) (hd : d.ok) (hw : d.waits.length < 4000000000) (hz : (recs d.seen.flatten).map (·.1) = ys.map recB) (ha : ((recs d.seen.flatten).map (·.2)).sum = at0) (hok : ∀ y ∈ ys, recOk y) (hsum : (ys.map (fun y => y.2.length)).sum ≤ 1000000000) (hc : cleanTo d.seen.flatten d at0 (d.sure.length - at0) = d) :
    Spec Tryz.prog g 19 [.pointer (some ⟨dp, 0, none⟩)] [Dk dp d] fun K R => ∀ p, K (.tuple #[.pointer (some ⟨p, 0, none⟩), .int .i64 0]) (Gs p dp (reAll (⟨d.sync, at0, [], [], 0, [], []⟩ : GamV) ys) :: Txs [] :: R) := by
  refine Spec.intro Tryz.func19 rfl Tryz.ntmps19 rfl fun R K hK => ?_
  refine WP.seq ?_
  refine WP.reg ?_
  refine WL.e e_assign <| WL.e e_assign ?_
  refine WL.next ?_
  refine WP.seq ?_
  refine WP.reg ?_
  refine WL.e e_move ?_
  refine WL.h (h_call (Open_spec hd hw) k47 ?_)
  intro lp rv xs hx
  obtain rfl : tot xs = at0 := by rw [← ha, ← hx]; simp [tot]; rfl
  have hxl : xs.map (·.2.1) = ys.map recB := by rw [← hz, ← hx]; simp
  have hlen : xs.length = ys.length := by have := congrArg List.length hxl; simpa using this
  have hxb : xs.length ≤ 4096 := by have h7 := (recs_le _ d.seen.flatten (Nat.le_refl _)).2; rw [flat_seen hd.l2, hd.len] at h7; have h8 := hd.le; have h9 := congrArg List.length hx; simp at h9; omega
  rw [hc]
  refine WL.e e_move <| WL.e e_extract <| WL.e e_extract <| WL.e e_extract <| WL.e e_assign <| WL.e e_assign <| WL.e e_assign ?_
  refine WL.next ?_
  refine WP.seq ?_
  refine WP.seq ?_
  refine WP.reg ?_
  refine WL.e e_move <| WL.e e_neq ?_
  refine WL.next ?_
  refine WP.cond_f rfl ?_
  refine WP.skip ?_
  refine PO.next ?_
  refine WP.seq ?_
  refine WP.reg ?_
  refine WL.e e_move ?_
  refine WL.h (h_call (MNew_spec) k40 ?_)
  intro mp
  refine WL.h (h_makeMapB (ek := eStr) fun nb => ?_)
  refine WL.h (h_makeMapB (ek := eU32) fun mb => ?_)
  refine WL.e (e_build z79 p79 (.o (.tmp 22) rfl <| .o (.tmp 23) rfl <| .o (.tmp 24) rfl <| .z (.int .u32 0) <| .z (.slice none 0 0) <| .o (.tmp 25) rfl <| .n)) ?_
  refine WL.h (h_box fun b1 => ?_)
  refine WL.e e_assign ?_
  refine WL.next ?_
  refine WP.seq ?_
  refine WP.seq ?_
  refine WP.reg ?_
  refine WL.e e_move ?_
  refine WL.e (el_len (xs := xs) sl121 sl_rl) <| WL.e e_move ?_
  refine WL.next ?_
  refine WP.block ?_
  refine WP.nils 105 3 lookC none ?_
  refine WP.cls (A := Gs b1 dp (⟨d.sync, tot xs, [], [], 0, [], []⟩ : GamV)) (B := [cl b1 79 [.pointer (some ⟨lp, 0, none⟩), .pointer (some ⟨mp, 0, none⟩), (.map (some nb)), .int .u32 0, .slice none 0 0, (.map (some mb))], cl lp 143 [.pointer (some ⟨dp, 0, none⟩), .int .i64 (tot xs)], Dk dp d.sync, Mm mp [], Mp eStr (.map (some nb)) ([] : List (ByteArray × Value)), Sl 105 3 lookC (.slice none 0 0) [], Mp eU32 (.map (some mb)) ([] : List (UInt32 × Value))]) (fun S h => ⟨⟨lp, mp, .map (some nb), .map (some mb), ⟨none, 0, 0⟩⟩, h⟩) ?_
  refine WP.conv (fun S h => Txs_nil h) ?_
  refine WP.loopK (fun (i : Nat) => [(30, .int .i64 i)]) (fun (i : Nat) => Txs [] :: Gs b1 dp (reAll (⟨d.sync, tot xs, [], [], 0, [], []⟩ : GamV) (ys.take i)) :: Sl 81 1 recC rv.v xs :: RecsR xs :: R) [(7, _), (28, _), (29, _)] (fun (i : Nat) => i ≤ ys.length) (fun (i : Nat) => ys.length - i) 0 (Nat.zero_le _) ?_
  intro i hi
  obtain ⟨hr1, hr2⟩ := re_rows (⟨d.sync, tot xs, [], [], 0, [], []⟩ : GamV) rfl ys i
  obtain ⟨s, hS⟩ : ∃ s, s = reAll (⟨d.sync, tot xs, [], [], 0, [], []⟩ : GamV) (ys.take i) := ⟨_, rfl⟩
  rw [← hS] at hr1 hr2 ⊢
  refine WP.seq ?_
  refine WP.reg ?_
  refine WL.e e_lss ?_
  refine WL.next ?_
  refine WP.seq ?_
  refine WP.cond rfl (fun h1 => ?_) (fun h1 => ?_)
  · have hlt : i < xs.length := by rw [decide_eq_true_eq] at h1; omega
    obtain ⟨x, hxi⟩ : ∃ x, xs[i]? = some x := ⟨_, List.getElem?_eq_getElem hlt⟩
    obtain ⟨y, hy⟩ : ∃ y, ys[i]? = some y := ⟨_, List.getElem?_eq_getElem (by omega)⟩
    have hxy : x.2.1 = recB y := by have := congrArg (·[i]?) hxl; simpa [hxi, hy] using this
    have hrl := recs_rl (List.mem_of_getElem? hxi)
    have hyo := hok y (List.mem_of_getElem? hy)
    have hxn : x.2.1.length = 4 + (chgsB y.2).length := by rw [hxy, recB, List.length_append, numB_len]
    have hst := sum_take i (l := ys.map (fun y => y.2.length)) (x := y.2.length) (by rw [List.getElem?_map, hy]; rfl)
    rw [← List.map_take] at hst
    refine WP.skip ?_
    refine PO.next ?_
    refine WP.seq ?_
    refine WP.block ?_
    refine WP.seq ?_
    refine WP.reg ?_
    refine WL.e (el_ia (j := i) (xs := xs) sl121 sl_rl hlt) ?_
    refine WL.e (el_load0 (j := i) (xs := xs) (a := x) a81 recCE sl_rl hxi) <| WL.e e_assign ?_
    refine WL.next ?_
    refine WP.seq ?_
    refine WP.seq ?_
    refine WP.reg ?_
    refine WL.e e_move ?_
    refine WL.e (el_len (xs := x.2.1) sl81 hrl) <| WL.e e_lss ?_
    refine WL.next ?_
    refine WP.cond rfl (fun h2 => ?_) (fun h2 => ?_)
    · (rw [decide_eq_true_eq] at h2; omega)
    · skip
      refine WP.skip ?_
      refine PO.next ?_
      refine WP.seq ?_
      refine WP.draws mixedOk 23 ?_
      refine RW.e 0 rfl e_move ?_
      refine RW.e 1 rfl (el_ia (j := 0) sl81 hrl (by omega)) ?_
      refine RW.e 2 rfl (el_load0 (j := 0) (a := UInt8.ofNat (y.1.toNat / 2 ^ 24)) a5 eB_ok hrl (by rw [hxy]; simp [recB, numB])) <| RW.e 3 rfl (e_c8to32 (by rw [Tryz.underlying5]; rfl) Tryz.underlying31) <| RW.e 4 rfl (e_shl32 (m := 24) (by decide)) <| RW.e 5 rfl e_move ?_
      refine RW.e 6 rfl (el_ia (j := 1) sl81 hrl (by omega)) ?_
      refine RW.e 7 rfl (el_load0 (j := 1) (a := UInt8.ofNat (y.1.toNat / 2 ^ 16)) a5 eB_ok hrl (by rw [hxy]; simp [recB, numB])) <| RW.e 8 rfl (e_c8to32 (by rw [Tryz.underlying5]; rfl) Tryz.underlying31) <| RW.e 9 rfl (e_shl32 (m := 16) (by decide)) <| RW.e 10 rfl e_or32 <| RW.e 11 rfl e_move ?_
      refine RW.e 12 rfl (el_ia (j := 2) sl81 hrl (by omega)) ?_
      refine RW.e 13 rfl (el_load0 (j := 2) (a := UInt8.ofNat (y.1.toNat / 2 ^ 8)) a5 eB_ok hrl (by rw [hxy]; simp [recB, numB])) <| RW.e 14 rfl (e_c8to32 (by rw [Tryz.underlying5]; rfl) Tryz.underlying31) <| RW.e 15 rfl (e_shl32 (m := 8) (by decide)) <| RW.e 16 rfl e_or32 <| RW.e 17 rfl e_move ?_
      refine RW.e 18 rfl (el_ia (j := 3) sl81 hrl (by omega)) ?_
      refine RW.e 19 rfl (el_load0 (j := 3) (a := UInt8.ofNat (y.1.toNat)) a5 eB_ok hrl (by rw [hxy]; simp [recB, numB])) <| RW.e 20 rfl (e_c8to32 (by rw [Tryz.underlying5]; rfl) Tryz.underlying31) <| RW.e 21 rfl e_or32 <| RW.e 22 rfl e_assign ?_
      refine RW.done ?_
      refine PO.next ?_
      refine WP.seq ?_
      refine WP.reg ?_
      refine WL.e e_move ?_
      refine WL.e (el_from (lo := 4) (xs := x.2.1) sl81 hrl (by omega)) ?_
      rw [four_back]
      refine WL.h (h_call (GetChanges_spec (v := subS x.1 4 x.2.1.length 1) (l := y.2) hyo.1 hyo.2 (by have := RL.from_ (lo := 4) eB_ok hrl (by omega); rwa [show x.2.1.drop 4 = chgsB y.2 by rw [hxy, recB]; exact List.drop_left' (numB_len _ _)] at this)) k48 ?_)
      intro a5 n5 c5
      refine WL.opn (Gs_op (p := b1) (dp := dp) (s := s)) fun x => ?_
      obtain ⟨lp, mp, nm, lm, sv⟩ := x
      dsimp only
      refine WL.e e_move <| WL.e e_extract <| WL.e e_extract <| WL.e e_assign <| WL.e e_assign ?_
      refine WL.next ?_
      refine WP.seq ?_
      refine WP.seq ?_
      refine WP.reg ?_
      refine WL.e e_move <| WL.e e_neq <| WL.e e_move ?_
      refine WL.bool 67 rfl (fun g1 => ?_) (fun g1 => ?_)
      · exact absurd g1 (by decide) -- end
      · skip
        refine WL.e e_move <| WL.e e_nil <| WL.e (e_fa f79_1) <| WL.e (e_load a74) <| WL.e e_move ?_
        refine WL.h (h_call (Change_spec (l := s.rows) (sl_rl (xs := y.2)) hr1 (by omega)) k31 ?_)
        refine ⟨fun hb => absurd hb (by rw [List.any_eq_false.2 fun c hc => by simp [hyo.2 c hc]]; simp), fun _ => ?_⟩
        refine WL.e e_neq <| WL.e e_pick_f ?_
        refine WL.next ?_
        refine WP.cond_f rfl ?_
        refine WP.cls (A := Gs b1 dp { s with rows := changeR s.rows y.2 }) (B := [cl b1 79 [.pointer (some ⟨lp, 0, none⟩), .pointer (some ⟨mp, 0, none⟩), nm, .int .u32 s.last.toNat, sv.v, lm], cl lp 143 [.pointer (some ⟨dp, 0, none⟩), .int .i64 s.at_], Dk dp s.d, Mm mp (changeR s.rows y.2), Mp eStr nm (List.map numC s.nums), Sl 105 3 lookC (sv.v) s.looks, Mp eU32 lm (List.map kvT s.txs)]) (fun S h => ⟨⟨lp, mp, nm, lm, sv⟩, h⟩) ?_
        refine WP.skip ?_
        refine PO.next ?_
        refine WP.seq ?_
        refine WP.reg ?_
        refine WL.e e_move <| WL.e e_move <| WL.e e_move ?_
        refine WL.h (h_call (kept_spec (s := { s with rows := changeR s.rows y.2 }) y.1 (sl_rl (xs := y.2)) (by have := hyo.1; omega)) k32 ?_)
        refine WL.opn (Gs_op (p := b1) (dp := dp) (s := { s with rows := changeR s.rows y.2, nums := keptG s.nums y.1 y.2 })) fun x => ?_
        obtain ⟨lp, mp, nm, lm, sv⟩ := x
        dsimp only
        refine WL.next ?_
        refine WP.reg ?_
        refine WL.e e_move <| WL.e e_move <| WL.e e_nil <| WL.e (e_fa f79_3) <| WL.e (e_load a31) <| WL.e e_move <| WL.e e_max32 <| WL.e e_nil <| WL.e (e_fa f79_3) ?_
        refine WL.h' (h_store s31 ?_)
        refine WL.nil ?_
        refine PO.blockN ?_
        refine PO.next ?_
        refine WP.reg ?_
        refine WL.e (e_add rfl rfl (w_i64 (by omega) (by omega))) <| WL.e e_move ?_
        refine WL.nil ?_
        refine PO.cls (A := Gs b1 dp (reAll (⟨d.sync, tot xs, [], [], 0, [], []⟩ : GamV) (ys.take (i + 1)))) (B := [cl b1 79 [.pointer (some ⟨lp, 0, none⟩), .pointer (some ⟨mp, 0, none⟩), nm, .int .u32 (if s.last < y.1 then y.1 else s.last).toNat, sv.v, lm], cl lp 143 [.pointer (some ⟨dp, 0, none⟩), .int .i64 { s with rows := changeR s.rows y.2, nums := keptG s.nums y.1 y.2 }.at_], Dk dp { s with rows := changeR s.rows y.2, nums := keptG s.nums y.1 y.2 }.d, Mm mp { s with rows := changeR s.rows y.2, nums := keptG s.nums y.1 y.2 }.rows, Mp eStr nm (List.map numC { s with rows := changeR s.rows y.2, nums := keptG s.nums y.1 y.2 }.nums), Sl 105 3 lookC (sv.v) { s with rows := changeR s.rows y.2, nums := keptG s.nums y.1 y.2 }.looks, Mp eU32 lm (List.map kvT { s with rows := changeR s.rows y.2, nums := keptG s.nums y.1 y.2 }.txs)]) (fun S h => by rw [reAll_take _ hy, ← hS]; exact ⟨⟨lp, mp, nm, lm, sv⟩, h⟩) ?_
        exact PO.againK (i + 1) (by omega) (by omega)
  · rw [List.take_of_length_le (show ys.length ≤ i by rw [decide_eq_false_iff_not] at h1; omega)] at hS
    subst hS
    refine WP.exit ?_
    refine PO.past nofun ?_
    refine PO.round nofun ?_
    refine PO.blockX ?_
    refine PO.next ?_
    refine WP.seq ?_
    refine WP.reg ?_
    refine WL.e e_move <| WL.e e_assign <| WL.e e_assign ?_
    refine WL.next ?_
    refine WP.ret ?_
    exact PO.fin Tryz.results19 (rv_tmp (rv_tmp rv_nil)) (hK b1)

theorem CloneP_spec {g : World} {A : HP} {u : Value} {xs : List (List UInt8)} (hA : RL A 64 pieceC u xs) (hb : xs.length ≤ 68719476736) : Spec Tryz.prog g 46 [u] [A] fun K R => ∀ a m c, K (.slice a m c) (Sl 115 64 pieceC (.slice a m c) xs :: A :: R) := by
  refine Spec.intro Tryz.func46 rfl Tryz.ntmps46 rfl fun R K hK => ?_
  refine WP.seq ?_
  refine WP.reg ?_
  refine WL.e e_assign ?_
  refine WL.next ?_
  refine WP.seq ?_
  refine WP.seq ?_
  refine WP.reg ?_
  refine WL.e e_move ?_
  refine WL.e (e_slnil sl112 hA) ?_
  refine WL.next ?_
  refine WP.cond rfl (fun h => ?_) (fun h => ?_)
  · refine WP.know (φ := xs = []) (Pick.know (A := A) (by exact .z) fun S hS => ?_) fun hx => ?_
    · rcases hA S hS with ⟨h0, _⟩ | ⟨b, o, c, l, t, e, _⟩
      · simpa using h0
      · rw [e] at h; cases h
    subst hx
    refine WP.nils 115 64 pieceC none ?_
    refine WP.seq ?_
    refine WP.reg ?_
    refine WL.e e_assign ?_
    refine WL.next ?_
    refine WP.ret ?_
    refine PO.past nofun ?_
    exact PO.fin Tryz.results46 (rv_tmp rv_nil) (hK none 0 0)
  · skip
    refine WP.skip ?_
    refine PO.next ?_
    refine WP.seq ?_
    refine WP.reg ?_
    refine WL.h (h_bs0 sl112 (enc := pieceC) fun a1 n1 c1 => ?_)
    refine WL.e e_move ?_
    refine WL.h (hl_append (xs := []) (ys := xs) sl112 pieceE z115 hA (by simp; omega) fun a2 n2 c2 => ?_)
    rw [List.nil_append]
    refine WL.e e_assign ?_
    refine WL.next ?_
    refine WP.ret ?_
    exact PO.fin Tryz.results46 (rv_tmp rv_nil) (hK a2 n2 c2)

theorem Fail_spec {g : World} {p : Nat} {d : DiskM} (keep torn : Int) (ht : -1 ≤ torn) (hd : d.ok) (hw : d.waits = []) : Spec Tryz.prog g 18 [.pointer (some ⟨p, 0, none⟩), .int .u64 keep, .int .i64 torn] [Dk p d] fun K R => ∀ q, K (.tuple #[.pointer (some ⟨q, 0, none⟩), .int .i64 0]) (Dk q ⟨d.sure, d.sure, []⟩ :: Dk p d :: R) := by
  refine Spec.intro Tryz.func18 rfl Tryz.ntmps18 rfl fun R K hK => ?_
  refine WP.seq ?_
  refine WP.reg ?_
  refine WL.e e_assign <| WL.e e_assign ?_
  refine WL.next ?_
  refine WP.seq ?_
  refine WP.block ?_
  refine WP.seq ?_
  refine WP.reg ?_
  refine WL.e e_move ?_
  refine WL.h (h_call (Size_spec) k45 ?_)
  refine WL.e e_eql <| WL.e e_assign ?_
  refine WL.next ?_
  refine WP.cond rfl (fun h => ?_) (fun h => ?_)
  · (rw [beq_iff_eq] at h; have := hd.pos; omega)
  · skip
    refine WP.seq ?_
    refine WP.reg ?_
    refine WL.e e_move <| WL.e e_lss <| WL.e e_assign ?_
    refine WL.next ?_
    refine WP.cond rfl (fun h2 => ?_) (fun h2 => ?_)
    · (rw [decide_eq_true_eq] at h2; omega)
    · refine WP.opn (Dk_op (p := p) (d := d)) fun x => ?_
      obtain ⟨s1, s2, s3⟩ := x
      dsimp only
      refine WP.skip ?_
      refine PO.blockN ?_
      refine PO.next ?_
      refine WP.seq ?_
      refine WP.reg ?_
      refine WL.e e_move <| WL.e e_nil <| WL.e (e_fa f118_0) <| WL.e (e_load a112) ?_
      refine WL.h (h_call (CloneP_spec (u := s1.v) (sl_rl (E := 115) (xs := d.sure)) (by have := hd.le; omega)) k46 ?_)
      intro a1 n1 c1
      refine WL.e (e_build z118 p118 (.o (.tmp 23) rfl <| .z (.slice none 0 0) <| .z (.slice none 0 0) <| .n)) ?_
      refine WL.h (h_box fun b1 => ?_)
      refine WL.e e_assign ?_
      refine WL.next ?_
      refine WP.seq ?_
      refine WP.seq ?_
      refine WP.reg ?_
      refine WL.e e_move <| WL.e e_nil <| WL.e (e_fa f118_2) <| WL.e (e_load a116) ?_
      refine WL.e (el_len (xs := d.waits) sl116 sl_rl) <| WL.e e_move ?_
      refine WL.next ?_
      refine WP.block ?_
      refine WP.loopK (fun (_ : Unit) => [(31, .int .i64 0)]) (fun (_ : Unit) => cl p 118 [s1.v, s2.v, s3.v] :: Sl 115 64 pieceC s1.v d.sure :: Sl 115 64 pieceC s2.v d.seen :: Sl 120 65 waitC s3.v d.waits :: cl b1 118 [.slice a1 n1 c1, .slice none 0 0, .slice none 0 0] :: Sl 115 64 pieceC (.slice a1 n1 c1) d.sure :: R) [(1, _), (2, _), (6, _), (7, _), (8, _), (29, _), (30, _)] (fun (_ : Unit) => True) (fun (_ : Unit) => 0) () (trivial) ?_
      intro _ _
      refine WP.seq ?_
      refine WP.reg ?_
      refine WL.e e_lss ?_
      refine WL.next ?_
      refine WP.seq ?_
      refine WP.cond rfl (fun h1 => ?_) (fun h1 => ?_)
      · (rw [hw] at h1; simp at h1)
      · skip
        refine WP.exit ?_
        refine PO.past nofun ?_
        refine PO.round nofun ?_
        refine PO.blockX ?_
        refine PO.next ?_
        refine WP.seq ?_
        refine WP.reg ?_
        refine WL.e e_move <| WL.e e_move <| WL.e e_nil <| WL.e (e_fa f118_0) <| WL.e (e_load a112) ?_
        refine WL.h (h_call (CloneP_spec (u := .slice a1 n1 c1) (sl_rl (E := 115) (xs := d.sure)) (by have := hd.le; omega)) k46 ?_)
        intro a2 n2 c2
        refine WL.e e_nil <| WL.e (e_fa f118_1) ?_
        refine WL.h' (h_store s112 ?_)
        refine WL.next ?_
        refine WP.seq ?_
        refine WP.reg ?_
        refine WL.e e_move <| WL.e e_assign <| WL.e e_assign ?_
        refine WL.next ?_
        refine WP.ret ?_
        refine PO.nils 120 65 waitC none ?_
        refine PO.cls (A := Dk b1 ⟨d.sure, d.sure, []⟩) (B := [cl b1 118 [.slice a1 n1 c1, .slice a2 n2 c2, .slice none 0 0], Sl 115 64 pieceC (.slice a1 n1 c1) d.sure, Sl 115 64 pieceC (.slice a2 n2 c2) d.sure, Sl 120 65 waitC (.slice none 0 0) []]) (fun S h => ⟨(⟨a1, n1, c1⟩, ⟨a2, n2, c2⟩, ⟨none, 0, 0⟩), h⟩) ?_
        refine PO.cls (A := Dk p d) (B := [cl p 118 [s1.v, s2.v, s3.v], Sl 115 64 pieceC s1.v d.sure, Sl 115 64 pieceC s2.v d.seen, Sl 120 65 waitC s3.v d.waits]) (fun S h => ⟨(s1, s2, s3), h⟩) ?_
        exact PO.fin Tryz.results18 (rv_tmp (rv_tmp rv_nil)) (hK b1)

def u32C (n : UInt32) : List Value := [.int .u32 n.toNat]
theorem u32E : EncOk 1 u32C := ⟨fun _ => rfl, fun _ => rfl⟩

theorem Keys_spec {g : World} {mb : Nat} : Spec Tryz.prog g 51 [.map (some mb)] [] fun K R => ∀ b, K (.func (.func 89) #[] #[.pointer (some ⟨b, 0, none⟩)]) (cl b 77 [.map (some mb)] :: R) := by
  refine Spec.intro Tryz.func51 rfl Tryz.ntmps51 rfl fun R K hK => ?_
  refine WP.seq ?_
  refine WP.reg ?_
  refine WL.h (h_box fun b1 => ?_)
  refine WL.e e_assign ?_
  refine WL.next ?_
  refine WP.seq ?_
  refine WP.reg ?_
  refine WL.e e_makeFunc <| WL.e e_assign ?_
  refine WL.next ?_
  refine WP.ret ?_
  exact PO.fin Tryz.results51 (rv_tmp rv_nil) (hK b1)

theorem keys_iter {g : World} {b mb : Nat} : Iter Tryz.prog g 89 (fun y => [] ++ [y] ++ [.pointer (some ⟨b, 0, none⟩)]) [cl b 77 [.map (some mb)], Mp eU32 (.map (some mb)) ([] : List (UInt32 × Value))] u32C (fun _ => pu True) (fun xs => xs = []) (fun pre => pre = []) [cl b 77 [.map (some mb)], Mp eU32 (.map (some mb)) ([] : List (UInt32 × Value))] := by
  intro y J X cont hy
  refine Spec.intro Tryz.func89 rfl Tryz.ntmps89 rfl fun R K hK => ?_
  refine WP.seq ?_
  refine WP.reg ?_
  refine WL.e (e_load a77) ?_
  refine WL.h (h_range (kvs := ([] : List (UInt32 × Value))) Tryz.underlying77 fun it => ?_)
  refine WL.next ?_
  refine WP.block ?_
  refine WP.loopK (fun (_ : Unit) => []) (fun (_ : Unit) => J [] :: MpIt eU32 (.map (some mb)) it ([] : List (UInt32 × Value)) [] none :: cl b 77 [.map (some mb)] :: R) [(0, _), (5, _)] (fun (_ : Unit) => True) (fun (_ : Unit) => 0) () (trivial) ?_
  intro _ _
  refine WP.seq ?_
  refine WP.reg ?_
  refine WL.h (h_next (fun h0 => ?_) (fun a y0 b0 hx => ?_))
  · skip
    refine WL.e e_extract ?_
    refine WL.next ?_
    refine WP.seq ?_
    refine WP.cond_f rfl ?_
    refine WP.exit ?_
    refine PO.past nofun ?_
    refine PO.round nofun ?_
    refine PO.blockX ?_
    exact PO.fin Tryz.results89 rv_nil (hK.1 [] rfl Hist.nil)
  · exact absurd hx (by simp)

theorem AppSeq_spec {g : World} {b mb : Nat} : Spec Tryz.prog g 110 [.slice none 0 0, .func (.func 89) #[] #[.pointer (some ⟨b, 0, none⟩)]] [cl b 77 [.map (some mb)], Mp eU32 (.map (some mb)) ([] : List (UInt32 × Value))] fun K R => K (.slice none 0 0) (cl b 77 [.map (some mb)] :: Mp eU32 (.map (some mb)) ([] : List (UInt32 × Value)) :: R) := by
  refine Spec.intro Tryz.func110 rfl Tryz.ntmps110 rfl fun R K hK => ?_
  refine WP.seq ?_
  refine WP.reg ?_
  refine WL.h (h_box fun b1 => ?_)
  refine WL.e e_assign ?_
  refine WL.next ?_
  refine WP.seq ?_
  refine WP.seq ?_
  refine WP.reg ?_
  refine WL.e e_move ?_
  refine WL.next ?_
  refine WP.block ?_
  refine WP.range (R := ?RR) (f := 89) (fs := []) (cs := [.pointer (some ⟨b, 0, none⟩)]) (fun _ => cl b1 64 [.slice none 0 0]) (fun _ _ _ => pu True) (fun _ _ => True) (keys_iter (b := b) (mb := mb)) k89 ?hLL ?_ ?_ ?_ (fun _ => rfl)
  case hLL => repeat first | exact .nil | exact Pick.z | apply Pick.s | apply Split.cons
  · rintro lb db fn tmps pre x R2 hp hh
    exact absurd hp (by simp) -- end
  · intro db xs hx hh
    refine PO.blockN ?_
    refine PO.next ?_
    refine WP.seq ?_
    refine WP.reg ?_
    refine WL.e (e_load a64) <| WL.e e_assign ?_
    refine WL.next ?_
    refine WP.ret ?_
    exact PO.finM (by repeat first | exact .z | apply Put.s) Tryz.results110 (rv_tmp rv_nil) hK
  · exact fun _ _ _ _ _ _ hc => absurd trivial hc

theorem Collect_spec {g : World} {b mb : Nat} : Spec Tryz.prog g 87 [.func (.func 89) #[] #[.pointer (some ⟨b, 0, none⟩)]] [cl b 77 [.map (some mb)], Mp eU32 (.map (some mb)) ([] : List (UInt32 × Value))] fun K R => K (.slice none 0 0) (cl b 77 [.map (some mb)] :: Mp eU32 (.map (some mb)) ([] : List (UInt32 × Value)) :: R) := by
  refine Spec.intro Tryz.func87 rfl Tryz.ntmps87 rfl fun R K hK => ?_
  refine WP.seq ?_
  refine WP.reg ?_
  refine WL.e e_assign ?_
  refine WL.next ?_
  refine WP.seq ?_
  refine WP.reg ?_
  refine WL.e e_move ?_
  refine WL.h (h_call (AppSeq_spec) k110 ?_)
  refine WL.e e_assign ?_
  refine WL.next ?_
  refine WP.ret ?_
  exact PO.fin Tryz.results87 (rv_tmp rv_nil) hK

theorem Len64_spec {g : World} : Spec Tryz.prog g 130 [.int .u64 0] [] fun K R => K (.int .i64 0) R := by
  refine Spec.intro Tryz.func130 rfl Tryz.ntmps130 rfl fun R K hK => ?_
  refine WP.seq ?_
  refine WP.reg ?_
  refine WL.e e_assign ?_
  refine WL.next ?_
  refine WP.seq ?_
  refine WP.seq ?_
  refine WP.reg ?_
  refine WL.e e_move <| WL.e e_geq ?_
  refine WL.next ?_
  refine WP.cond_f rfl ?_
  refine WP.skip ?_
  refine PO.next ?_
  refine WP.seq ?_
  refine WP.seq ?_
  refine WP.reg ?_
  refine WL.e e_move <| WL.e e_geq ?_
  refine WL.next ?_
  refine WP.cond_f rfl ?_
  refine WP.skip ?_
  refine PO.next ?_
  refine WP.seq ?_
  refine WP.seq ?_
  refine WP.reg ?_
  refine WL.e e_move <| WL.e e_geq ?_
  refine WL.next ?_
  refine WP.cond_f rfl ?_
  refine WP.skip ?_
  refine PO.next ?_
  refine WP.seq ?_
  refine WP.reg ?_
  refine WL.e e_move <| WL.e e_move <| WL.e (e_conv (by rw [Tryz.underlying35]; rfl) Tryz.underlying5 rfl rfl) ?_
  refine WL.e (e_idxS (n := 0) (b := 0) Tryz.underlying9 (hb := by kernel_rfl)) <| WL.e (e_conv (c := 0) (by rw [Tryz.underlying5]; rfl) Tryz.underlying3 rfl rfl) <| WL.e (e_add rfl rfl (w_i64 (by omega) (by omega))) <| WL.e e_assign ?_
  refine WL.next ?_
  refine WP.ret ?_
  exact PO.finE Tryz.results130 (rv_tmp rv_nil) rfl hK

theorem Len_spec {g : World} : Spec Tryz.prog g 112 [.int .u64 0] [] fun K R => K (.int .i64 0) R := by
  refine Spec.intro Tryz.func112 rfl Tryz.ntmps112 rfl fun R K hK => ?_
  refine WP.seq ?_
  refine WP.reg ?_
  refine WL.e e_assign ?_
  refine WL.next ?_
  refine WP.seq ?_
  refine WP.cond_f rfl ?_
  refine WP.skip ?_
  refine PO.next ?_
  refine WP.seq ?_
  refine WP.reg ?_
  refine WL.e e_move ?_
  refine WL.h (h_call (Len64_spec) k130 ?_)
  refine WL.e e_assign ?_
  refine WL.next ?_
  refine WP.ret ?_
  exact PO.fin Tryz.results112 (rv_tmp rv_nil) hK

theorem Ins_spec {g : World} : Spec Tryz.prog g 120 [.slice none 0 0, .int .i64 0, .int .i64 0] [] fun K R => K (.tuple #[]) R := by
  refine Spec.intro Tryz.func120 rfl Tryz.ntmps120 rfl fun R K hK => ?_
  refine WP.seq ?_
  refine WP.reg ?_
  refine WL.e e_move <| WL.e (e_add rfl rfl (w_i64 (by omega) (by omega))) <| WL.e e_assign ?_
  refine WL.next ?_
  refine WP.block ?_
  refine WP.loopK (fun (_ : Unit) => [(6, .int .i64 1)]) (fun (_ : Unit) => R) [(0, _), (1, _), (2, _)] (fun (_ : Unit) => True) (fun (_ : Unit) => 0) () (trivial) ?_
  intro _ _
  refine WP.seq ?_
  refine WP.seq ?_
  refine WP.reg ?_
  refine WL.e e_move <| WL.e e_move <| WL.e e_lss ?_
  refine WL.next ?_
  refine WP.cond_f rfl ?_
  refine WP.exit ?_
  refine PO.past nofun ?_
  refine PO.round nofun ?_
  refine PO.blockX ?_
  exact PO.fin Tryz.results120 rv_nil hK

theorem Pdq_spec {g : World} : Spec Tryz.prog g 111 [.slice none 0 0, .int .i64 0, .int .i64 0, .int .i64 0] [] fun K R => K (.tuple #[]) R := by
  refine Spec.intro Tryz.func111 rfl Tryz.ntmps111 rfl fun R K hK => ?_
  refine WP.seq ?_
  refine WP.reg ?_
  refine WL.e e_assign ?_
  refine WL.next ?_
  refine WP.seq ?_
  refine WP.reg ?_
  refine WL.e e_assign ?_
  refine WL.next ?_
  refine WP.block ?_
  refine WP.loopK (fun (_ : Unit) => [(1, .int .i64 0), (2, .int .i64 0)]) (fun (_ : Unit) => R) [(0, _)] (fun (_ : Unit) => True) (fun (_ : Unit) => 0) () (trivial) ?_
  intro _ _
  refine WP.block ?_
  refine WP.seq ?_
  refine WP.reg ?_
  refine WL.e e_move <| WL.e e_move <| WL.e (e_sub rfl rfl (w_i64 (by omega) (by omega))) <| WL.e e_assign ?_
  refine WL.next ?_
  refine WP.seq ?_
  refine WP.seq ?_
  refine WP.reg ?_
  refine WL.e e_move <| WL.e e_leq ?_
  refine WL.next ?_
  refine WP.cond_t rfl ?_
  refine WP.seq ?_
  refine WP.reg ?_
  refine WL.e e_move <| WL.e e_move <| WL.e e_move ?_
  refine WL.h (h_call (Ins_spec) k120 ?_)
  refine WL.next ?_
  refine WP.ret ?_
  refine PO.past nofun ?_
  refine PO.blockR ?_
  refine PO.round nofun ?_
  refine PO.blockR ?_
  exact PO.fin Tryz.results111 rv_nil hK

theorem Sort_spec {g : World} : Spec Tryz.prog g 88 [.slice none 0 0] [] fun K R => K (.tuple #[]) R := by
  refine Spec.intro Tryz.func88 rfl Tryz.ntmps88 rfl fun R K hK => ?_
  refine WP.conv (M := pu True :: _) (fun S h => pu_stars trivial h) ?_
  refine WP.seq ?_
  refine WP.reg ?_
  refine WL.e e_move ?_
  refine WL.e (el_len (xs := ([] : List UInt32)) (enc := u32C) sl64 (A := pu True) (nil_rl (z := 1))) <| WL.e e_assign ?_
  refine WL.next ?_
  refine WP.reg ?_
  refine WL.e e_move <| WL.e e_move <| WL.e e_move <| WL.e (e_conv (by rw [Tryz.underlying3]; rfl) Tryz.underlying124 rfl rfl) ?_
  refine WL.h (h_call (Len_spec) k112 ?_)
  refine WL.h (h_call (Pdq_spec) k111 ?_)
  refine WL.nil ?_
  exact PO.fin Tryz.results88 rv_nil hK

theorem Sorted_spec {g : World} {b mb : Nat} : Spec Tryz.prog g 50 [.func (.func 89) #[] #[.pointer (some ⟨b, 0, none⟩)]] [cl b 77 [.map (some mb)], Mp eU32 (.map (some mb)) ([] : List (UInt32 × Value))] fun K R => K (.slice none 0 0) (cl b 77 [.map (some mb)] :: Mp eU32 (.map (some mb)) ([] : List (UInt32 × Value)) :: R) := by
  refine Spec.intro Tryz.func50 rfl Tryz.ntmps50 rfl fun R K hK => ?_
  refine WP.seq ?_
  refine WP.reg ?_
  refine WL.e e_assign ?_
  refine WL.next ?_
  refine WP.seq ?_
  refine WP.reg ?_
  refine WL.e e_move ?_
  refine WL.h (h_call (Collect_spec) k87 ?_)
  refine WL.e e_assign ?_
  refine WL.next ?_
  refine WP.seq ?_
  refine WP.reg ?_
  refine WL.e e_move ?_
  refine WL.h (h_call (Sort_spec) k88 ?_)
  refine WL.next ?_
  refine WP.seq ?_
  refine WP.reg ?_
  refine WL.e e_move <| WL.e e_assign ?_
  refine WL.next ?_
  refine WP.ret ?_
  exact PO.fin Tryz.results50 (rv_tmp rv_nil) hK

theorem Clip_spec {g : World} : Spec Tryz.prog g 49 [.slice none 0 0] [] fun K R => ∀ c, K (.slice none 0 c) R := by
  refine Spec.intro Tryz.func49 rfl Tryz.ntmps49 rfl fun R K hK => ?_
  refine WP.conv (M := pu True :: _) (fun S h => pu_stars trivial h) ?_
  refine WP.seq ?_
  refine WP.reg ?_
  refine WL.e e_assign ?_
  refine WL.next ?_
  refine WP.seq ?_
  refine WP.reg ?_
  refine WL.e e_move <| WL.e e_move ?_
  refine WL.e (el_len (xs := ([] : List UInt32)) (enc := u32C) sl64 (A := pu True) (nil_rl (z := 1))) <| WL.e e_move ?_
  refine WL.e (el_len (xs := ([] : List UInt32)) (enc := u32C) sl64 (A := pu True) (nil_rl (z := 1))) ?_
  refine WL.e (el_to3 (hi := 0) (xs := ([] : List UInt32)) (enc := u32C) sl64 (A := pu True) (nil_rl (z := 1)) (by simp)) <| WL.e e_assign ?_
  refine WL.next ?_
  refine WP.ret ?_
  exact PO.finE Tryz.results49 (rv_tmp rv_nil) rfl (hK 0)

theorem GOpen_spec {g : World} {p dp : Nat} {s : GamV} (hs : s.txs = []) : Spec Tryz.prog g 20 [.pointer (some ⟨p, 0, none⟩)] [Gs p dp s] fun K R => ∀ c, K (.slice none 0 c) (Gs p dp s :: R) := by
  refine Spec.intro Tryz.func20 rfl Tryz.ntmps20 rfl fun R K hK => ?_
  refine WP.seq ?_
  refine WP.reg ?_
  refine WL.e e_assign ?_
  refine WL.next ?_
  refine WP.seq ?_
  refine WP.seq ?_
  refine WP.reg ?_
  refine WL.e e_move ?_
  refine WL.h (h_call (Gthere_spec) k24 ?_)
  refine WL.e e_not ?_
  refine WL.next ?_
  refine WP.cond_f rfl ?_
  refine WP.opn (Gs_op (p := p) (dp := dp) (s := s)) fun x => ?_
  obtain ⟨lp, mp, nm, lm, sv⟩ := x
  dsimp only
  rw [hs, List.map_nil]
  refine WP.know (φ := ∃ b, lm = .map (some b)) (Pick.know (A := Mp eU32 lm ([] : List (UInt32 × Value))) (by repeat first | exact .z | apply Pick.s) fun S hS => ?_) fun hx => ?_
  · obtain ⟨b, _, _, e, _⟩ := hS; exact ⟨b, e⟩
  obtain ⟨mb, rfl⟩ := hx
  refine WP.skip ?_
  refine PO.next ?_
  refine WP.seq ?_
  refine WP.reg ?_
  refine WL.e e_move <| WL.e e_nil <| WL.e (e_fa f79_5) <| WL.e (e_load a77) ?_
  refine WL.h (h_call (Keys_spec (mb := mb)) k51 ?_)
  intro b
  refine WL.h (h_call (Sorted_spec (b := b) (mb := mb)) k50 ?_)
  refine WL.h (h_call (Clip_spec) k49 ?_)
  intro c
  refine WL.e e_assign ?_
  refine WL.next ?_
  refine WP.ret ?_
  refine PO.cls (A := Gs p dp s) (B := [cl p 79 [.pointer (some ⟨lp, 0, none⟩), .pointer (some ⟨mp, 0, none⟩), nm, .int .u32 s.last.toNat, sv.v, .map (some mb)], cl lp 143 [.pointer (some ⟨dp, 0, none⟩), .int .i64 s.at_], Dk dp s.d, Mm mp s.rows, Mp eStr nm (List.map numC s.nums), Sl 105 3 lookC (sv.v) s.looks, Mp eU32 (.map (some mb)) ([] : List (UInt32 × Value))]) (fun S h => ⟨⟨lp, mp, nm, .map (some mb), sv⟩, by rw [hs]; exact h⟩) ?_
  exact PO.fin Tryz.results20 (rv_tmp rv_nil) (hK c)

theorem great2_spec {g : World} {A : HP} {u : Value} {xs : List ActM} (hA : RL A 8 ActM.c u xs) : Spec Tryz.prog g 7 [u] [A] fun K R => K (.bool (decide (150 < xs.length))) (A :: R) := by
  refine Spec.intro Tryz.func7 rfl Tryz.ntmps7 rfl fun R K hK => ?_
  refine WP.seq ?_
  refine WP.reg ?_
  refine WL.e e_assign ?_
  refine WL.next ?_
  refine WP.seq ?_
  refine WP.reg ?_
  refine WL.e e_move ?_
  refine WL.e (el_len sl22 hA) <| WL.e e_gtr <| WL.e e_assign ?_
  refine WL.next ?_
  refine WP.ret ?_
  exact PO.finE Tryz.results7 (rv_tmp rv_nil) (by simp; omega) hK

theorem opened2_spec {g : World} : Spec Tryz.prog g 9 [] [] fun K R => ∀ dp p, K (.tuple #[.pointer (some ⟨dp, 0, none⟩), .pointer (some ⟨p, 0, none⟩)]) (Gs p dp (gam0 (newDisk 4096).sync) :: Txs [] :: R) := by
  refine Spec.intro Tryz.func9 rfl Tryz.ntmps9 rfl fun R K hK => ?_
  refine WP.seq ?_
  refine WP.reg ?_
  refine WL.e e_assign <| WL.e e_assign ?_
  refine WL.next ?_
  refine WP.seq ?_
  refine WP.reg ?_
  refine WL.h (h_call (New_spec 4096 (by decide)) k23 ?_)
  refine ⟨fun h => absurd h (by omega), fun _ _ dp => ?_⟩
  refine WL.e e_move <| WL.e e_extract <| WL.e e_extract <| WL.e e_assign <| WL.e e_assign ?_
  refine WL.next ?_
  refine WP.seq ?_
  refine WP.reg ?_
  refine WL.e e_move ?_
  refine WL.h (h_call (New0_spec (d := newDisk 4096) newDisk_quiet.ok (by rw [newDisk_quiet.waits]; simp) (by rw [new_flat]; exact recs_zero _ (by decide)) (by rw [newDisk_quiet.len]; exact new_clean)) k19 ?_)
  intro p
  refine WL.e e_move <| WL.e e_extract <| WL.e e_extract <| WL.e e_assign <| WL.e e_assign ?_
  refine WL.next ?_
  refine WP.seq ?_
  refine WP.seq ?_
  refine WP.reg ?_
  refine WL.e e_move <| WL.e e_neq <| WL.e e_move ?_
  refine WL.bool 17 rfl (fun hg => ?_) (fun hg => ?_)
  · exact absurd hg (by decide) -- end
  · skip
    refine WL.e e_move <| WL.e e_neq <| WL.e e_pick_f ?_
    refine WL.next ?_
    refine WP.cond_f rfl ?_
    refine WP.skip ?_
    refine PO.next ?_
    refine WP.seq ?_
    refine WP.reg ?_
    refine WL.e e_move <| WL.e e_move <| WL.e e_assign <| WL.e e_assign ?_
    refine WL.next ?_
    refine WP.ret ?_
    exact PO.fin Tryz.results9 (rv_tmp (rv_tmp rv_nil)) (hK dp p)

set_option maxHeartbeats 4000000 in
theorem Sure_spec {g : World} {A : HP} {u : Value} {xs : List ActM} (keep torn : Int) (hA : RL A 8 ActM.c u xs) : Spec Tryz.prog g 6 [u, .int .u64 keep, .int .i64 torn] [A] fun K R => K (.bool true) (A :: R) := by
  refine Spec.intro Tryz.func6 rfl Tryz.ntmps6 rfl fun R K hK => ?_
  refine WP.seq ?_
  refine WP.reg ?_
  refine WL.e e_assign ?_
  refine WL.next ?_
  refine WP.seq ?_
  refine WP.seq ?_
  refine WP.reg ?_
  refine WL.e e_move ?_
  refine WL.h (h_call (great2_spec hA) k7 ?_)
  refine WL.next ?_
  refine WP.cond rfl (fun h0 => ?_) (fun h0 => ?_)
  · skip
    refine WP.seq ?_
    refine WP.reg ?_
    refine WL.h (h_call (lives_spec) k8 ?_)
    refine WL.e e_assign ?_
    refine WL.next ?_
    refine WP.ret ?_
    refine PO.past nofun ?_
    exact PO.finE Tryz.results6 (rv_tmp rv_nil) rfl hK
  · replace h0 : xs.length ≤ 150 := by simp at h0; omega
    refine WP.skip ?_
    refine PO.next ?_
    refine WP.seq ?_
    refine WP.reg ?_
    refine WL.h (h_call (opened2_spec) k9 ?_)
    intro dp p
    refine WL.e e_move <| WL.e e_extract <| WL.e e_extract <| WL.e e_assign <| WL.e e_assign ?_
    refine WL.next ?_
    refine WP.seq ?_
    refine WP.seq ?_
    refine WP.reg ?_
    refine WL.e e_move <| WL.e (e_peq pt26) ?_
    refine WL.next ?_
    refine WP.cond_f rfl ?_
    refine WP.skip ?_
    refine PO.next ?_
    refine WP.seq ?_
    refine WP.seq ?_
    refine WP.reg ?_
    refine WL.e e_assign ?_
    refine WL.next ?_
    refine WP.block ?_
    refine WP.loopK (fun (x : Nat × GamV × List RecG) => [(9, .int .i64 x.1)]) (fun (x : Nat × GamV × List RecG) => Gs p dp x.2.1 :: Txs x.2.1.txs :: A :: R) [(0, _), (1, _), (2, _), (6, _), (7, _), (8, _)] (fun (x : Nat × GamV × List RecG) => x.1 ≤ xs.length ∧ SureI x.1 x.2.1 x.2.2) (fun (x : Nat × GamV × List RecG) => xs.length - x.1) (0, gam0 (newDisk 4096).sync, []) (⟨Nat.zero_le _, SureI.first⟩) ?_
    rintro ⟨i, s, ys⟩ ⟨hi, hI⟩
    simp only at hi hI
    dsimp only
    refine WP.seq ?_
    refine WP.seq ?_
    refine WP.reg ?_
    refine WL.e e_move <| WL.e e_move ?_
    refine WL.e (el_len sl22 hA) <| WL.e e_lss ?_
    refine WL.next ?_
    refine WP.cond rfl (fun h1 => ?_) (fun h1 => ?_)
    · have hlt : i < xs.length := by rw [decide_eq_true_eq] at h1; omega
      obtain ⟨x, hx⟩ : ∃ x, xs[i]? = some x := ⟨_, List.getElem?_eq_getElem hlt⟩
      refine WP.skip ?_
      refine PO.next ?_
      refine WP.seq ?_
      refine WP.block ?_
      refine WP.seq ?_
      refine WP.reg ?_
      refine WL.e e_move <| WL.e e_move ?_
      refine WL.e (el_ia (j := i) sl22 hA hlt) ?_
      refine WL.e (el_loadN (a := x) a37 actE hA hx) ?_
      refine WL.h (h_alloc z37 fun b1 => ?_)
      refine WL.h' (h_store s37 ?_)
      refine WL.next ?_
      refine WP.seq ?_
      refine WP.reg ?_
      refine WL.e (e_fa f37_0) <| WL.e (e_load a5) <| WL.e (e_rem (c := ((x.kind.toNat % 12 : Nat) : Int)) rfl rfl (by decide) (by rw [Int.tmod_eq_emod_of_nonneg (by omega)]; omega)) ?_
      refine WL.next ?_
      refine WP.block ?_
      refine WP.seq ?_
      refine WP.reg ?_
      refine WL.e e_eql <| WL.e e_assign ?_
      refine WL.next ?_
      refine WP.cond rfl (fun c0 => ?_) (fun c0 => ?_)
      · skip
        refine WP.reg ?_
        refine WL.e e_move <| WL.e (e_fa f37_1) <| WL.e (e_load a31) ?_
        refine WL.h (h_call (Begin_spec (s := s) x.tx) k10 ?_)
        intro q
        refine WL.nil ?_
        refine PO.blockN ?_
        refine PO.blockN ?_
        refine PO.next ?_
        refine WP.reg ?_
        refine WL.e e_move <| WL.e (e_add (c := ((i + 1 : Nat) : Int)) rfl rfl (by rw [w_i64 (by omega) (by omega)]; omega)) <| WL.e e_assign ?_
        refine WL.nil ?_
        exact PO.againK (i + 1, begG s x.tx q, ys) ⟨by simp only; omega, hI.beg (by omega) x.tx q⟩ (by simp only; omega)
      · skip
        refine WP.cutL (fun (q : Bool) => [(51, .bool q)]) (fun (q : Bool) => Gs p dp s :: Txs s.txs :: cl b1 37 (ActM.c x) :: A :: R) (fun (q : Bool) => True) ?_ ?_
        · skip
          refine WP.seq ?_
          refine WP.reg ?_
          refine WL.e e_eql <| WL.e e_assign ?_
          refine WL.next ?_
          refine WP.cond rfl (fun c8 => ?_) (fun c8 => ?_)
          · skip
            refine WP.skip ?_
            exact PO.meetK _ trivial
          · skip
            refine WP.reg ?_
            refine WL.e e_eql <| WL.e e_assign ?_
            refine WL.nil ?_
            exact PO.meetK _ trivial
        · intro q _
          refine WP.cond rfl (fun c9 => ?_) (fun c9 => ?_)
          · skip
            refine WP.reg ?_
            refine WL.e e_move <| WL.e (e_fa f37_1) <| WL.e (e_load a31) ?_
            refine WL.h (h_call (Commit_spec (s := s) x.tx hI.ok) k11 ?_)
            obtain ⟨ys2, hI2⟩ := hI.com (by omega) x.tx
            refine WL.nil ?_
            refine PO.blockN ?_
            refine PO.blockN ?_
            refine PO.next ?_
            refine WP.reg ?_
            refine WL.e e_move <| WL.e (e_add (c := ((i + 1 : Nat) : Int)) rfl rfl (by rw [w_i64 (by omega) (by omega)]; omega)) <| WL.e e_assign ?_
            refine WL.nil ?_
            exact PO.againK (i + 1, comG s x.tx, ys2) ⟨by simp only; omega, hI2⟩ (by simp only; omega)
          · skip
            refine WP.seq ?_
            refine WP.reg ?_
            refine WL.e e_eql <| WL.e e_assign ?_
            refine WL.next ?_
            refine WP.cond rfl (fun c10 => ?_) (fun c10 => ?_)
            · skip
              refine WP.reg ?_
              refine WL.e e_move <| WL.e (e_fa f37_1) <| WL.e (e_load a31) ?_
              refine WL.h (h_call (Abort_spec (s := s) x.tx hI.ok) k12 ?_)
              refine WL.nil ?_
              refine PO.blockN ?_
              refine PO.blockN ?_
              refine PO.next ?_
              refine WP.reg ?_
              refine WL.e e_move <| WL.e (e_add (c := ((i + 1 : Nat) : Int)) rfl rfl (by rw [w_i64 (by omega) (by omega)]; omega)) <| WL.e e_assign ?_
              refine WL.nil ?_
              exact PO.againK (i + 1, aboG s x.tx, ys) ⟨by simp only; omega, hI.abo (by omega) x.tx⟩ (by simp only; omega)
            · skip
              refine WP.reg ?_
              refine WL.e e_move <| WL.e (e_fa f37_1) <| WL.e (e_load a31) <| WL.e (e_fa f37_2) <| WL.e (e_loadN a34) ?_
              refine WL.h (h_call (Do_spec (s := s) x.tx x.op hI.ok) k13 ?_)
              rcases hdo : doG s x.tx x.op with ⟨s', e⟩ | ⟨t, c⟩ | ⟨t⟩
              · dsimp only
                refine WL.nil ?_
                refine PO.blockN ?_
                refine PO.blockN ?_
                refine PO.next ?_
                refine WP.reg ?_
                refine WL.e e_move <| WL.e (e_add (c := ((i + 1 : Nat) : Int)) rfl rfl (by rw [w_i64 (by omega) (by omega)]; omega)) <| WL.e e_assign ?_
                refine WL.nil ?_
                exact PO.againK (i + 1, s', ys) ⟨by simp only; omega, hI.err (by omega) hdo⟩ (by simp only; omega)
              · dsimp only
                intro sv7
                refine WL.nil ?_
                refine PO.blockN ?_
                refine PO.blockN ?_
                refine PO.next ?_
                refine WP.reg ?_
                refine WL.e e_move <| WL.e (e_add (c := ((i + 1 : Nat) : Int)) rfl rfl (by rw [w_i64 (by omega) (by omega)]; omega)) <| WL.e e_assign ?_
                refine WL.nil ?_
                exact PO.againK (i + 1, putG s t.id c sv7, ys) ⟨by simp only; omega, hI.put (by omega) hdo sv7⟩ (by simp only; omega)
              · dsimp only
                intro a7 m7 c7
                refine WL.nil ?_
                refine PO.blockN ?_
                refine PO.blockN ?_
                refine PO.next ?_
                refine WP.reg ?_
                refine WL.e e_move <| WL.e (e_add (c := ((i + 1 : Nat) : Int)) rfl rfl (by rw [w_i64 (by omega) (by omega)]; omega)) <| WL.e e_assign ?_
                refine WL.nil ?_
                exact PO.againK (i + 1, lookG s t (spanOf x.op), ys) ⟨by simp only; omega, hI.look (by omega) t _⟩ (by simp only; omega)
    · skip
      refine WP.exit ?_
      refine PO.past nofun ?_
      refine PO.round nofun ?_
      refine PO.blockX ?_
      refine PO.next ?_
      refine WP.seq ?_
      refine WP.reg ?_
      refine WL.e e_move ?_
      refine WL.h (h_call (GRows_spec (s := s) (by have := hI.ok.sum; omega)) k17 ?_)
      intro a5 m5 c5
      refine WL.e e_assign ?_
      refine WL.next ?_
      refine WP.seq ?_
      refine WP.seq ?_
      refine WP.reg ?_
      refine WL.e e_assign ?_
      refine WL.next ?_
      refine WP.block ?_
      refine WP.opn (Gs_op (p := p) (dp := dp) (s := s)) fun x => ?_
      obtain ⟨lp, mp, nm, lm, sv⟩ := x
      dsimp only
      have hR := hI.log.recs
      refine WP.loopK (fun (x : Nat × Nat) => [(12, .int .i64 x.1), (7, .pointer (some ⟨x.2, 0, none⟩))]) (fun (x : Nat × Nat) => Dk x.2 s.d :: Sl 70 2 RowM.c (.slice a5 m5 c5) s.rows :: A :: R) [(1, _), (2, _), (11, _)] (fun (x : Nat × Nat) => x.1 ≤ 2) (fun (x : Nat × Nat) => 2 - x.1) (0, dp) (Nat.zero_le _) ?_
      rintro ⟨k, dq⟩ hk
      simp only at hk
      dsimp only
      refine WP.seq ?_
      refine WP.seq ?_
      refine WP.reg ?_
      refine WL.e e_move <| WL.e e_lss ?_
      refine WL.next ?_
      refine WP.cond rfl (fun h2 => ?_) (fun h2 => ?_)
      · have hk2 : k < 2 := by rw [decide_eq_true_eq] at h2; omega
        refine WP.skip ?_
        refine PO.next ?_
        refine WP.seq ?_
        refine WP.block ?_
        refine WP.seq ?_
        refine WP.reg ?_
        refine WL.e e_move <| WL.e e_move <| WL.e e_move <| WL.e e_maxI ?_
        refine WL.h (h_call (Fail_spec (p := dq) (d := s.d) keep (if torn > -1 then torn else -1) (by split <;> omega) hI.log.ok hI.log.waits) k18 ?_)
        intro q
        rw [hI.log.fail]
        refine WL.e e_move <| WL.e e_extract <| WL.e e_extract <| WL.e e_assign <| WL.e e_assign ?_
        refine WL.next ?_
        refine WP.seq ?_
        refine WP.reg ?_
        refine WL.e e_move ?_
        refine WL.h (h_call (NewR_spec (dp := q) (d := s.d) ys s.at_ hI.log.ok (by rw [hI.log.waits]; simp) hR.1 hR.2.1 (fun y hy => (hI.log.yok y hy).1) (by have := hI.sum; omega) hR.2.2) k19 ?_)
        intro p2
        rw [hI.log.sync]
        obtain ⟨v1, v2, v3, v4⟩ := reAll_rows ys (⟨s.d, s.at_, [], [], 0, [], []⟩ : GamV)
        generalize reAll (⟨s.d, s.at_, [], [], 0, [], []⟩ : GamV) ys = s2 at v1 v2 v3 v4 ⊢
        simp only at v1 v2 v3 v4
        have hrr : s2.rows = s.rows := by rw [v1, hI.hrows]
        have hrl := hI.ok.sum
        refine WL.e e_move <| WL.e e_extract <| WL.e e_extract <| WL.e e_assign <| WL.e e_assign ?_
        refine WL.next ?_
        refine WP.seq ?_
        refine WP.seq ?_
        refine WP.reg ?_
        refine WL.e e_move <| WL.e e_neq <| WL.e e_move ?_
        refine WL.bool 85 rfl (fun g1 => ?_) (fun g1 => ?_)
        · exact absurd g1 (by decide) -- end
        · skip
          refine WL.e e_move <| WL.e e_neq <| WL.e e_pick_f <| WL.e e_move ?_
          refine WL.bool 89 rfl (fun g2 => ?_) (fun g2 => ?_)
          · exact absurd g2 (by decide) -- end
          · skip
            refine WL.e e_move ?_
            refine WL.h (h_call (GRows_spec (s := s2) (by rw [hrr]; omega)) k17 ?_)
            intro a6 m6 c6
            refine WL.e e_move ?_
            refine WL.h (h_call (SameRows_spec (sl_rl (xs := s2.rows)) (sl_rl (xs := s.rows)) (by rw [hrr]; omega)) k16 ?_)
            rw [decide_eq_true hrr]
            refine WL.e e_not <| WL.e e_pick_f <| WL.e e_move ?_
            refine WL.bool 96 rfl (fun g3 => ?_) (fun g3 => ?_)
            · exact absurd g3 (by decide) -- end
            · skip
              refine WL.e e_move ?_
              refine WL.h (h_call (GOpen_spec (s := s2) v4) k20 ?_)
              intro c9
              refine WL.e (el_len (xs := ([] : List UInt32)) (enc := u32C) sl64 (nil_rl (z := 1))) <| WL.e e_neq <| WL.e e_pick_f ?_
              refine WL.next ?_
              refine WP.cond_f rfl ?_
              refine WP.skip ?_
              refine PO.next ?_
              refine WP.reg ?_
              refine WL.e e_move <| WL.e e_assign ?_
              refine WL.nil ?_
              refine PO.blockN ?_
              refine PO.next ?_
              refine WP.reg ?_
              refine WL.e e_move <| WL.e (e_add (c := ((k + 1 : Nat) : Int)) rfl rfl (by rw [w_i64 (by omega) (by omega)]; omega)) <| WL.e e_assign ?_
              refine WL.nil ?_
              refine PO.opn (Gs_op (p := p2) (dp := q) (s := s2)) fun x => ?_
              obtain ⟨lp, mp, nm, lm, sv⟩ := x
              dsimp only
              rw [v2]
              exact PO.againK (k + 1, q) (by simp only; omega) (by simp only; omega)
      · skip
        refine WP.exit ?_
        refine PO.past nofun ?_
        refine PO.round nofun ?_
        refine PO.blockX ?_
        refine PO.next ?_
        refine WP.seq ?_
        refine WP.reg ?_
        refine WL.h (h_call (lives_spec) k8 ?_)
        refine WL.e e_assign ?_
        refine WL.next ?_
        refine WP.ret ?_
        exact PO.finE Tryz.results6 (rv_tmp rv_nil) rfl hK

end Go.SL
