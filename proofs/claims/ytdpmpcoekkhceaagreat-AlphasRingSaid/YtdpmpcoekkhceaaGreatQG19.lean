/- VV: rules and walks, several texts in one. -/
import Derived.Test.YtdpmpcoekkhceaaGreatQG18
import Derived.Test.YtdpmpcoekkhceaaGreatProg
import Derived.KernelRfl
set_option linter.unusedSimpArgs false
set_option linter.unusedVariables false
namespace Go.SL.VV
open Go Go.Proofs Go.SL
theorem a124 : aggOf Tryz.prog 124 = some none := by kernel_rfl
theorem a209 : aggOf Tryz.prog 209 = some (some 2) := by kernel_rfl
theorem a22 : aggOf Tryz.prog 22 = some none := by kernel_rfl
theorem a82 : aggOf Tryz.prog 82 = some none := by kernel_rfl
theorem f127_3 : fldOf Tryz.prog 127 3 = some 3 := by kernel_rfl
theorem f129_1 : fldOf Tryz.prog 129 1 = some 1 := by kernel_rfl
theorem f209_0 : fldOf Tryz.prog 209 0 = some 0 := by kernel_rfl
theorem f209_1 : fldOf Tryz.prog 209 1 = some 1 := by kernel_rfl
theorem k115 : callable Tryz.prog 115 = true := by kernel_rfl
theorem k116 : callable Tryz.prog 116 = true := by kernel_rfl
theorem k117 : callable Tryz.prog 117 = true := by kernel_rfl
theorem k118 : callable Tryz.prog 118 = true := by kernel_rfl
theorem k154 : callable Tryz.prog 154 = true := by kernel_rfl
theorem mixedOk : Tryz.prog.follows .mixedOrders = true := by kernel_rfl
theorem p209 : placesOf Tryz.prog 209 = some [(0, 1), (1, 1)] := by kernel_rfl
theorem pt122 : isPtr Tryz.prog 122 = true := by kernel_rfl
theorem s209 : szOf Tryz.prog 209 = some 2 := by kernel_rfl
theorem s82 : szOf Tryz.prog 82 = some 1 := by kernel_rfl
theorem sl207 : slOf Tryz.prog 207 = some (209, 2, 8) := by kernel_rfl
theorem sl82 : slOf Tryz.prog 82 = some (22, 1, 4) := by kernel_rfl
theorem z209 : zeroOf Tryz.prog 209 = some [.int .u32 0, .int .u32 0] := by kernel_rfl
theorem z22 : zeroOf Tryz.prog 22 = some [.int .u32 0] := by kernel_rfl
theorem z82 : zeroOf Tryz.prog 82 = some [.slice none 0 0] := by kernel_rfl
theorem zz122 : (Tryz.prog.info? 122).bind (·.zero) = some (.pointer none) := by kernel_rfl
end Go.SL.VV
namespace Go.SL
open Go Go.Proofs VV
set_option maxHeartbeats 1000000 in
theorem apart_spec {g : World} {A : HP} {u : Value} {l : List (UInt32 × UInt32)} (hA : RL A 2 edC u l) (hn : l.length ≤ 68719476000) : Spec Tryz.prog g 115 [u] [A] fun K R => ∀ a1 n1 c1 a2 n2 c2, K (.tuple #[.slice a1 n1 c1, .slice a2 n2 c2]) (Sl 22 1 u32C (.slice a1 n1 c1) (l.map (fun x : UInt32 × UInt32 => x.1)) :: Sl 22 1 u32C (.slice a2 n2 c2) (l.map (fun x : UInt32 × UInt32 => x.2)) :: A :: R) := by
  refine Spec.intro Tryz.func115 rfl Tryz.ntmps115 rfl fun R K hK => ?_
  refine WP.seq ?_
  refine WP.reg ?_
  refine WL.e e_assign <| WL.e e_assign ?_
  refine WL.next ?_
  refine WP.seq ?_
  refine WP.seq ?_
  refine WP.reg ?_
  refine WL.e e_move ?_
  refine WL.e (el_len (xs := l) sl207 hA) <| WL.e e_move ?_
  refine WL.next ?_
  refine WP.block ?_
  refine WP.nils 22 1 u32C none ?_
  refine WP.nils 22 1 u32C none ?_
  refine WP.loopK (fun (x : Nat × SV × SV) => [(8, .int .i64 x.1), (2, x.2.1.v), (3, x.2.2.v)]) (fun (x : Nat × SV × SV) => Sl 22 1 u32C (x.2.1.v) ((l.take x.1).map (·.1)) :: Sl 22 1 u32C (x.2.2.v) ((l.take x.1).map (·.2)) :: A :: R) [(6, _), (7, _)] (fun (x : Nat × SV × SV) => x.1 ≤ l.length) (fun (x : Nat × SV × SV) => l.length - x.1) (0, ⟨none, 0, 0⟩, ⟨none, 0, 0⟩) (Nat.zero_le _) ?_
  rintro ⟨i, w1, w2⟩ hi
  simp only at hi
  dsimp only
  refine WP.seq ?_
  refine WP.reg ?_
  refine WL.e e_lss ?_
  refine WL.next ?_
  refine WP.seq ?_
  refine WP.cond rfl (fun h1 => ?_) (fun h1 => ?_)
  · have hlt : i < l.length := by rw [decide_eq_true_eq] at h1; omega
    obtain ⟨e, he⟩ : ∃ e, l[i]? = some e := ⟨_, List.getElem?_eq_getElem hlt⟩
    refine WP.skip ?_
    refine PO.next ?_
    refine WP.seq ?_
    refine WP.block ?_
    refine WP.seq ?_
    refine WP.reg ?_
    refine WL.e (el_ia (j := i) (xs := l) sl207 hA hlt) ?_
    refine WL.e (el_loadN (a := e) a209 edE hA he) ?_
    refine WL.h (h_alloc z209 fun b1 => ?_)
    refine WL.h' (h_store s209 ?_)
    refine WL.next ?_
    refine WP.draws mixedOk 12 ?_
    refine RW.e 0 rfl e_move <| RW.e 1 rfl (e_fa f209_0) <| RW.e 2 rfl (e_load a22) <| RW.e 5 rfl e_move <| RW.e 6 rfl (e_fa f209_1) <| RW.e 7 rfl (e_load a22) ?_
    refine RW.any (is := [3, 8]) rfl ⟨?_, ?_, trivial⟩
    · skip
      refine RWat.h rfl rfl rfl ?_
      refine (h_bs sl82 z22 (.o (.tmp 14) rfl <| .n) fun b2 => ?_)
      refine ⟨⟨⟨_, rfl, .inl ⟨rfl, (e_load a22)⟩⟩, ⟨_, rfl, .inl ⟨rfl, (e_fa f209_1)⟩⟩, ⟨_, rfl, .inl ⟨rfl, e_move⟩⟩, ⟨_, rfl, .inl ⟨rfl, e_move⟩⟩, trivial⟩, ?_⟩
      refine RW.any (is := [4, 8]) rfl ⟨?_, ?_, trivial⟩
      · skip
        refine RWat.h rfl rfl rfl ?_
        refine (hl_append (xs := (l.take i).map (·.1)) (ys := [e.1]) sl82 u32E z22 (lit_rl u32E [e.1] rfl) (by simp; omega) (fun a3 n3 c3 => ?_))
        refine ⟨⟨⟨_, rfl, .inl ⟨rfl, (e_load a22)⟩⟩, ⟨_, rfl, .inl ⟨rfl, (e_fa f209_1)⟩⟩, ⟨_, rfl, .inl ⟨rfl, e_move⟩⟩, trivial⟩, ?_⟩
        refine RW.any (is := [8]) rfl ⟨?_, trivial⟩
        refine RWat.h rfl rfl rfl ?_
        refine (h_bs sl82 z22 (.o (.tmp 19) rfl <| .n) fun b3 => ?_)
        refine ⟨⟨⟨_, rfl, .inl ⟨rfl, e_move⟩⟩, trivial⟩, ?_⟩
        refine RW.any (is := [9]) rfl ⟨?_, trivial⟩
        refine RWat.h rfl rfl rfl ?_
        refine (hl_append (xs := (l.take i).map (·.2)) (ys := [e.2]) sl82 u32E z22 (lit_rl u32E [e.2] rfl) (by simp; omega) (fun a4 n4 c4 => ?_))
        refine ⟨trivial, ?_⟩
        refine RW.any (is := [10]) rfl ⟨?_, trivial⟩
        refine RWat.h rfl rfl rfl ?_
        refine HO.of_eo e_assign ?_
        refine ⟨trivial, ?_⟩
        refine RW.any (is := [11]) rfl ⟨?_, trivial⟩
        refine RWat.h rfl rfl rfl ?_
        refine HO.of_eo e_assign ?_
        refine ⟨trivial, ?_⟩
        refine RW.done ?_
        refine PO.blockN ?_
        refine PO.next ?_
        refine WP.reg ?_
        refine WL.e (e_add rfl rfl (w_i64 (by omega) (by omega))) <| WL.e e_move ?_
        refine WL.nil ?_
        rw [show (l.take i).map (·.1) ++ [e.1] = (l.take (i + 1)).map (·.1) by rw [take_snoc he, List.map_append]; rfl, show (l.take i).map (·.2) ++ [e.2] = (l.take (i + 1)).map (·.2) by rw [take_snoc he, List.map_append]; rfl]
        exact PO.againK (i + 1, ⟨a3, n3, c3⟩, ⟨a4, n4, c4⟩) (by simp only; omega) (by simp only; omega)
      · skip
        refine RWat.h rfl rfl rfl ?_
        refine (h_bs sl82 z22 (.o (.tmp 19) rfl <| .n) fun b4 => ?_)
        refine ⟨⟨⟨_, rfl, .inl ⟨rfl, e_move⟩⟩, ⟨_, rfl, .inl ⟨rfl, e_move⟩⟩, trivial⟩, ?_⟩
        refine RW.any (is := [4]) rfl ⟨?_, trivial⟩
        refine RWat.h rfl rfl rfl ?_
        refine (hl_append (xs := (l.take i).map (·.1)) (ys := [e.1]) sl82 u32E z22 (lit_rl u32E [e.1] rfl) (by simp; omega) (fun a3 n3 c3 => ?_))
        refine ⟨⟨⟨_, rfl, .inl ⟨rfl, e_move⟩⟩, trivial⟩, ?_⟩
        refine RW.any (is := [9]) rfl ⟨?_, trivial⟩
        refine RWat.h rfl rfl rfl ?_
        refine (hl_append (xs := (l.take i).map (·.2)) (ys := [e.2]) sl82 u32E z22 (lit_rl u32E [e.2] rfl) (by simp; omega) (fun a4 n4 c4 => ?_))
        refine ⟨trivial, ?_⟩
        refine RW.any (is := [10]) rfl ⟨?_, trivial⟩
        refine RWat.h rfl rfl rfl ?_
        refine HO.of_eo e_assign ?_
        refine ⟨trivial, ?_⟩
        refine RW.any (is := [11]) rfl ⟨?_, trivial⟩
        refine RWat.h rfl rfl rfl ?_
        refine HO.of_eo e_assign ?_
        refine ⟨trivial, ?_⟩
        refine RW.done ?_
        refine PO.blockN ?_
        refine PO.next ?_
        refine WP.reg ?_
        refine WL.e (e_add rfl rfl (w_i64 (by omega) (by omega))) <| WL.e e_move ?_
        refine WL.nil ?_
        rw [show (l.take i).map (·.1) ++ [e.1] = (l.take (i + 1)).map (·.1) by rw [take_snoc he, List.map_append]; rfl, show (l.take i).map (·.2) ++ [e.2] = (l.take (i + 1)).map (·.2) by rw [take_snoc he, List.map_append]; rfl]
        exact PO.againK (i + 1, ⟨a3, n3, c3⟩, ⟨a4, n4, c4⟩) (by simp only; omega) (by simp only; omega)
    · skip
      refine RWat.h rfl rfl rfl ?_
      refine (h_bs sl82 z22 (.o (.tmp 19) rfl <| .n) fun b5 => ?_)
      refine ⟨⟨⟨_, rfl, .inl ⟨rfl, e_move⟩⟩, ⟨_, rfl, .inl ⟨rfl, (e_load a22)⟩⟩, ⟨_, rfl, .inl ⟨rfl, (e_fa f209_0)⟩⟩, ⟨_, rfl, .inl ⟨rfl, e_move⟩⟩, trivial⟩, ?_⟩
      refine RW.any (is := [3]) rfl ⟨?_, trivial⟩
      refine RWat.h rfl rfl rfl ?_
      refine (h_bs sl82 z22 (.o (.tmp 14) rfl <| .n) fun b6 => ?_)
      refine ⟨⟨⟨_, rfl, .inl ⟨rfl, e_move⟩⟩, ⟨_, rfl, .inl ⟨rfl, e_move⟩⟩, trivial⟩, ?_⟩
      refine RW.any (is := [4]) rfl ⟨?_, trivial⟩
      refine RWat.h rfl rfl rfl ?_
      refine (hl_append (xs := (l.take i).map (·.1)) (ys := [e.1]) sl82 u32E z22 (lit_rl u32E [e.1] rfl) (by simp; omega) (fun a3 n3 c3 => ?_))
      refine ⟨⟨⟨_, rfl, .inl ⟨rfl, e_move⟩⟩, trivial⟩, ?_⟩
      refine RW.any (is := [9]) rfl ⟨?_, trivial⟩
      refine RWat.h rfl rfl rfl ?_
      refine (hl_append (xs := (l.take i).map (·.2)) (ys := [e.2]) sl82 u32E z22 (lit_rl u32E [e.2] rfl) (by simp; omega) (fun a4 n4 c4 => ?_))
      refine ⟨trivial, ?_⟩
      refine RW.any (is := [10]) rfl ⟨?_, trivial⟩
      refine RWat.h rfl rfl rfl ?_
      refine HO.of_eo e_assign ?_
      refine ⟨trivial, ?_⟩
      refine RW.any (is := [11]) rfl ⟨?_, trivial⟩
      refine RWat.h rfl rfl rfl ?_
      refine HO.of_eo e_assign ?_
      refine ⟨trivial, ?_⟩
      refine RW.done ?_
      refine PO.blockN ?_
      refine PO.next ?_
      refine WP.reg ?_
      refine WL.e (e_add rfl rfl (w_i64 (by omega) (by omega))) <| WL.e e_move ?_
      refine WL.nil ?_
      rw [show (l.take i).map (·.1) ++ [e.1] = (l.take (i + 1)).map (·.1) by rw [take_snoc he, List.map_append]; rfl, show (l.take i).map (·.2) ++ [e.2] = (l.take (i + 1)).map (·.2) by rw [take_snoc he, List.map_append]; rfl]
      exact PO.againK (i + 1, ⟨a3, n3, c3⟩, ⟨a4, n4, c4⟩) (by simp only; omega) (by simp only; omega)
  · rw [List.take_of_length_le (show l.length ≤ i by rw [decide_eq_false_iff_not] at h1; omega)]
    obtain ⟨a1, n1, c1⟩ := w1
    obtain ⟨a2, n2, c2⟩ := w2
    refine WP.exit ?_
    refine PO.past nofun ?_
    refine PO.round nofun ?_
    refine PO.blockX ?_
    refine PO.next ?_
    refine WP.seq ?_
    refine WP.reg ?_
    refine WL.e e_move <| WL.e e_move <| WL.e e_assign <| WL.e e_assign ?_
    refine WL.next ?_
    refine WP.ret ?_
    exact PO.fin Tryz.results115 (rv_tmp (rv_tmp rv_nil)) (hK a1 n1 c1 a2 n2 c2)
theorem ring1_spec {g : World} {c1 c2 c3 : Nat} {w1 w2 : SV} {n : UInt32} {l : List (UInt32 × UInt32)} (hn : l.length ≤ 68719476000) (w : UInt32) (b : Bool) (hb : b = true ↔ Reach (EdgeL (l.map (·.1)) (l.map (·.2)) (l.map (·.1)).length) w n) : Spec Tryz.prog g 117 [.int .u32 w.toNat, .pointer (some ⟨c1, 0, none⟩), .pointer (some ⟨c2, 0, none⟩), .pointer (some ⟨c3, 0, none⟩)] [cl c1 82 [w1.v], cl c2 82 [w2.v], cl c3 22 [.int .u32 n.toNat], Sl 22 1 u32C (w1.v) (l.map (fun x : UInt32 × UInt32 => x.1)), Sl 22 1 u32C (w2.v) (l.map (fun x : UInt32 × UInt32 => x.2))] fun K R => K (.bool b) (cl c1 82 [w1.v] :: cl c2 82 [w2.v] :: cl c3 22 [.int .u32 n.toNat] :: Sl 22 1 u32C (w1.v) (l.map (fun x : UInt32 × UInt32 => x.1)) :: Sl 22 1 u32C (w2.v) (l.map (fun x : UInt32 × UInt32 => x.2)) :: R) := by
  refine Spec.intro Tryz.func117 rfl Tryz.ntmps117 rfl fun R K hK => ?_
  refine WP.seq ?_
  refine WP.reg ?_
  refine WL.e e_assign ?_
  refine WL.next ?_
  refine WP.seq ?_
  refine WP.reg ?_
  refine WL.e (e_load a82) <| WL.e (e_load a82) <| WL.e (e_load a22) <| WL.e e_move ?_
  refine WL.h (h_call (Closes_spec (fs := l.map (·.1)) (ts := l.map (·.2)) n w sl_rl sl_rl (by simp) (by simpa using hn)) k118 ?_)
  intro b2 hb2
  obtain rfl : b2 = b := by rw [Bool.eq_iff_iff, hb2, hb]
  refine WL.e e_move <| WL.e e_extract <| WL.e e_extract <| WL.e e_assign <| WL.e e_assign ?_
  refine WL.next ?_
  refine WP.seq ?_
  refine WP.reg ?_
  refine WL.e e_move <| WL.e e_assign ?_
  refine WL.next ?_
  refine WP.ret ?_
  exact PO.fin Tryz.results117 (rv_tmp rv_nil) hK
theorem IndexU_spec {g : World} {A B : HP} {u y : Value} {xs : List UInt32} {p : UInt32 → Bool} (hA : RL A 1 u32C u xs) (hn : xs.length ≤ 68719476736) (hy : ∀ x : UInt32, CallV Tryz.prog g y [.int .u32 x.toNat] [B] fun K R => K (.bool (p x)) (B :: R)) :
    Spec Tryz.prog g 154 [u, y] [A, B] fun K R => K (.int .i64 (if xs.any p then (xs.findIdx p : Nat) else -1)) (A :: B :: R) := by
  refine Spec.intro Tryz.func154 rfl Tryz.ntmps154 rfl fun R K hK => ?_
  refine WP.seq ?_
  refine WP.reg ?_
  refine WL.e e_assign ?_
  refine WL.next ?_
  refine WP.seq ?_
  refine WP.seq ?_
  refine WP.reg ?_
  refine WL.e e_move ?_
  refine WL.e (el_len (xs := xs) sl82 hA) <| WL.e e_move ?_
  refine WL.next ?_
  refine WP.block ?_
  refine WP.loopK (fun (i : Nat) => [(8, .int .i64 i)]) (fun (i : Nat) => A :: B :: R) [(0, _), (1, _), (7, _)] (fun (i : Nat) => i ≤ xs.length ∧ (xs.take i).any p = false) (fun (i : Nat) => xs.length - i) 0 (⟨Nat.zero_le _, by simp⟩) ?_
  rintro i ⟨h1, h2⟩
  refine WP.seq ?_
  refine WP.reg ?_
  refine WL.e e_lss ?_
  refine WL.next ?_
  refine WP.seq ?_
  refine WP.cond rfl (fun h3 => ?_) (fun h3 => ?_)
  · have hlt : i < xs.length := by rw [decide_eq_true_eq] at h3; omega
    obtain ⟨x, hx⟩ : ∃ x, xs[i]? = some x := ⟨_, List.getElem?_eq_getElem hlt⟩
    refine WP.skip ?_
    refine PO.next ?_
    refine WP.seq ?_
    refine WP.block ?_
    refine WP.seq ?_
    refine WP.reg ?_
    refine WL.e e_move <| WL.e e_assign ?_
    refine WL.next ?_
    refine WP.seq ?_
    refine WP.reg ?_
    refine WL.e e_move <| WL.e e_move <| WL.e e_move ?_
    refine WL.e (el_ia (j := i) (xs := xs) sl82 hA hlt) ?_
    refine WL.e (el_load0 (j := i) (a := x) a22 u32E hA hx) ?_
    refine WL.h (h_cally (hy x) ?_)
    refine WL.next ?_
    refine WP.cond rfl (fun h4 => ?_) (fun h4 => ?_)
    · skip
      refine WP.seq ?_
      refine WP.reg ?_
      refine WL.e e_move <| WL.e e_assign ?_
      refine WL.next ?_
      refine WP.ret ?_
      refine PO.blockR ?_
      refine PO.past nofun ?_
      refine PO.round nofun ?_
      refine PO.blockR ?_
      refine PO.past nofun ?_
      exact PO.finE Tryz.results154 (rv_tmp rv_nil) (by rw [index_at h2 hx h4]; rfl) hK
    · skip
      refine WP.skip ?_
      refine PO.blockN ?_
      refine PO.next ?_
      refine WP.reg ?_
      refine WL.e (e_add rfl rfl (w_i64 (by omega) (by omega))) <| WL.e e_move ?_
      refine WL.nil ?_
      exact PO.againK (i + 1) ⟨by omega, by rw [take_snoc hx, List.any_append, h2]; simp [h4]⟩ (by omega)
  · have hall : xs.any p = false := by rw [decide_eq_false_iff_not] at h3; rwa [List.take_of_length_le (by omega)] at h2
    refine WP.exit ?_
    refine PO.past nofun ?_
    refine PO.round nofun ?_
    refine PO.blockX ?_
    refine PO.next ?_
    refine WP.seq ?_
    refine WP.reg ?_
    refine WL.e e_assign ?_
    refine WL.next ?_
    refine WP.ret ?_
    exact PO.finE Tryz.results154 (rv_tmp rv_nil) (by rw [hall]; rfl) hK
theorem ContainsU_spec {g : World} {A B : HP} {u y : Value} {xs : List UInt32} {p : UInt32 → Bool} (hA : RL A 1 u32C u xs) (hn : xs.length ≤ 68719476736) (hy : ∀ x : UInt32, CallV Tryz.prog g y [.int .u32 x.toNat] [B] fun K R => K (.bool (p x)) (B :: R)) :
    Spec Tryz.prog g 116 [u, y] [A, B] fun K R => K (.bool (xs.any p)) (A :: B :: R) := by
  refine Spec.intro Tryz.func116 rfl Tryz.ntmps116 rfl fun R K hK => ?_
  refine WP.seq ?_
  refine WP.reg ?_
  refine WL.e e_assign ?_
  refine WL.next ?_
  refine WP.seq ?_
  refine WP.reg ?_
  refine WL.e e_move <| WL.e e_move ?_
  refine WL.h (h_call (IndexU_spec hA hn hy) k154 ?_)
  refine WL.e e_geq <| WL.e e_assign ?_
  refine WL.next ?_
  refine WP.ret ?_
  exact PO.finE Tryz.results116 (rv_tmp rv_nil) (by cases h : xs.any p <;> simp) hK
open Classical in
theorem ring_call {g : World} {c1 c2 c3 : Nat} {w1 w2 : SV} {n : UInt32} {l : List (UInt32 × UInt32)} (hn : l.length ≤ 68719476000) (w : UInt32) : CallV Tryz.prog g (.func (.func 117) #[] #[.pointer (some ⟨c1, 0, none⟩), .pointer (some ⟨c2, 0, none⟩), .pointer (some ⟨c3, 0, none⟩)]) [.int .u32 w.toNat] [bun [cl c1 82 [w1.v], cl c2 82 [w2.v], cl c3 22 [.int .u32 n.toNat], Sl 22 1 u32C (w1.v) (l.map (fun x : UInt32 × UInt32 => x.1)), Sl 22 1 u32C (w2.v) (l.map (fun x : UInt32 × UInt32 => x.2))]] fun K R => K (.bool (decide (Reach (EdgeL (l.map (·.1)) (l.map (·.2)) (l.map (·.1)).length) w n))) (bun [cl c1 82 [w1.v], cl c2 82 [w2.v], cl c3 22 [.int .u32 n.toNat], Sl 22 1 u32C (w1.v) (l.map (fun x : UInt32 × UInt32 => x.1)), Sl 22 1 u32C (w2.v) (l.map (fun x : UInt32 × UInt32 => x.2))] :: R) :=
  CallV.bun (CallV.of_spec (fs := []) (cs := [.pointer (some ⟨c1, 0, none⟩), .pointer (some ⟨c2, 0, none⟩), .pointer (some ⟨c3, 0, none⟩)]) (ring1_spec (c1 := c1) (c2 := c2) (c3 := c3) (w1 := w1) (w2 := w2) (n := n) (l := l) hn w _ (decide_eq_true_iff)) k117)
set_option maxHeartbeats 4000000 in
theorem ring_spec {g : World} {A : HP} {u : Value} {p dp b : Nat} {s : StV} {way : List UInt32} (n : UInt32) (hs : AlphaOk s b) (hA : RL A 1 u32C u way) (hwl : way.length ≤ 68719476736) : Spec Tryz.prog g 66 [.pointer (some ⟨p, 0, none⟩), .int .u32 n.toNat, u] [As p dp s, TxsU TPA s.txs, A] fun K R => K (.bool (ringB s.txs n way)) (As p dp s :: TxsU TPA s.txs :: A :: R) := by
  refine Spec.intro Tryz.func66 rfl Tryz.ntmps66 rfl fun R K hK => ?_
  refine WP.opn (As_op (p := p) (dp := dp) (s := s)) fun x => ?_
  obtain ⟨lp, mp, kp, mb⟩ := x
  dsimp only
  have hbb := hs.st.bb
  have hEl : (edgesA s.txs n).length ≤ 64000000000 := by have h1 := edW_len (ts := s.txs) (n := n) (left := s.txs) (fun t ht => hs.waits t ht); rw [edW_all] at h1; have h2 := hs.st.tl; have h3 := hs.st.bb; have h4 : s.txs.length * (2 * b) ≤ 32 * 2000000000 := Nat.mul_le_mul h2 (by omega); omega
  refine WP.seq ?_
  refine WP.reg ?_
  refine WL.h (h_box fun b1 => ?_)
  refine WL.e e_assign ?_
  refine WL.next ?_
  refine WP.seq ?_
  refine WP.reg ?_
  refine WL.e e_assign ?_
  refine WL.next ?_
  refine WP.seq ?_
  refine WP.seq ?_
  refine WP.reg ?_
  refine WL.e e_move <| WL.e e_nil <| WL.e (e_fa f127_3) <| WL.e (e_load a124) ?_
  refine WL.h (h_range (kvs := List.map kvU s.txs) Tryz.underlying124 fun it => ?_)
  refine WL.next ?_
  refine WP.block ?_
  refine WP.nils 209 2 edC none ?_
  refine WP.loopK (fun (x : List TxT × List (UInt32 × UInt32) × SV × Option (UInt32 × Value)) => [(7, x.2.2.1.v)]) (fun (x : List TxT × List (UInt32 × UInt32) × SV × Option (UInt32 × Value)) => Sl 209 2 edC (x.2.2.1.v) (x.2.1) :: MpIt eU32 (.map (some mb)) it (List.map kvU s.txs) (List.map kvU x.1) (x.2.2.2) :: cl b1 22 [.int .u32 n.toNat] :: cl p 127 [.pointer (some ⟨lp, 0, none⟩), .pointer (some ⟨mp, 0, none⟩), .int .u32 (UInt32.ofNat s.H.length).toNat, .map (some mb), .pointer (some ⟨kp, 0, none⟩)] :: cl lp 193 [.pointer (some ⟨dp, 0, none⟩), .int .i64 s.at_] :: Dk dp s.d :: Mm mp s.rows :: Lk kp s.locks :: TxsU TPA s.txs :: A :: R) [(0, _), (2, _), (4, _), (6, _), (18, _)] (fun (x : List TxT × List (UInt32 × UInt32) × SV × Option (UInt32 × Value)) => (x.2.1 ++ edW s.txs n x.1).Perm (edgesA s.txs n) ∧ ∀ t ∈ x.1, t ∈ s.txs) (fun (x : List TxT × List (UInt32 × UInt32) × SV × Option (UInt32 × Value)) => x.1.length) (s.txs, [], ⟨none, 0, 0⟩, none) (⟨by simp only [List.nil_append]; rw [edW_all], fun t h => h⟩) ?_
  rintro ⟨left, l, w7, cur⟩ ⟨hx1, hx2⟩
  simp only at hx1 hx2
  dsimp only
  refine WP.seq ?_
  refine WP.reg ?_
  refine WL.h (h_next (fun h0 => ?_) (fun a y0 b0 hx => ?_))
  · have hl0 : left = [] := by simpa using h0
    subst hl0
    have hpl : l.Perm (edgesA s.txs n) := by simpa [edW] using hx1
    refine WL.e e_extract ?_
    refine WL.next ?_
    refine WP.seq ?_
    refine WP.cond_f rfl ?_
    refine WP.exit ?_
    refine PO.past nofun ?_
    refine PO.round nofun ?_
    refine PO.blockX ?_
    refine PO.next ?_
    refine WP.seq ?_
    refine WP.reg ?_
    refine WL.e e_move ?_
    refine WL.h (h_call (apart_spec (l := l) sl_rl (by rw [hpl.length_eq]; omega)) k115 ?_)
    intro a1 n1 c1 a2 n2 c2
    refine WL.e e_move <| WL.e e_extract <| WL.e e_extract ?_
    refine WL.h (h_alloc z82 fun b2 => ?_)
    refine WL.h (h_alloc z82 fun b3 => ?_)
    refine WL.h' (h_store s82 ?_)
    refine WL.h' (h_store s82 ?_)
    refine WL.next ?_
    refine WP.seq ?_
    refine WP.reg ?_
    refine WL.e e_move <| WL.e e_makeFunc ?_
    refine WL.cls (A := bun [cl b2 82 [.slice a1 n1 c1], cl b3 82 [.slice a2 n2 c2], cl b1 22 [.int .u32 n.toNat], Sl 22 1 u32C (.slice a1 n1 c1) (l.map (fun x : UInt32 × UInt32 => x.1)), Sl 22 1 u32C (.slice a2 n2 c2) (l.map (fun x : UInt32 × UInt32 => x.2))]) (B := [cl b2 82 [.slice a1 n1 c1], cl b3 82 [.slice a2 n2 c2], cl b1 22 [.int .u32 n.toNat], Sl 22 1 u32C (.slice a1 n1 c1) (l.map (fun x : UInt32 × UInt32 => x.1)), Sl 22 1 u32C (.slice a2 n2 c2) (l.map (fun x : UInt32 × UInt32 => x.2))]) (fun S h => h) ?_
    refine WL.h (h_call (ContainsU_spec (xs := way) hA hwl (fun w => ring_call (c1 := b2) (c2 := b3) (c3 := b1) (w1 := ⟨a1, n1, c1⟩) (w2 := ⟨a2, n2, c2⟩) (n := n) (l := l) (by rw [hpl.length_eq]; omega) w)) k116 ?_)
    classical
    rw [ring_any (ts := s.txs) (n := n) (fun w => by rw [decide_eq_true_iff]; exact reach_ed hpl w n)]
    refine WL.e e_assign ?_
    refine WL.next ?_
    refine WP.ret ?_
    refine PO.cls (A := As p dp (s)) (B := [cl p 127 [.pointer (some ⟨lp, 0, none⟩), .pointer (some ⟨mp, 0, none⟩), .int .u32 (UInt32.ofNat s.H.length).toNat, .map (some mb), .pointer (some ⟨kp, 0, none⟩)], cl lp 193 [.pointer (some ⟨dp, 0, none⟩), .int .i64 s.at_], Dk dp s.d, Mm mp s.rows, Mp eU32 (.map (some mb)) (List.map kvU s.txs), Lk kp s.locks]) (fun S h => ⟨(lp, mp, kp, mb), h⟩) ?_
    exact PO.fin Tryz.results66 (rv_tmp rv_nil) hK
  · obtain ⟨A1, t, B1, hl, rfl, rfl, rfl⟩ := map_mid hx
    have htk := edW_take hx1 hl
    have hts : t ∈ s.txs := hx2 t (by rw [hl]; simp)
    obtain ⟨A0, B0, hAB0⟩ := mem_mid hts
    have hwt := hs.waits t hts
    refine WL.e e_extract ?_
    refine WL.next ?_
    refine WP.seq ?_
    refine WP.cond_t rfl ?_
    refine WP.opn (TxsU_out (TP := TPA) hAB0) fun _ => ?_
    refine WP.opn (TxA__op (t := t)) fun x => ?_
    obtain ⟨s1, s2⟩ := x
    dsimp only
    refine WP.skip ?_
    refine PO.next ?_
    refine WP.block ?_
    refine WP.seq ?_
    refine WP.reg ?_
    refine WL.e e_entry <| WL.e e_extract <| WL.e e_extract <| WL.e e_assign <| WL.e e_assign ?_
    refine WL.next ?_
    refine WP.seq ?_
    refine WP.reg ?_
    refine WL.e e_move <| WL.e e_nil <| WL.e (e_fa f129_1) <| WL.e (e_load a82) ?_
    refine WL.e (el_len (xs := t.x.waits) sl82 sl_rl) <| WL.e e_move ?_
    refine WL.next ?_
    refine WP.block ?_
    refine WP.loopK (fun (x : Nat × List (UInt32 × UInt32) × SV) => [(29, .int .i64 x.1), (7, x.2.2.v)]) (fun (x : Nat × List (UInt32 × UInt32) × SV) => Sl 209 2 edC (x.2.2.v) (x.2.1) :: MpIt eU32 (.map (some mb)) it (List.map kvU s.txs) (List.map kvU A1 ++ List.map kvU B1) (some (kvU t)) :: cl b1 22 [.int .u32 n.toNat] :: cl p 127 [.pointer (some ⟨lp, 0, none⟩), .pointer (some ⟨mp, 0, none⟩), .int .u32 (UInt32.ofNat s.H.length).toNat, .map (some mb), .pointer (some ⟨kp, 0, none⟩)] :: cl lp 193 [.pointer (some ⟨dp, 0, none⟩), .int .i64 s.at_] :: Dk dp s.d :: Mm mp s.rows :: Lk kp s.locks :: cl t.q 129 [s1.v, s2.v] :: Sl 108 3 ChgM.c s1.v t.x.own :: Sl 22 1 u32C s2.v t.x.waits :: TxsU TPA (A0 ++ B0) :: A :: R) [(0, _), (2, _), (4, _), (6, _), (8, _), (9, _), (18, _), (19, _), (20, _), (21, _), (22, _), (23, _), (24, _), (25, _), (26, _), (27, _), (28, _)] (fun (x : Nat × List (UInt32 × UInt32) × SV) => x.1 ≤ t.x.waits.length ∧ x.2.1 = l ++ edT s.txs n t x.1) (fun (x : Nat × List (UInt32 × UInt32) × SV) => t.x.waits.length - x.1) (0, l, w7) (⟨Nat.zero_le _, by simp [edT]⟩) ?_
    rintro ⟨k, l2, w8⟩ ⟨hk, hl2⟩
    simp only at hk hl2
    dsimp only
    have hel := ed_len (k := k) htk
    rw [← hl2] at hel
    refine WP.seq ?_
    refine WP.reg ?_
    refine WL.e e_lss ?_
    refine WL.next ?_
    refine WP.seq ?_
    refine WP.cond rfl (fun h3 => ?_) (fun h3 => ?_)
    · have hlt : k < t.x.waits.length := by rw [decide_eq_true_eq] at h3; omega
      obtain ⟨w, hw⟩ : ∃ w, t.x.waits[k]? = some w := ⟨_, List.getElem?_eq_getElem hlt⟩
      refine WP.skip ?_
      refine PO.next ?_
      refine WP.seq ?_
      refine WP.block ?_
      refine WP.seq ?_
      refine WP.reg ?_
      refine WL.e (el_ia (j := k) (xs := t.x.waits) sl82 sl_rl hlt) ?_
      refine WL.e (el_load0 (j := k) (a := w) a22 u32E sl_rl hw) <| WL.e e_assign ?_
      refine WL.next ?_
      refine WP.seq ?_
      refine WP.reg ?_
      refine WL.e e_move <| WL.e (e_load a22) <| WL.e (e_neq32) <| WL.e e_move ?_
      refine WL.bool 36 rfl (fun hg => ?_) (fun hg => ?_)
      · replace hg : t.id ≠ n := (show ¬ (kvU t).1 = n by simpa using hg)
        refine WL.e e_move <| WL.e e_nil <| WL.e (e_fa f127_3) <| WL.e (e_load a124) <| WL.e e_move ?_
        refine WL.e (e_lookIt (n := w) (ts := s.txs) Tryz.underlying124 (key_u32 Tryz.underlying22) zz122) <| WL.e (e_pne pt122) <| WL.e e_pick_t ?_
        refine WL.next ?_
        refine WP.cond rfl (fun h6 => ?_) (fun h6 => ?_)
        · replace h6 : (findU s.txs w).isSome = true := by cases e : findU s.txs w with
            | none => rw [e] at h6; cases h6
            | some t => rfl
          refine WP.reg ?_
          refine WL.e e_move <| WL.e e_move <| WL.e e_move <| WL.e (e_build z209 p209 (.o (.tmp 46) rfl <| .o (.tmp 47) rfl <| .n)) ?_
          refine WL.h (h_bs sl207 z209 (.a2 (.tmp 48) rfl <| .n) fun b4 => ?_)
          refine WL.h (hl_append (xs := l2) (ys := [(t.id, w)]) sl207 edE z209 (lit_rl edE [(t.id, w)] rfl) (by simp only [List.length_singleton]; omega) (fun a5 n5 c5 => ?_))
          refine WL.e e_assign ?_
          refine WL.nil ?_
          refine PO.blockN ?_
          refine PO.next ?_
          refine WP.reg ?_
          refine WL.e (e_add rfl rfl (w_i64 (by omega) (by omega))) <| WL.e e_move ?_
          refine WL.nil ?_
          exact PO.againK (k + 1, l2 ++ [(t.id, w)], ⟨a5, n5, c5⟩) ⟨by simp only; omega, by simp only; rw [hl2, edT_yes hg hw h6, List.append_assoc]⟩ (by simp only; omega)
        · replace h6 : (findU s.txs w).isSome = false := by cases e : findU s.txs w with
            | none => rfl
            | some t => rw [e] at h6; cases h6
          refine WP.skip ?_
          refine PO.blockN ?_
          refine PO.next ?_
          refine WP.reg ?_
          refine WL.e (e_add rfl rfl (w_i64 (by omega) (by omega))) <| WL.e e_move ?_
          refine WL.nil ?_
          exact PO.againK (k + 1, l2, w8) ⟨by simp only; omega, by simp only; rw [hl2, edT_no hw (.inr h6)]⟩ (by simp only; omega)
      · replace hg : t.id = n := (show (kvU t).1 = n by simpa using hg)
        refine WL.skip <| WL.skip <| WL.skip <| WL.skip <| WL.skip <| WL.skip <| WL.skip <| WL.e e_pick_f ?_
        refine WL.next ?_
        refine WP.cond_f rfl ?_
        refine WP.skip ?_
        refine PO.blockN ?_
        refine PO.next ?_
        refine WP.reg ?_
        refine WL.e (e_add rfl rfl (w_i64 (by omega) (by omega))) <| WL.e e_move ?_
        refine WL.nil ?_
        exact PO.againK (k + 1, l2, w8) ⟨by simp only; omega, by simp only; rw [hl2, edT_no hw (.inl hg)]⟩ (by simp only; omega)
    · obtain rfl : k = t.x.waits.length := by rw [decide_eq_false_iff_not] at h3; omega
      refine WP.exit ?_
      refine PO.past nofun ?_
      refine PO.round nofun ?_
      refine PO.blockX ?_
      refine PO.blockN ?_
      refine PO.cls (A := TxA_ t) (B := [cl t.q 129 [s1.v, s2.v], Sl 108 3 ChgM.c s1.v t.x.own, Sl 22 1 u32C s2.v t.x.waits]) (fun S h => ⟨(s1, s2), h⟩) ?_
      refine PO.cls (A := TxsU TPA s.txs) (B := [TxA_ t, TxsU TPA (A0 ++ B0)]) (fun S h => hAB0 ▸ TxsU_in (TP := TPA) (t := t) S h) ?_
      rw [← List.map_append]
      exact PO.againK (A1 ++ B1, l2, w8, _) ⟨by simp only; rw [hl2, List.append_assoc]; exact htk, fun t ht => hx2 t (by rw [hl]; rcases List.mem_append.1 ht with h | h <;> simp [h])⟩ (by simp only [hl, List.length_append, List.length_cons]; omega)
end Go.SL
