/- WA SLr SLs SLt SLu: rules and walks, several texts in one. -/
import Derived.Test.YtdpmpcoekkhceaaGreatQA9
import Derived.Test.YtdpmpcoekkhceaaGreatProg
import Derived.KernelRfl
import Derived.ProofKit
import Derived.Below
import Derived.Carry
import Derived.Lib.SmallJoins
import Derived.OpenShut
import Derived.ShutString
import Derived.ChangeOld
import Derived.Laws.StructEq
set_option linter.unusedSimpArgs false
set_option linter.unusedVariables false
namespace Go.SL.WA
open Go Go.Proofs Go.SL
theorem a108 : aggOf Tryz.prog 108 = some (some 3) := by kernel_rfl
theorem a123 : aggOf Tryz.prog 123 = some none := by kernel_rfl
theorem a22 : aggOf Tryz.prog 22 = some none := by kernel_rfl
theorem a29 : aggOf Tryz.prog 29 = some none := by kernel_rfl
theorem a3 : aggOf Tryz.prog 3 = some none := by kernel_rfl
theorem a4 : aggOf Tryz.prog 4 = some none := by kernel_rfl
theorem a40 : aggOf Tryz.prog 40 = some (some 2) := by kernel_rfl
theorem a69 : aggOf Tryz.prog 69 = some (some 2) := by kernel_rfl
theorem a9 : aggOf Tryz.prog 9 = some none := by kernel_rfl
theorem f108_0 : fldOf Tryz.prog 108 0 = some 0 := by kernel_rfl
theorem f108_1 : fldOf Tryz.prog 108 1 = some 1 := by kernel_rfl
theorem f108_2 : fldOf Tryz.prog 108 2 = some 2 := by kernel_rfl
theorem f223_0 : fldOf Tryz.prog 223 0 = some 0 := by kernel_rfl
theorem f40_0 : fldOf Tryz.prog 40 0 = some 0 := by kernel_rfl
theorem f40_1 : fldOf Tryz.prog 40 1 = some 1 := by kernel_rfl
theorem f69_0 : fldOf Tryz.prog 69 0 = some 0 := by kernel_rfl
theorem f69_1 : fldOf Tryz.prog 69 1 = some 1 := by kernel_rfl
theorem k121 : callable Tryz.prog 121 = true := by kernel_rfl
theorem k122 : callable Tryz.prog 122 = true := by kernel_rfl
theorem k123 : callable Tryz.prog 123 = true := by kernel_rfl
theorem k124 : callable Tryz.prog 124 = true := by kernel_rfl
theorem k125 : callable Tryz.prog 125 = true := by kernel_rfl
theorem k126 : callable Tryz.prog 126 = true := by kernel_rfl
theorem k156 : callable Tryz.prog 156 = true := by kernel_rfl
theorem k157 : callable Tryz.prog 157 = true := by kernel_rfl
theorem k159 : callable Tryz.prog 159 = true := by kernel_rfl
theorem k160 : callable Tryz.prog 160 = true := by kernel_rfl
theorem k63 : callable Tryz.prog 63 = true := by kernel_rfl
theorem p40 : placesOf Tryz.prog 40 = some [(0, 1), (1, 1)] := by kernel_rfl
theorem s108 : szOf Tryz.prog 108 = some 3 := by kernel_rfl
theorem s22 : szOf Tryz.prog 22 = some 1 := by kernel_rfl
theorem s29 : szOf Tryz.prog 29 = some 1 := by kernel_rfl
theorem s40 : szOf Tryz.prog 40 = some 2 := by kernel_rfl
theorem sl103 : slOf Tryz.prog 103 = some (108, 3, 24) := by kernel_rfl
theorem sl29 : slOf Tryz.prog 29 = some (40, 2, 24) := by kernel_rfl
theorem z108 : zeroOf Tryz.prog 108 = some [.string .empty, .int .u32 0, .bool false] := by kernel_rfl
theorem z29 : zeroOf Tryz.prog 29 = some [.slice none 0 0] := by kernel_rfl
theorem z40 : zeroOf Tryz.prog 40 = some [.string .empty, .int .u32 0] := by kernel_rfl
end Go.SL.WA
namespace Go.SL
open Go Go.Proofs WA
theorem Insert_at {g : World} {u : Value} {xs : List RowM} {i : Nat} {x : RowM} {bv : Nat} (hi : i ≤ xs.length) (hn : xs.length ≤ 68719476000) :
    Spec Tryz.prog g 160 [u, .int .i64 i, .slice (some ⟨bv, 0, none⟩) 1 1] [Sl 40 2 RowM.c u xs, cl bv 40 (RowM.c x)] fun K R => ∀ a m c, K (.slice a m c) (Sl 40 2 RowM.c (.slice a m c) (xs.take i ++ x :: xs.drop i) :: R) := by
  have h := Insert_spec (g := g) (u := u) (A := xs.take i) (D := xs.drop i) (x := x) (bv := bv) (by rw [List.take_append_drop]; exact hn)
  rw [List.take_append_drop, List.length_take_of_le hi] at h
  exact h
theorem set_spec {g : World} {p : Nat} {l : List RowM} (k : ByteArray) (v : UInt32) (hl : Rising l) (hn : l.length ≤ 68719476000) : Spec Tryz.prog g 126 [.pointer (some ⟨p, 0, none⟩), .string k, .int .u32 v.toNat] [Mm p l] fun K R => K (.tuple #[]) (Mm p (setR l k v) :: R) := by
  refine Spec.intro Tryz.func126 rfl Tryz.ntmps126 rfl fun R K hK => ?_
  refine WP.seq ?_
  refine WP.reg ?_
  refine WL.e e_move <| WL.e e_move ?_
  refine WL.h (h_call (find_spec k hl (by omega)) k157 ?_)
  refine WL.e e_move <| WL.e e_extract <| WL.e e_extract <| WL.e e_assign <| WL.e e_assign ?_
  refine WL.next ?_
  refine WP.seq ?_
  refine WP.seq ?_
  refine WP.reg ?_
  refine WL.e e_move <| WL.e e_not ?_
  refine WL.next ?_
  refine WP.cond rfl (fun h1 => ?_) (fun h1 => ?_)
  · replace h1 : hasI l k = false := by simpa using h1
    have hle := lowI_le l k
    refine WP.opn (Mm_op (p := p) (l := l)) fun s => ?_
    refine WP.reg ?_
    refine WL.e e_move <| WL.e e_move <| WL.e e_nil <| WL.e (e_fa f223_0) <| WL.e (e_load a29) <| WL.e e_move <| WL.e e_move <| WL.e (e_build z40 p40 (.o (.tmp 22) rfl <| .z (.int .u32 0) <| .n)) ?_
    refine WL.h (h_bs sl29 z40 (.a2 (.tmp 23) rfl <| .n) fun b1 => ?_)
    refine WL.h (h_call (Insert_at (i := lowI l k) (xs := l) (x := ⟨k, 0⟩) hle hn) k160 ?_)
    intro a m c
    refine WL.e e_nil <| WL.e (e_fa f223_0) ?_
    refine WL.h' (h_store s29 ?_)
    refine WL.next ?_
    refine WP.reg ?_
    refine WL.e e_move <| WL.e e_nil <| WL.e (e_fa f223_0) <| WL.e (e_load a29) <| WL.e e_move <| WL.e e_move ?_
    refine WL.e (el_ia (j := lowI l k) (xs := l.take (lowI l k) ++ ⟨k, 0⟩ :: l.drop (lowI l k)) sl29 sl_rl (by simp; omega)) ?_
    refine WL.e (el_fa (z := 2) (j := lowI l k) (xs := l.take (lowI l k) ++ ⟨k, 0⟩ :: l.drop (lowI l k)) f40_1 sl_rl (by simp; omega)) ?_
    refine WL.h' (hl_set (y := 0) (j := 0) (f := lowI l k * 2 + 1) (n := (l.take (lowI l k) ++ ⟨k, 0⟩ :: l.drop (lowI l k)).length) (z := 2) (E := 40) (cs := (l.take (lowI l k) ++ ⟨k, 0⟩ :: l.drop (lowI l k)).flatMap RowM.c) s22 (by simp; omega) ?_ rfl)
    rw [flat_setF (xs := l.take (lowI l k) ++ ⟨k, 0⟩ :: l.drop (lowI l k)) (a := ⟨k, 0⟩) (a' := ⟨k, v⟩) rowE (by rw [List.getElem?_append_right (by simp; omega)]; simp [Nat.min_eq_left hle]) (by decide) rfl]
    refine WL.nil ?_
    rw [set_app (by simp; omega), show l.take (lowI l k) ++ ⟨k, v⟩ :: l.drop (lowI l k) = setR l k v by rw [setR, if_neg (by simp [h1])]]
    refine PO.cls (A := Mm p (setR l k v)) (B := [cl p 223 [.slice a m c, .bool true], Own 40 2 (.slice a m c) _ _]) (fun S h => ⟨⟨a, m, c⟩, by unfold Sl; rwa [show (setR l k v).length = (l.take (lowI l k) ++ ⟨k, 0⟩ :: l.drop (lowI l k)).length by rw [setR, if_neg (by simp [h1])]; simp]⟩) ?_
    exact PO.fin Tryz.results126 rv_nil hK
  · replace h1 : hasI l k = true := by simpa using h1
    refine WP.opn (Mm_op (p := p) (l := l)) fun s => ?_
    refine WP.skip ?_
    refine PO.next ?_
    refine WP.reg ?_
    refine WL.e e_move <| WL.e e_nil <| WL.e (e_fa f223_0) <| WL.e (e_load a29) <| WL.e e_move <| WL.e e_move ?_
    refine WL.e (el_ia (j := lowI l k) (xs := l) sl29 sl_rl (has_lt h1)) ?_
    refine WL.e (el_fa (z := 2) (j := lowI l k) (xs := l) f40_1 sl_rl (has_lt h1)) ?_
    obtain ⟨u, hu⟩ := has_at h1
    refine WL.h' (hl_set (y := 0) (j := 0) (f := lowI l k * 2 + 1) (n := l.length) (z := 2) (E := 40) (cs := l.flatMap RowM.c) s22 (by have := has_lt h1; omega) ?_ rfl)
    rw [flat_setF (xs := l) (a := ⟨k, u⟩) (a' := ⟨k, v⟩) rowE hu (by decide) rfl]
    refine WL.nil ?_
    rw [show l.set (lowI l k) ⟨k, v⟩ = setR l k v by rw [setR, if_pos h1]]
    refine PO.cls (A := Mm p (setR l k v)) (B := [cl p 223 [s.v, .bool true], Own 40 2 s.v _ _]) (fun S h => ⟨s, by unfold Sl; rwa [show (setR l k v).length = l.length by rw [setR, if_pos h1]; simp]⟩) ?_
    exact PO.fin Tryz.results126 rv_nil hK
theorem drop_spec {g : World} {p : Nat} {l : List RowM} (k : ByteArray) (hl : Rising l) (hn : l.length ≤ 68719476000) : Spec Tryz.prog g 125 [.pointer (some ⟨p, 0, none⟩), .string k] [Mm p l] fun K R => K (.bool (hasI l k)) (Mm p (dropR l k) :: R) := by
  refine Spec.intro Tryz.func125 rfl Tryz.ntmps125 rfl fun R K hK => ?_
  refine WP.seq ?_
  refine WP.reg ?_
  refine WL.e e_assign ?_
  refine WL.next ?_
  refine WP.seq ?_
  refine WP.reg ?_
  refine WL.e e_move <| WL.e e_move ?_
  refine WL.h (h_call (find_spec k hl (by omega)) k157 ?_)
  refine WL.e e_move <| WL.e e_extract <| WL.e e_extract <| WL.e e_assign <| WL.e e_assign ?_
  refine WL.next ?_
  refine WP.seq ?_
  refine WP.seq ?_
  refine WP.reg ?_
  refine WL.e e_move ?_
  refine WL.next ?_
  refine WP.cond rfl (fun h1 => ?_) (fun h1 => ?_)
  · obtain ⟨u, hu⟩ := has_at h1
    refine WP.opn (Mm_op (p := p) (l := l)) fun s => ?_
    refine WP.reg ?_
    refine WL.e e_move <| WL.e e_move <| WL.e e_nil <| WL.e (e_fa f223_0) <| WL.e (e_load a29) <| WL.e e_move <| WL.e e_move <| WL.e (e_add (c := ((lowI l k + 1 : Nat) : Int)) rfl rfl (by have := has_lt h1; rw [w_i64 (by omega) (by omega)]; omega)) ?_
    refine WL.h (h_call (Delete_spec (i := lowI l k) (xs := l) hu (by omega)) k159 ?_)
    intro a m c
    refine WL.e e_nil <| WL.e (e_fa f223_0) ?_
    refine WL.h' (h_store s29 ?_)
    refine WL.next ?_
    refine WP.seq ?_
    refine WP.reg ?_
    refine WL.e e_move <| WL.e e_assign ?_
    refine WL.next ?_
    refine WP.ret ?_
    rw [show l.eraseIdx (lowI l k) = dropR l k by rw [dropR, if_pos h1]]
    refine PO.cls (A := Mm p (dropR l k)) (B := [cl p 223 [.slice a m c, .bool true], Sl 40 2 RowM.c (.slice a m c) (dropR l k)]) (fun S h => ⟨⟨a, m, c⟩, h⟩) ?_
    exact PO.fin Tryz.results125 (rv_tmp rv_nil) hK
  · rw [dropR, if_neg (by simp [h1])] at hK
    refine WP.skip ?_
    refine PO.next ?_
    refine WP.seq ?_
    refine WP.reg ?_
    refine WL.e e_move <| WL.e e_assign ?_
    refine WL.next ?_
    refine WP.ret ?_
    exact PO.fin Tryz.results125 (rv_tmp rv_nil) hK
theorem Change_spec {g : World} {A : HP} {u : Value} {p : Nat} {l : List RowM} {cs : List ChgM} (hA : RL A 3 ChgM.c u cs) (hl : Rising l) (hn : l.length + cs.length ≤ 68719476000) : Spec Tryz.prog g 70 [.pointer (some ⟨p, 0, none⟩), u] [Mm p l, A] fun K R => (cs.any (fun c => !chgOk c) = true → K (.int .i64 1) (Mm p l :: A :: R)) ∧ (cs.any (fun c => !chgOk c) = false → K (.int .i64 0) (Mm p (changeR l cs) :: A :: R)) := by
  refine Spec.intro Tryz.func70 rfl Tryz.ntmps70 rfl fun R K hK => ?_
  refine WP.seq ?_
  refine WP.reg ?_
  refine WL.e e_assign ?_
  refine WL.next ?_
  refine WP.seq ?_
  refine WP.seq ?_
  refine WP.reg ?_
  refine WL.e e_move ?_
  refine WL.h (h_call (Mthere_spec) k122 ?_)
  refine WL.e e_not ?_
  refine WL.next ?_
  refine WP.cond_f rfl ?_
  refine WP.skip ?_
  refine PO.next ?_
  refine WP.seq ?_
  refine WP.seq ?_
  refine WP.reg ?_
  refine WL.e e_move ?_
  refine WL.conv (fun S h => pu_stars trivial h) ?_
  refine WL.h (h_call (ContainsC_spec (B := pu True) hA (by omega) (fun x => CallV.more (CallV.of_spec (fs := []) (cs := []) (bad_spec x) k124))) k123 ?_)
  refine WL.next ?_
  refine WP.cond rfl (fun h1 => ?_) (fun h1 => ?_)
  · skip
    refine WP.seq ?_
    refine WP.reg ?_
    refine WL.e e_assign ?_
    refine WL.next ?_
    refine WP.ret ?_
    refine PO.past nofun ?_
    exact PO.fin Tryz.results70 (rv_tmp rv_nil) (hK.1 h1)
  · skip
    refine WP.skip ?_
    refine PO.next ?_
    refine WP.seq ?_
    refine WP.seq ?_
    refine WP.reg ?_
    refine WL.e e_move ?_
    refine WL.e (el_len sl103 hA) <| WL.e e_move ?_
    refine WL.next ?_
    refine WP.block ?_
    refine WP.loopK (fun (i : Nat) => [(14, .int .i64 i)]) (fun (i : Nat) => Mm p (changeR l (cs.take i)) :: A :: R) [(0, _), (4, _), (12, _), (13, _)] (fun (i : Nat) => i ≤ cs.length) (fun (i : Nat) => cs.length - i) 0 (Nat.zero_le _) ?_
    intro i hi
    refine WP.seq ?_
    refine WP.reg ?_
    refine WL.e e_lss ?_
    refine WL.next ?_
    refine WP.seq ?_
    refine WP.cond rfl (fun h2 => ?_) (fun h2 => ?_)
    · have hlt : i < cs.length := by rw [decide_eq_true_eq] at h2; omega
      obtain ⟨c, hc⟩ : ∃ c, cs[i]? = some c := ⟨_, List.getElem?_eq_getElem hlt⟩
      obtain ⟨hr1, hr2⟩ := changeR_rising (cs.take i) hl
      rw [List.length_take] at hr2
      refine WP.skip ?_
      refine PO.next ?_
      refine WP.seq ?_
      refine WP.block ?_
      refine WP.seq ?_
      refine WP.reg ?_
      refine WL.e (el_ia sl103 hA hlt) ?_
      refine WL.e (el_loadN (a := c) a108 chgE hA hc) ?_
      refine WL.h (h_alloc z108 fun b1 => ?_)
      refine WL.h' (h_store s108 ?_)
      refine WL.next ?_
      refine WP.seq ?_
      refine WP.reg ?_
      refine WL.e (e_fa f108_2) <| WL.e (e_load a4) ?_
      refine WL.next ?_
      refine WP.cond rfl (fun h3 => ?_) (fun h3 => ?_)
      · skip
        refine WP.reg ?_
        refine WL.e e_move <| WL.e (e_fa f108_0) <| WL.e (e_load a9) ?_
        refine WL.h (h_call (drop_spec c.key hr1 (by omega)) k125 ?_)
        refine WL.nil ?_
        refine PO.blockN ?_
        refine PO.next ?_
        refine WP.reg ?_
        refine WL.e (e_add rfl rfl (w_i64 (by omega) (by omega))) <| WL.e e_move ?_
        refine WL.nil ?_
        rw [show dropR (changeR l (cs.take i)) c.key = changeR l (cs.take (i + 1)) by rw [take_snoc hc, changeR_snoc, applyC, if_pos h3]]
        exact PO.againK (i + 1) (by omega) (by omega)
      · skip
        refine WP.reg ?_
        refine WL.e e_move <| WL.e (e_fa f108_0) <| WL.e (e_load a9) <| WL.e (e_fa f108_1) <| WL.e (e_load a22) ?_
        refine WL.h (h_call (set_spec c.key c.val hr1 (by omega)) k126 ?_)
        refine WL.nil ?_
        refine PO.blockN ?_
        refine PO.next ?_
        refine WP.reg ?_
        refine WL.e (e_add rfl rfl (w_i64 (by omega) (by omega))) <| WL.e e_move ?_
        refine WL.nil ?_
        rw [show setR (changeR l (cs.take i)) c.key c.val = changeR l (cs.take (i + 1)) by rw [take_snoc hc, changeR_snoc, applyC, if_neg (by simp [h3])]]
        exact PO.againK (i + 1) (by omega) (by omega)
    · rw [List.take_of_length_le (show cs.length ≤ i by rw [decide_eq_false_iff_not] at h2; omega)]
      refine WP.exit ?_
      refine PO.past nofun ?_
      refine PO.round nofun ?_
      refine PO.blockX ?_
      refine PO.next ?_
      refine WP.seq ?_
      refine WP.reg ?_
      refine WL.e e_assign ?_
      refine WL.next ?_
      refine WP.ret ?_
      exact PO.fin Tryz.results70 (rv_tmp rv_nil) (hK.2 h1)
def rowV (r : RowM) : List Value := [r.v]
theorem in_iter {g : World} {c1 c2 p : Nat} {s : SpanM} {l : List RowM} (hl : Rising l) (hn : l.length ≤ 68719476000) :
    Iter Tryz.prog g 156 (fun y => [] ++ [y] ++ [.pointer (some ⟨c1, 0, none⟩), .pointer (some ⟨c2, 0, none⟩)]) [cl c1 123 [.pointer (some ⟨p, 0, none⟩)], cl c2 69 [.string s.a, .string s.b], Mm p l] rowV (fun _ => pu True) (fun xs => xs = (l.filter fun r => inSpan s r.key)) (fun pre => pre <+: (l.filter fun r => inSpan s r.key)) [Mm p l] := by
  intro y J X cont hy
  refine Spec.intro Tryz.func156 rfl Tryz.ntmps156 rfl fun R K hK => ?_
  refine WP.seq ?_
  refine WP.seq ?_
  refine WP.reg ?_
  refine WL.e (e_load a123) ?_
  refine WL.h (h_call (Mthere_spec) k122 ?_)
  refine WL.e e_not <| WL.e e_move ?_
  refine WL.bool 11 rfl (fun h => ?_) (fun h => ?_)
  · cases h -- end
  · skip
    refine WL.e (e_loadN a69) <| WL.e (e_loadN a69) ?_
    refine WL.h (h_call (Meet_spec ⟨_, _⟩ ⟨_, _⟩) k63 ?_)
    refine WL.e e_not <| WL.e e_pick_f ?_
    refine WL.next ?_
    refine WP.cond rfl (fun h1 => ?_) (fun h1 => ?_)
    · replace h1 : meet s s = false := by simpa using h1
      refine WP.ret ?_
      refine PO.past nofun ?_
      exact PO.fin Tryz.results156 rv_nil (hK.1 [] (meet_self h1).symm Hist.nil)
    · replace h1 : meet s s = true := by simpa using h1
      refine WP.skip ?_
      refine PO.next ?_
      refine WP.seq ?_
      refine WP.reg ?_
      refine WL.e (e_load a123) <| WL.e (e_fa f69_0) <| WL.e (e_load a9) ?_
      refine WL.h (h_call (find_spec s.a hl (by omega)) k157 ?_)
      refine WL.opn (Mm_op (p := p) (l := l)) fun sv => ?_
      have hD : RL (Sl 40 2 RowM.c sv.v l) 2 RowM.c (subV sv.v (lowI l s.a) l.length none 2) (l.drop (lowI l s.a)) := RL.from_ rowE sl_rl (lowI_le l s.a)
      have hDl : (l.drop (lowI l s.a)).length ≤ l.length := by simp
      refine WL.e e_move <| WL.e e_extract <| WL.e e_extract <| WL.e e_assign <| WL.e e_assign ?_
      refine WL.next ?_
      refine WP.seq ?_
      refine WP.reg ?_
      refine WL.e (e_load a123) <| WL.e e_nil <| WL.e (e_fa f223_0) <| WL.e (e_load a29) <| WL.e e_move ?_
      refine WL.e (el_from (lo := lowI l s.a) (xs := l) sl29 sl_rl (lowI_le l s.a)) ?_
      refine WL.e (el_len (xs := (l.drop (lowI l s.a))) sl29 hD) <| WL.e e_move ?_
      refine WL.next ?_
      refine WP.block ?_
      refine WP.loopK (fun (k : Nat) => [(31, .int .i64 k)]) (fun (k : Nat) => J ((l.drop (lowI l s.a)).take k) :: cl p 223 [sv.v, .bool true] :: Sl 40 2 RowM.c sv.v l :: cl c1 123 [.pointer (some ⟨p, 0, none⟩)] :: cl c2 69 [.string s.a, .string s.b] :: R) [(0, _), (2, _), (29, _), (30, _)] (fun (k : Nat) => k ≤ (l.drop (lowI l s.a)).length ∧ (∀ r ∈ (l.drop (lowI l s.a)).take k, (!sLt s.b r.key) = true) ∧ Hist cont ((l.drop (lowI l s.a)).take k)) (fun (k : Nat) => (l.drop (lowI l s.a)).length - k) 0 (⟨Nat.zero_le _, by simp, by simpa using Hist.nil⟩) ?_
      rintro k ⟨hk1, hk2, hk3⟩
      refine WP.seq ?_
      refine WP.reg ?_
      refine WL.e e_lss ?_
      refine WL.next ?_
      refine WP.seq ?_
      refine WP.cond rfl (fun h2 => ?_) (fun h2 => ?_)
      · have hlt : k < (l.drop (lowI l s.a)).length := by rw [decide_eq_true_eq] at h2; omega
        obtain ⟨x, hx⟩ : ∃ x, (l.drop (lowI l s.a))[k]? = some x := ⟨_, List.getElem?_eq_getElem hlt⟩
        refine WP.skip ?_
        refine PO.next ?_
        refine WP.seq ?_
        refine WP.block ?_
        refine WP.seq ?_
        refine WP.reg ?_
        refine WL.e (el_ia (j := k) (xs := (l.drop (lowI l s.a))) sl29 hD hlt) ?_
        refine WL.e (el_loadN (a := x) a40 rowE hD hx) ?_
        refine WL.h (h_alloc z40 fun b1 => ?_)
        refine WL.h' (h_store s40 ?_)
        refine WL.next ?_
        refine WP.seq ?_
        refine WP.reg ?_
        refine WL.e (e_fa f40_0) <| WL.e (e_load a9) <| WL.e (e_fa f69_1) <| WL.e (e_load a9) <| WL.e e_sgt <| WL.e e_move ?_
        refine WL.bool 40 rfl (fun h3 => ?_) (fun h3 => ?_)
        · rw [sgt_eq] at h3
          refine WL.skip <| WL.skip <| WL.skip <| WL.skip <| WL.e e_pick_t ?_
          refine WL.next ?_
          refine WP.cond_t rfl ?_
          refine WP.ret ?_
          refine PO.blockR ?_
          refine PO.past nofun ?_
          refine PO.round nofun ?_
          refine PO.blockR ?_
          refine PO.cls (A := Mm p l) (B := [cl p 223 [sv.v, .bool true], Sl 40 2 RowM.c (sv.v) l]) (fun S h => ⟨sv, h⟩) ?_
          exact PO.fin Tryz.results156 rv_nil (hK.1 _ (by rw [← scan_eq hl]; exact (tw_stop hk2 hx (by simp [h3])).symm) hk3)
        · rw [sgt_eq] at h3
          have hpf : (l.drop (lowI l s.a)).take k ++ [x] <+: (l.filter fun r => inSpan s r.key) := by rw [← scan_eq hl]; exact tw_more hk2 hx (by simp [h3])
          refine WL.e e_move <| WL.e (e_loadN a40) ?_
          refine WL.h (HO.conv (fun S h => pu_stars trivial h) (h_cally (hy ((l.drop (lowI l s.a)).take k) x hpf hk3) ?_))
          refine ⟨fun hc => ?_, fun hc => ?_⟩
          · skip
            refine WL.e e_not <| WL.e e_pick_f ?_
            refine WL.next ?_
            refine WP.cond_f rfl ?_
            refine WP.skip ?_
            refine PO.blockN ?_
            refine PO.next ?_
            refine WP.reg ?_
            refine WL.e (e_add rfl rfl (w_i64 (by omega) (by omega))) <| WL.e e_move ?_
            refine WL.nil ?_
            rw [← take_snoc hx]
            exact PO.againK (k + 1) ⟨by omega, by rw [take_snoc hx]; intro r hr; rcases List.mem_append.1 hr with h | h; exact hk2 r h; simp at h; subst h; simpa using h3, by rw [take_snoc hx]; exact hk3.snoc hc⟩ (by omega)
          · skip
            refine WL.e e_not <| WL.e e_pick_f ?_
            refine WL.next ?_
            refine WP.cond_t rfl ?_
            refine WP.ret ?_
            refine PO.blockR ?_
            refine PO.past nofun ?_
            refine PO.round nofun ?_
            refine PO.blockR ?_
            refine PO.cls (A := Mm p l) (B := [cl p 223 [sv.v, .bool true], Sl 40 2 RowM.c (sv.v) l]) (fun S h => ⟨sv, h⟩) ?_
            exact PO.fin Tryz.results156 rv_nil (hK.2 _ x hpf hk3 hc)
      · have hall : (l.drop (lowI l s.a)).take k = (l.filter fun r => inSpan s r.key) := by rw [← scan_eq hl, List.take_of_length_le (by rw [decide_eq_false_iff_not] at h2; omega), tw_all]; intro r hr; exact hk2 r (by rw [List.take_of_length_le (by rw [decide_eq_false_iff_not] at h2; omega)]; exact hr)
        refine WP.exit ?_
        refine PO.past nofun ?_
        refine PO.round nofun ?_
        refine PO.blockX ?_
        refine PO.cls (A := Mm p l) (B := [cl p 223 [sv.v, .bool true], Sl 40 2 RowM.c (sv.v) l]) (fun S h => ⟨sv, h⟩) ?_
        exact PO.fin Tryz.results156 rv_nil (hK.1 _ hall hk3)
theorem in_spec {g : World} {p : Nat} (s : SpanM) : Spec Tryz.prog g 121 [.pointer (some ⟨p, 0, none⟩), s.v] [] fun K R => ∀ c1 c2, K (.func (.func 156) #[] #[.pointer (some ⟨c1, 0, none⟩), .pointer (some ⟨c2, 0, none⟩)]) (cl c1 123 [.pointer (some ⟨p, 0, none⟩)] :: cl c2 69 [.string s.a, .string s.b] :: R) := by
  refine Spec.intro Tryz.func121 rfl Tryz.ntmps121 rfl fun R K hK => ?_
  refine WP.seq ?_
  refine WP.reg ?_
  refine WL.h (h_box fun b1 => ?_)
  refine WL.h (h_box fun b2 => ?_)
  refine WL.e e_assign ?_
  refine WL.next ?_
  refine WP.seq ?_
  refine WP.reg ?_
  refine WL.e e_makeFunc <| WL.e e_assign ?_
  refine WL.next ?_
  refine WP.ret ?_
  exact PO.fin Tryz.results121 (rv_tmp rv_nil) (hK b1 b2)
def ScJ (b b2 most : Nat) (pre : List RowM) : HP := fun S => ∃ sv : SV, stars [cl b2 3 [.int .i64 most], cl b 29 [sv.v], Sl 40 2 RowM.c sv.v pre] S
def ScX (b b2 most : Nat) (pre : List RowM) (x : RowM) (j : Code) : HP := fun S => ∃ sv : { sv : SV // j = .exit 0 }, stars [cl b2 3 [.int .i64 most], cl b 29 [sv.1.v], Sl 40 2 RowM.c sv.1.v pre] S
theorem hist_len {α : Type} {most : Nat} {xs : List α} (h : Hist (fun (pre : List α) _ => pre.length < most) xs) : xs.length ≤ most := by
  rcases List.eq_nil_or_concat xs with rfl | ⟨l, x, rfl⟩
  · simp
  · have := h l x [] (by simp); simp; omega
theorem Scan_spec {g : World} {p : Nat} {l : List RowM} (s : SpanM) (most : Nat) (hl : Rising l) (hn : l.length ≤ 68719476000) (hm : most ≤ 68719476000) : Spec Tryz.prog g 69 [.pointer (some ⟨p, 0, none⟩), s.v, .int .i64 most] [Mm p l] fun K R => ∀ a m c, K (.slice a m c) (Sl 40 2 RowM.c (.slice a m c) (scanR l s most) :: Mm p l :: R) := by
  refine Spec.intro Tryz.func69 rfl Tryz.ntmps69 rfl fun R K hK => ?_
  refine WP.seq ?_
  refine WP.reg ?_
  refine WL.h (h_box fun b1 => ?_)
  refine WL.h (h_box fun b2 => ?_)
  refine WL.h (h_alloc z29 fun b3 => ?_)
  refine WL.next ?_
  refine WP.seq ?_
  refine WP.seq ?_
  refine WP.reg ?_
  refine WL.e e_move <| WL.e (e_loadN a69) ?_
  refine WL.h (h_call (in_spec ⟨_, _⟩) k121 ?_)
  intro c1 c2
  refine WL.next ?_
  refine WP.block ?_
  refine WP.nils 40 2 RowM.c none ?_
  refine WP.cls (A := ScJ b3 b2 most []) (B := [cl b2 3 [.int .i64 most], cl b3 29 [.slice none 0 0], Sl 40 2 RowM.c (.slice none 0 0) ([])]) (fun S h => ⟨⟨none, 0, 0⟩, h⟩) ?_
  refine WP.range (R := ?RR) (f := 156) (fs := []) (cs := [.pointer (some ⟨c1, 0, none⟩), .pointer (some ⟨c2, 0, none⟩)]) (ScJ b3 b2 most) (ScX b3 b2 most) (fun pre _ => pre.length < most) (in_iter (c1 := c1) (c2 := c2) (p := p) (s := s) hl hn) k156 ?hLL ?_ ?_ ?_ (fun _ => rfl)
  case hLL => repeat first | exact .nil | exact Pick.z | apply Pick.s | apply Split.cons
  · rintro lb db fn tmps pre x R2 hp hh
    have hlen := hist_len hh
    refine WP.opn (B := fun sv : SV => [cl b2 3 [.int .i64 most], cl b3 29 [sv.v], Sl 40 2 RowM.c (sv.v) (pre)]) (fun _ h => h) fun sv => ?_
    refine WP.reg ?_
    refine WL.h (h_alloc z40 fun b4 => ?_)
    refine WL.h' (h_store s40 ?_)
    refine WL.nil ?_
    refine PO.asg rfl (by repeat first | exact .z | apply Put.s) ?_
    refine WP.block ?_
    refine WP.seq ?_
    refine WP.seq ?_
    refine WP.reg ?_
    refine WL.e (e_load a29) ?_
    refine WL.e (el_len (xs := pre) sl29 sl_rl) <| WL.e (e_load a3) <| WL.e e_geq ?_
    refine WL.next ?_
    refine WP.cond rfl (fun h1 => ?_) (fun h1 => ?_)
    · skip
      refine WP.exit ?_
      refine PO.past nofun ?_
      refine PO.blockY rfl ?_
      refine PO.cls (A := ScX b3 b2 most pre x (.exit 0)) (B := [cl b2 3 [.int .i64 most], cl b3 29 [sv.v], Sl 40 2 RowM.c (sv.v) (pre)]) (fun S h => ⟨⟨sv, rfl⟩, h⟩) ?_
      exact PO.rnd_exit (by rw [decide_eq_true_eq] at h1; omega) (by repeat first | exact .refl | exact Pick.z | apply Pick.s | apply Sub.cons | apply Sub.drop)
    · skip
      refine WP.skip ?_
      refine PO.next ?_
      refine WP.reg ?_
      refine WL.e (e_load a29) <| WL.e (e_loadN a40) ?_
      refine WL.h (h_bs sl29 z40 (.a2 (.tmp 17) rfl <| .n) fun b5 => ?_)
      refine WL.h (hl_append (xs := pre) (ys := [x]) sl29 rowE z40 (lit_rl rowE [x] rfl) (by simp; omega) (fun a2 n2 m2 => ?_))
      refine WL.h' (h_store s29 ?_)
      refine WL.nil ?_
      refine PO.blockN ?_
      refine PO.cls (A := ScJ b3 b2 most (pre ++ [x])) (B := [cl b2 3 [.int .i64 most], cl b3 29 [.slice a2 n2 m2], Sl 40 2 RowM.c (.slice a2 n2 m2) (pre ++ [x])]) (fun S h => ⟨⟨a2, n2, m2⟩, h⟩) ?_
      exact PO.rnd (by rw [decide_eq_false_iff_not] at h1; omega) (by repeat first | exact .refl | exact Pick.z | apply Pick.s | apply Sub.cons | apply Sub.drop)
  · intro db xs hx hh
    subst hx
    have hlen := hist_len hh
    rw [← show scanR l s most = l.filter fun r => inSpan s r.key from List.take_of_length_le hlen]
    refine PO.opn (B := fun sv : SV => [cl b2 3 [.int .i64 most], cl b3 29 [sv.v], Sl 40 2 RowM.c (sv.v) (scanR l s most)]) (fun _ h => h) fun sv => ?_
    refine PO.blockN ?_
    refine PO.next ?_
    refine WP.seq ?_
    refine WP.reg ?_
    refine WL.e (e_load a29) ?_
    refine WL.h' (h_store s29 ?_)
    refine WL.next ?_
    refine WP.ret ?_
    refine PO.sh (u := sv.v) ?_
    intro a n c he
    rw [he]
    exact PO.finM (by repeat first | exact .z | apply Put.s) Tryz.results69 (rv_cell a29 rv_nil) (hK a n c)
  · intro db pre x j hp hh hc
    have hlen := hist_len hh
    refine WP.opn (B := fun sv : { sv : SV // j = .exit 0 } => [cl b2 3 [.int .i64 most], cl b3 29 [sv.1.v], Sl 40 2 RowM.c (sv.1.v) (pre)]) (fun _ h => h) fun sv => ?_
    obtain ⟨sv, rfl⟩ := sv
    obtain rfl : pre = scanR l s most := by
      obtain ⟨t, ht⟩ := hp
      rw [scanR, ← ht, show most = pre.length by omega]; simp
    refine WP.exit ?_
    refine PO.blockX ?_
    refine PO.next ?_
    refine WP.seq ?_
    refine WP.reg ?_
    refine WL.e (e_load a29) ?_
    refine WL.h' (h_store s29 ?_)
    refine WL.next ?_
    refine WP.ret ?_
    refine PO.sh (u := sv.v) ?_
    intro a n c he
    rw [he]
    exact PO.finM (by repeat first | exact .z | apply Put.s) Tryz.results69 (rv_cell a29 rv_nil) (hK a n c)
end Go.SL
/- The steps of the walk: a range over a function that lends something to each round. -/
set_option linter.unusedSimpArgs false
set_option linter.unusedVariables false
set_option linter.unusedSectionVars false
namespace Go.SL
open Go
/-- The contract of an iterator that lends 'Lend' to each round. -/
def IterL {α : Type} (Lend : HP) (P : Program) (g : World) (f : FuncId) (args : Value → List Value) (Pre : List HP) (enc : α → List Value) (Res : α → HP) (All Pfx : List α → Prop) (Out : List HP) : Prop :=
  ∀ (y : Value) (J : List α → HP) (X : List α → α → HP) (cont : List α → α → Prop),
    (∀ pre x, Pfx (pre ++ [x]) → Hist cont pre → CallV P g y (enc x) [J pre, Res x, Lend] fun K R => (cont pre x → K (.bool true) (J (pre ++ [x]) :: Lend :: R)) ∧ (¬ cont pre x → K (.bool false) (X pre x :: Lend :: R))) →
    Spec P g f (args y) (J [] :: Pre) fun K R => (∀ xs, All xs → Hist cont xs → K (.tuple #[]) (J xs :: (Out ++ R))) ∧
      (∀ pre x, Pfx (pre ++ [x]) → Hist cont pre → ¬ cont pre x → K (.tuple #[]) (X pre x :: (Out ++ R)))
section
variable {P : Program} {r : Option Nat} {g : World} {Γ : Env} {L M : List HP}
theorem WP.rangeL {α : Type} {enc : α → List Value} {gop : Operand} {ps : List Tmp} {assign body : Code} {fs cs : List Value} {f : FuncId} {n : Nat} {D : List Deferred} {l : List (Nat × Value)} {Pre Out R : List HP} {All Pfx : List α → Prop} {Q : Post} {Lend : HP}
    (J : List α → HP) (X : List α → α → Code → HP) (cont : List α → α → Prop) {Res : α → HP} (hit : IterL Lend P g f (fun y => fs ++ [y] ++ cs) Pre enc Res All Pfx Out) (hf : callable P f = true)
    (hL : Split L (J [] :: Pre) R)
    (hbody : ∀ lb db fn tmps pre x R', Pfx (pre ++ [x]) → Hist cont pre → WP P (some lb) g assign (AsgP P g lb body (RndP P g lb ⟨.busy, none, fn, tmps, ps.toArray, assign, body, db⟩ (J (pre ++ [x])) (X pre x) (cont pre x) (Lend :: R'))) ⟨n, [], setParams ps (enc x) l⟩ (Lp lb ⟨.ready, none, fn, tmps, ps.toArray, assign, body, db⟩ :: J pre :: Res x :: Lend :: R'))
    (hdone : ∀ db xs, All xs → Hist cont xs → PO g Q .normal ⟨n, ⟨.collected db, #[]⟩ :: D, l⟩ (J xs :: pt db (.deferred (some [])) :: (Out ++ R)))
    (hstop : ∀ db pre x j, Pfx (pre ++ [x]) → Hist cont pre → ¬ cont pre x → WP P none g j Q ⟨n, ⟨.collected db, #[]⟩ :: D, l⟩ (X pre x j :: pt db (.deferred (some [])) :: (Out ++ R)))
    (hpl : ∀ x, (enc x).length = ps.length) (hg : ev ⟨n, D, l⟩ gop = some (.func (.func f) fs.toArray cs.toArray) := by rfl) (hps : ps.all (Nat.blt · n) = true := by rfl) : WP P none g (.rangeFunc gop ps.toArray assign body) Q ⟨n, D, l⟩ L := by
  intro a w ha hw
  refine wpIn_rangeFunc fun fn _ => ?_
  let db := w.heap.size
  let lb := w.heap.size + 1
  let rec0 : Loop := ⟨.ready, none, fn, a.tmps, ps.toArray, assign, body, db⟩
  let w1 : World := (w.alloc (.deferred (some []))).alloc (.loop rec0)
  have hent : (Instr.enterLoop fn a.tmps ps.toArray assign body (FR none).round).run P w = .ok (lb, [⟨.collected db, #[]⟩]) w1 := by
    unfold Instr.enterLoop
    simp [FR, Fence.wide, w1, lb, db, rec0]
  refine ⟨lb, [⟨.collected db, #[]⟩], w1, { target := .fn (.func f) cs.toArray, args := fs.toArray ++ #[Value.func (.yield lb) #[] #[]] }, w1, f, (fs ++ [Value.func (.yield lb) #[] #[]] ++ cs).toArray, w1, hent, ?_, fun _ _ => trivial, ?_, depth_FR none 0, ?_⟩
  · simp only [resolve, ev_ok hg ha]
    simp [Deferred.ofValue, Act.eval]
  · simp only [invoke]; rw [callFunc_enter hf]; simp
  · -- the call of the iterator
    let J' : List α → HP := fun pre => bun [Lp lb rec0, J pre]
    let X' : List α → α → HP := fun pre x => ex fun j : Code => bun [Lp lb { rec0 with state := .done, pending := some j }, X pre x j]
    have hy : ∀ pre x, Pfx (pre ++ [x]) → Hist cont pre → CallV P g (.func (.yield lb) #[] #[]) (enc x) [J' pre, Res x, Lend] fun K R => (cont pre x → K (.bool true) (J' (pre ++ [x]) :: Lend :: R)) ∧ (¬ cont pre x → K (.bool false) (X' pre x :: Lend :: R)) := by
      intro pre x hp hh R' K w2 r2 hw2 ⟨hT1, hT2⟩
      have hw3 : Sat g (Lp lb rec0 :: J pre :: Res x :: Lend :: R') w2 := hw2.conv fun _ => stars_bun
      refine ⟨{ target := .fn (.yield lb) #[], args := (enc x).toArray }, _, w2, fun w => by simp [Deferred.ofValue], yield_run (rec := rec0) (hw3.get .z) (by simp [rec0, hpl]), ?_⟩
      show RoundIn (FR r2) 0 P lb fn ((ps.toArray.zip (enc x).toArray).foldl (fun tmps (t, a) => tmps.setIfInBounds t a) a.tmps) assign body w2 (RetK g K)
      refine roundIn_of_wpIn trivial ?_
      have hΓ : Env.ok ⟨n, [], setParams ps (enc x) l⟩ ⟨(ps.toArray.zip (enc x).toArray).foldl (fun tmps (t, a) => tmps.setIfInBounds t a) a.tmps, []⟩ := setParams_ok hps ⟨ha.size, rfl, ha.at_⟩
      refine wpIn_mono (hbody lb db fn a.tmps pre x R' hp hh _ w2 hΓ hw3) ?_
      intro e a₁ w₁ hq
      cases e <;> first | exact hq.elim | skip
      obtain ⟨w₂, hb, hq⟩ := hq
      refine ⟨w₂, hb, wpIn_mono hq ?_⟩
      intro e a₂ w₃ hq
      have fin : ∀ v w₄, ((cont pre x ∧ Ending.returned v = .returned (.bool true) ∧ Sat g (Lp lb { rec0 with state := .ready, pending := none } :: J (pre ++ [x]) :: Lend :: R') w₄) ∨ (¬ cont pre x ∧ Ending.returned v = .returned (.bool false) ∧ ∃ j, Sat g (Lp lb { rec0 with state := .done, pending := some j } :: X pre x j :: Lend :: R') w₄)) → RetK g K (.returned v) w₄ := by
        rintro v w₄ (⟨hc, e1, h1⟩ | ⟨hc, e1, j, h1⟩)
        · cases e1
          exact ⟨_, _, rfl, hT1 hc, h1.conv fun _ => bun_stars (L := [_, _])⟩
        · cases e1
          exact ⟨_, _, rfl, hT2 hc, h1.conv fun _ h => ex_stars j (bun_stars (L := [_, _]) h)⟩
      cases e <;> first | exact hq.elim | skip
      all_goals
        obtain ⟨v, w₄, h1, h2⟩ := hq
        exact ⟨v, w₄, h1, fin v w₄ h2⟩
    have hw1 : Sat g (J' [] :: Pre ++ (pt db (.deferred (some [])) :: R)) w1 := by
      have h1 := hw.push (.deferred (some []))
      have h2 := h1.push (.loop rec0)
      refine h2.conv fun S hS => ?_
      have h3 : (w.alloc (.deferred (some []))).heap.size = lb := by simp [lb]
      have hS' : stars (Lp lb rec0 :: pt db (.deferred (some [])) :: L) S := by
        have := hS; simp only [World.alloc] at h3; rw [h3] at this; exact this
      have h4 : stars (Lp lb rec0 :: pt db (.deferred (some [])) :: (J [] :: Pre ++ R)) S := stars_cons (fun _ => stars_cons (fun _ => hL.to)) hS'
      refine bun_stars (L := [Lp lb rec0, J []]) ?_
      refine stars_cons (fun S h => ?_) h4
      have h5 : stars (J [] :: pt db (.deferred (some [])) :: (Pre ++ R)) S := stars_swap h
      exact stars_cons (fun S h => stars_move h) h5
    have hcall := hit (.func (.yield lb) #[] #[]) J' X' cont hy (pt db (.deferred (some [])) :: R) (fun v M => ∀ w3, Sat g M w3 → rangePost (FR none) 0 P lb Q { a with defers := [⟨.collected db, #[]⟩] ++ a.defers } (.returned v) w3) w1 hw1 ?_
    · refine HO.enter.callsIn_fr (hcall.mono ?_)
      rintro e w3 ⟨v, M, rfl, hk, hw3⟩
      exact hk w3 hw3
    · have haD : Env.ok ⟨n, ⟨.collected db, #[]⟩ :: D, l⟩ { a with defers := [⟨.collected db, #[]⟩] ++ a.defers } := ⟨ha.size, by simp [show a.defers = D from ha.defers], ha.at_⟩
      refine ⟨fun xs hx hh w3 hw3 => ?_, fun pre x hp hh hc w3 hw3 => ?_⟩
      · have h1 : Sat g (Lp lb rec0 :: J xs :: (Out ++ pt db (.deferred (some [])) :: R)) w3 := hw3.conv fun _ => stars_bun
        refine ⟨none, _, run_endLoop (h1.get .z) rfl, ?_⟩
        have h2 := lp_set (rec' := { rec0 with state := .exhausted }) h1
        exact hdone db xs hx hh _ _ haD (h2.conv fun _ h => stars_cons (fun _ => stars_unmove) (stars_tail h))
      · obtain ⟨j, h1⟩ : ∃ j, Sat g (Lp lb { rec0 with state := .done, pending := some j } :: X pre x j :: (Out ++ pt db (.deferred (some [])) :: R)) w3 := by
          obtain ⟨j, hj⟩ := stars_ex hw3.heap
          exact ⟨j, hw3.os, hw3.tape, hw3.output, hw3.size, stars_bun hj⟩
        refine ⟨some j, _, run_endLoop (h1.get .z) rfl, ?_⟩
        have h2 := lp_set (rec' := { rec0 with state := .exhausted, pending := some j }) h1
        exact hstop db pre x j hp hh hc _ _ haD (h2.conv fun _ h => stars_cons (fun _ => stars_unmove) (stars_tail h))
theorem own_to {S : Piece} {E z n i : Nat} {u : Value} {cs : List Value} (h : Own E z u n cs S) (hi : i ≤ n) : Own E z (subV u 0 i none z) i (cs.take (i * z)) S := by
  rcases h with ⟨rfl, h2, a, h3⟩ | ⟨b, o, c, l, rfl, h2, h3, h4, h5, h6⟩
  · have : i = 0 := by omega
    subst this; subst h2; subst h3
    exact .inl ⟨rfl, by simp, a, by simp [subV]⟩
  · refine .inr ⟨b, o, c, l, ?_, by omega, h3, h4, h5, ?_⟩
    · simp [subV, add_none]
    · rw [h6, List.take_take, Nat.min_eq_left (Nat.mul_le_mul_right _ hi)]
theorem sl_to {α : Type} {S : Piece} {E z i : Nat} {u : Value} {enc : α → List Value} {xs : List α} (he : EncOk z enc) (h : Sl E z enc u xs S) (hi : i ≤ xs.length) : Sl E z enc (subV u 0 i none z) (xs.take i) S := by
  have := own_to h hi
  unfold Sl
  rw [List.length_take, Nat.min_eq_left hi, ← flat_take he]; exact this
theorem hl_clear {α : Type} {T E z y lo : Nat} {x : Operand} {enc : α → List Value} {u w' : Value} {zs : List Value} {xs : List α} {N : List HP} {K : Value → List HP → Prop} (z0 : α) (hs : slOf P T = some (E, z, y)) (hz : zeroOf P E = some zs) (he : EncOk z enc) (hz0 : enc z0 = zs) (hlo : lo ≤ xs.length) (h0 : 0 < xs.length)
    (hK : K (.tuple #[]) N) (hu : w' = subV u lo xs.length none z := by rfl) (hx : ev Γ x = some w' := by rfl) (hp : Put L (Sl E z enc u xs) (Sl E z enc u (xs.take lo ++ List.replicate (xs.length - lo) z0)) N := by repeat first | exact .z | apply Put.s) {dst : Option Tmp} {t : TypeId} {pos : String} {aft : Array Edge} {gd : Option (Nat × Bool)} : HO P r g ⟨dst, .call ⟨.builtin .clear, #[x], #[T]⟩, t, pos, aft, gd⟩ Γ L K := by
  intro a w Q next ha hw hn
  obtain ⟨R, p1, p2⟩ := hp.picks
  obtain ⟨S1, S2, hd, l1, l2, h1, h2⟩ := p1.to hw.heap
  obtain ⟨b, o, c, l, e1, e2, e3, e4, e5, e6⟩ := own_at h1 h0
  have hw' : Sat g (cl b E l :: R) w := ⟨hw.os, hw.tape, hw.output, hw.size, S1, S2, hd, l1, l2, e6, h2⟩
  have hA : At w' b (o + lo * z) (xs.length - lo) (c - lo) := by
    rw [hu, e1]
    exact (At.lit (b := b) (o := o) e2).sub (lo := lo) (hi := xs.length) (m := c) (z := z) hlo e2 (Nat.le_refl _)
  have hcz : (c - lo) * z = c * z - lo * z := Nat.sub_mul _ _ _
  have hlz : lo * z ≤ c * z := Nat.mul_le_mul_right _ (by omega)
  have hnz : xs.length * z ≤ c * z := Nat.mul_le_mul_right _ e2
  have hnz2 : lo * z ≤ xs.length * z := Nat.mul_le_mul_right _ hlo
  have hnz3 : (xs.length - lo) * z = xs.length * z - lo * z := Nat.sub_mul _ _ _
  have hrl : ((List.replicate (xs.length - lo) zs).flatten).length = (xs.length - lo) * z := by simp [← hz0, he.len]
  refine h_clear (K := fun v M => K v N ∧ M = cl b E (splice l (o + lo * z) (List.replicate (xs.length - lo) zs).flatten) :: R) (L := cl b E l :: R) (l := l) (b := b) (U := E) (N := _ :: R) hs hz hA (by omega) ?_ (by rw [← hz0]; exact he.len z0) (by rw [← hz0]; exact he.one z0) hx .z a w Q next ha hw' ?_
  · exact ⟨hK, rfl⟩
  · rintro v M w2 ⟨hk, rfl⟩ hw2
    refine hn v N w2 hk (hw2.conv fun S hS => p2.back (stars_one_cons (fun S h => ?_) hS))
    unfold Sl
    have hlen : (xs.take lo ++ List.replicate (xs.length - lo) z0).length = xs.length := by simp; omega
    rw [hlen, e1]
    refine at_own (At.lit e2) e3 ?_ ?_ S h
    · rw [splice_len _ _ _ (by rw [hrl]; omega)]; exact e4
    · apply List.ext_getElem?
      intro i
      rw [td_get, splice_get _ _ _ (by rw [hrl]; omega), hrl, List.flatMap_append, List.getElem?_append, flat_len he, List.length_take, Nat.min_eq_left hlo]
      have hi5 : ∀ i, i < xs.length * z → l[o + i]? = (xs.flatMap enc)[i]? := fun i hi => by rw [← e5, td_get, if_pos hi]
      by_cases h1 : i < lo * z
      · rw [if_pos (by omega), if_pos (by omega), if_pos h1, hi5 i (by omega), ← flat_take he, List.getElem?_take, if_pos h1]
      · rw [if_neg h1]
        by_cases h2 : i < xs.length * z
        · rw [if_pos h2, if_neg (by omega), if_pos (by omega), show o + i - (o + lo * z) = i - lo * z by omega, List.flatMap_replicate, hz0]
        · rw [if_neg h2]
          symm; apply List.getElem?_eq_none
          rw [List.flatMap_replicate, hz0, hrl]; omega
where
  stars_one_cons {A B : HP} {R : List HP} {S : Piece} (h : ∀ S, A S → B S) (hs : stars (A :: R) S) : stars (B :: R) S := by
    obtain ⟨S1, S2, a, b, c, d, e⟩ := hs; exact ⟨S1, S2, a, b, c, h _ d, e⟩
theorem e_min32 {dst : Option Tmp} {t : TypeId} {pos : String} {aft : Array Edge} {gd : Option (Nat × Bool)} {x y : Operand} {T U : TypeId} {a b : UInt32} (hx : ev Γ x = some (.int .u32 a.toNat) := by rfl) (hy : ev Γ y = some (.int .u32 b.toNat) := by rfl) : EO P g ⟨dst, .call ⟨.builtin .min, #[x, y], #[T, U]⟩, t, pos, aft, gd⟩ Γ L (.int .u32 (if b < a then b else a).toNat) := by
  have h := e_minI (P := P) (g := g) (L := L) (dst := dst) (t := t) (pos := pos) (aft := aft) (gd := gd) (T := T) (U := U) hx hy
  have e : (if (b.toNat : Int) < a.toNat then (b.toNat : Int) else a.toNat) = ((if b < a then b else a).toNat : Nat) := by
    by_cases h : b < a
    · rw [if_pos h, if_pos (by have := UInt32.lt_iff_toNat_lt.1 h; omega)]
    · rw [if_neg h, if_neg (by intro h'; exact h (UInt32.lt_iff_toNat_lt.2 (by omega)))]
  rw [← e]; exact h
theorem CallV.bun {y v : Value} {args : List Value} {L : List HP} (h : CallV P g y args L fun K R => K v (L ++ R)) : CallV P g y args [SL.bun L] fun K R => K v (SL.bun L :: R) := by
  intro R K w r hw hT
  obtain ⟨d, nx, w', h1, h2, h3⟩ := h R (fun u M => u = v ∧ M = L ++ R) w r (hw.conv fun _ => stars_bun) ⟨rfl, rfl⟩
  have hm : ∀ e w, RetK g (fun u M => u = v ∧ M = L ++ R) e w → RetK g K e w := by
    rintro e w ⟨u, M, rfl, ⟨rfl, rfl⟩, hs⟩
    exact ⟨_, _, rfl, hT, hs.conv fun _ => bun_stars⟩
  refine ⟨d, nx, w', h1, h2, ?_⟩
  cases nx <;> simp only at h3 ⊢ <;> first | exact h3.elim | exact h3.mono hm | exact RoundIn.mono h3 hm
theorem e_mne {κ : Type} [DecidableEq κ] {ek : κ → Value} {kvs : List (κ × Value)} {m : Value} {dst : Option Tmp} {t : TypeId} {pos : String} {aft : Array Edge} {gd : Option (Nat × Bool)} {xt yt kt e : TypeId} {x y : Operand} (hT : P.underlying xt = some (.map kt e)) (hx : ev Γ x = some m := by rfl) (hy : ev Γ y = some (.map none) := by rfl) (hp : Pick L (Mp ek m kvs) M := by repeat first | exact .z | apply Pick.s) :
    EO P g ⟨dst, .binOp .neq xt x y yt, t, pos, aft, gd⟩ Γ L (.bool true) :=
  .of (by simp) fun ρ hρ w hw => by
    have h1 := hρ x m (by simp [Op.operands]) hx
    have h2 := hρ y _ (by simp [Op.operands]) hy
    obtain ⟨b, es, clock, rfl, _⟩ := hw.mp hp
    show ((do pure (Next.value (← (do eqGuard .neq xt x y (ρ x) (ρ y); binOp .neq xt (ρ x) (ρ y) : Sem Value))) : Sem Next)).run P w = _
    rw [h1, h2, eqGuard_at_map]
    show ((do pure (Next.value (← (do pure (.bool (!(← Op.equal xt (.map (some b)) (.map none)))) : Sem Value))) : Sem Next)).run P w = _
    have he : (Op.equal xt (.map (some b)) (.map none)).run P w = .ok false w := by
      unfold Op.equal; rw [show Op.maxDepth = 9999 + 1 from rfl]; unfold Op.equalIn; simp only [Sem.run_bind, run_underlying hT, Result.andThen_ok]; rfl
    simp only [Sem.run_bind, he, Result.andThen_ok, Sem.run_pure]; rfl
theorem MpIt_Mp {κ : Type} {ek : κ → Value} {m it : Value} {kvs left : List (κ × Value)} {cur : Option (κ × Value)} : ∀ S, MpIt ek m it kvs left cur S → Mp ek m kvs S := fun S h => by
  obtain ⟨b, i, es, clock, seen, rfl, _, _, hb, _, h3, h4, h5, _⟩ := h
  exact ⟨b, es, clock, rfl, hb, h3, h4, h5⟩
theorem lit_own {α : Type} {z b n : Nat} {E : TypeId} {enc : α → List Value} (he : EncOk z enc) {l : List Value} (xs : List α) (h : xs.flatMap enc = l) (hn : xs.length = n) (hb : n < 9223372036854775808) : ∀ S, cl b E l S → Sl E z enc (.slice (some ⟨b, 0, none⟩) n n) xs S := fun S hS => by
  unfold Sl
  have hl : l.length = n * z := by rw [← h, flat_len he, hn]
  rw [hn]
  refine at_own (At.lit (Nat.le_refl n)) hb (by omega) ?_ S hS
  rw [List.drop_zero, List.take_of_length_le (by omega), h]
theorem hist_all {α : Type} {c : α → Prop} {xs : List α} (h : Hist (fun _ x => c x) xs) : ∀ x ∈ xs, c x := fun x hx => by
  obtain ⟨A, B, rfl⟩ := List.append_of_mem hx
  exact h A x B rfl
end
end Go.SL
/- The steps of the walk: a place where ways meet, with all that was known. -/
set_option linter.unusedSimpArgs false
set_option linter.unusedVariables false
set_option linter.unusedSectionVars false
namespace Go.SL
open Go
section
variable {P : Program} {r : Option Nat} {g : World} {Γ : Env} {L M : List HP} {Q : Post}
theorem WP.cutL {α : Type} {c d : Code} {n : Nat} {D : List Deferred} {l : List (Nat × Value)} (E : α → List (Nat × Value)) (H : α → List HP) (φ : α → Prop) (h : WP P r g c (Exit.then (Meet g n D (fun x => (E x ++ l, H x)) φ) Q) ⟨n, D, l⟩ L) (hd : ∀ x, φ x → WP P r g d Q ⟨n, D, E x ++ l⟩ (H x)) :
    WP P r g (.seq c d) Q ⟨n, D, l⟩ L := WP.cut (fun x => (E x ++ l, H x)) φ h hd
theorem WP.cutR {α : Type} {c d : Code} {n : Nat} {D : List Deferred} {l : List (Nat × Value)} (E : α → List (Nat × Value)) (H : α → List HP) (keep : List (Nat × Value)) (φ : α → Prop) (h : WP P r g c (Exit.then (Meet g n D (fun x => (E x ++ keep, H x)) φ) Q) ⟨n, D, l⟩ L) (hd : ∀ x, φ x → WP P r g d Q ⟨n, D, E x ++ keep⟩ (H x))
    (hl : EnvSub keep l := by repeat first | exact EnvSub.nil | refine EnvSub.cons rfl ?_) : WP P r g (.seq c d) Q ⟨n, D, l⟩ L := WP.cut (fun x => (E x ++ keep, H x)) φ h hd
theorem h_makeMapB {κ : Type} [DecidableEq κ] {ek : κ → Value} {dst : Option Tmp} {t : TypeId} {pos : String} {aft : Array Edge} {gd : Option (Nat × Bool)} {T : TypeId} {K : Value → List HP → Prop} (hK : ∀ b, K (.map (some b)) (Mp ek (.map (some b)) ([] : List (κ × Value)) :: L)) : HO P r g ⟨dst, .makeMap T none, t, pos, aft, gd⟩ Γ L K :=
  HO.run (by simp) fun a w _ hw => by
    have h := hw.push (.map #[] 0)
    obtain ⟨T1, T2, hd', m1, m2, hA1, hA2⟩ := h.heap
    refine ⟨.map (some w.heap.size), _, w.alloc (.map #[] 0), by simp [execOp, Instr.makeMap], hK _, h.os, h.tape, h.output, h.size, T1, T2, hd', m1, m2, ⟨w.heap.size, [], 0, rfl, hA1, rfl, by simp, by simp⟩, hA2⟩
end
end Go.SL
/- From the walk to the row: what was there ahead of the call is there behind it. -/
set_option linter.unusedSimpArgs false
set_option linter.unusedVariables false
set_option linter.unusedSectionVars false
namespace Go.SL
open Go
def Old (w : World) : HP := fun S => le (heapOf w) S
theorem sat_old (w : World) : Sat w [Old w] w := ⟨rfl, rfl, rfl, Nat.le_refl _, heapOf w, fun _ => none, fun _ => .inr rfl, le_refl _, (fun _ _ h => by cases h), le_refl _, trivial⟩
theorem old_below {w w' : World} (h : Sat w [Old w] w') : Go.RowKit.Below w.heap.size w w' := by
  refine ⟨h.os, h.tape, h.output, h.size, fun k hk => ?_⟩
  obtain ⟨S1, S2, _, h1, _, h2, _⟩ := h.heap
  have e : w.heap[k]? = some w.heap[k] := Array.getElem?_eq_getElem hk
  rw [e]
  exact h1 _ _ (h2 _ _ e)
theorem below_of_spec {P : Program} {w : World} {f : FuncId} {args : List Value} (h : Spec P w f args [] fun K R => K (.bool true) R) : Calls P f args.toArray w fun e w' => e = .returned (.bool true) ∧ Go.RowKit.Below w.heap.size w w' := by
  refine (h [Old w] (fun v M => v = .bool true ∧ M = [Old w]) w (sat_old w) ⟨rfl, rfl⟩).mono ?_
  rintro e w' ⟨v, M, rfl, ⟨rfl, rfl⟩, hs⟩
  exact ⟨rfl, old_below hs⟩
theorem u32_wf {n : Int} (h : (Lit.int .u32 n).wf = true) : n = ((UInt32.ofNat n.toNat).toNat : Int) := by
  simp only [Lit.wf, Bool.and_eq_true, decide_eq_true_eq] at h
  rw [show IntKind.u32.min = 0 from rfl, show IntKind.u32.max = 4294967295 from rfl] at h
  have : (UInt32.ofNat n.toNat).toNat = n.toNat := by simp; omega
  omega
theorem u8_wf {n : Int} (h : (Lit.int .u8 n).wf = true) : n = ((UInt8.ofNat n.toNat).toNat : Int) := by
  simp only [Lit.wf, Bool.and_eq_true, decide_eq_true_eq] at h
  rw [show IntKind.u8.min = 0 from rfl, show IntKind.u8.max = 255 from rfl] at h
  have : (UInt8.ofNat n.toNat).toNat = n.toNat := by simp; omega
  omega
theorem array5 {α : Type} {cs : Array α} (h : cs.size = 5) : ∃ c0 c1 c2 c3 c4, cs = #[c0, c1, c2, c3, c4] := by
  obtain ⟨l⟩ := cs
  match l, h with
  | [c0, c1, c2, c3, c4], _ => exact ⟨c0, c1, c2, c3, c4, rfl⟩
end Go.SL
/- The steps of the walk: are two rows one? -/
set_option linter.unusedSimpArgs false
set_option linter.unusedVariables false
set_option linter.unusedSectionVars false
namespace Go.SL
open Go
instance : DecidableEq RowM := fun a b => decidable_of_iff (a.key = b.key ∧ a.val = b.val) ⟨fun ⟨h1, h2⟩ => by cases a; cases b; simp_all, fun h => by subst h; exact ⟨rfl, rfl⟩⟩
section
variable {P : Program} {r : Option Nat} {g : World} {Γ : Env} {L M : List HP} {dst : Option Tmp} {t : TypeId} {pos : String} {aft : Array Edge} {gd : Option (Nat × Bool)}
theorem run_part1 {T : TypeId} (h : aggOf P T = some none) (cs : Array Value) (i : Nat) (v : Value) (hv : cs[i]? = some v) (w : World) : (part T cs i).run P w = .ok v w := by
  unfold part
  simp [run_isAgg h, hv]
theorem e_rowne {T T2 s u : TypeId} {b0 b1 : Nat} {x y : Operand} {a b : RowM} (hT : P.underlying T = some (.struct #[⟨ "Key", s, 0, false, "", "", b0⟩, ⟨ "Value", u, 1, false, "", "", b1⟩])) (hs : P.underlying s = some .string) (hu : P.underlying u = some (.int .u32))
    (hs1 : aggOf P s = some none) (hu1 : aggOf P u = some none) (hp : P.stoodInHeld T = false) (hm : P.eqGuardType P.depth T = false) (hx : ev Γ x = some a.v) (hy : ev Γ y = some b.v) :
    EO P g ⟨dst, .binOp .neq T x y T2, t, pos, aft, gd⟩ Γ L (.bool (!decide (a = b))) := e_bin hx hy fun w => by
  have hf : P.fieldsOf T = #[⟨ "Key", s, 0, false, "", "", b0⟩, ⟨ "Value", u, 1, false, "", "", b1⟩] := by unfold Program.fieldsOf; rw [hT]
  have hE : ∀ w, (Op.equalIn 10000 T (.agg #[.string a.key, .int .u32 a.val.toNat]) (.agg #[.string b.key, .int .u32 b.val.toNat])).run P w = .ok (decide (a = b)) w := fun w => by
    rw [show (10000 : Nat) = 9999 + 1 from rfl, run_equalIn_struct w 9999 T _ _ (by rw [hf]; exact hT) hp, hf]
    simp only [Op.eqFields, Sem.run_bind]
    rw [if_pos (by decide)]
    simp only [Sem.run_bind]
    rw [run_part1 hs1 _ 0 (.string a.key) rfl]
    simp only [Result.andThen_ok]
    rw [run_part1 hs1 _ 0 (.string b.key) rfl]
    simp only [Result.andThen_ok]
    rw [show (9999 : Nat) = 9998 + 1 from rfl, run_equalIn_string w 9998 s a.key b.key hs]
    simp only [Result.andThen_ok]
    cases hk : a.key.toList == b.key.toList with
    | false =>
      simp
      intro e; subst e; simp at hk
    | true =>
      have hk' : a.key = b.key := by
        rw [← beq_toListBytes] at hk
        have : (a.key.data == b.key.data) = true := hk
        rw [ByteArray.ext_iff]; simpa using this
      simp only [Bool.not_true, Bool.false_eq_true, if_false]
      rw [if_pos (by decide)]
      simp only [Sem.run_bind]
      rw [run_part1 hu1 _ 1 (.int .u32 a.val.toNat) rfl]
      simp only [Result.andThen_ok]
      rw [run_part1 hu1 _ 1 (.int .u32 b.val.toNat) rfl]
      simp only [Result.andThen_ok]
      rw [run_equalIn_int w 9998 u .u32 .u32 _ _ hu]
      simp only [Result.andThen_ok, beq32]
      cases hv : a.val == b.val with
      | false =>
        simp
        intro e; subst e; simp at hv
      | true =>
        simp at hv
        simp
        cases a; cases b; simp_all
  show (do eqGuard .neq T x y (.agg #[.string a.key, .int .u32 a.val.toNat]) (.agg #[.string b.key, .int .u32 b.val.toNat]); binOp .neq T (.agg #[.string a.key, .int .u32 a.val.toNat]) (.agg #[.string b.key, .int .u32 b.val.toNat]) : Sem Value).run P w = _
  rw [Sem.run_bind, run_eqGuard_agg w .neq T x y _ _ hm]
  simp only [Result.andThen_ok]
  rw [run_neq_struct, hE]; rfl
end
end Go.SL
