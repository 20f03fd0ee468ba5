/- M3 W3 M4 W4 M5: rules and walks, several texts in one. -/
import Derived.Test.YtdpmpcoekkhceaaGreatQC6
import Derived.Test.YtdpmpcoekkhceaaGreatProg
import Derived.KernelRfl
/- What the functions compute, in plain Lean: frames. -/
set_option linter.unusedSimpArgs false
set_option linter.unusedVariables false
set_option linter.unusedSectionVars false
namespace Go.SL
open Go
theorem secs_le (n : Nat) : 8 + n ≤ secs n * 64 := by unfold secs; omega
theorem secs_ub (n : Nat) : secs n * 64 ≤ n + 71 := by unfold secs; omega
theorem over_set {α : Type} (xs ys : List α) (lo i : Nat) (c : α) (h : lo + ys.length ≤ xs.length) (hc : ys[i]? = some c) : (over xs lo (ys.take i)).set (lo + i) c = over xs lo (ys.take (i + 1)) := by
  have hi := idx_lt hc
  apply List.ext_getElem?
  intro j
  rw [List.getElem?_set]
  have e1 : (ys.take i).take (xs.length - lo) = ys.take i := List.take_of_length_le (by simp; omega)
  have e2 : (ys.take (i + 1)).take (xs.length - lo) = ys.take (i + 1) := List.take_of_length_le (by simp; omega)
  simp only [over, e1, e2, List.length_append, List.length_take, List.length_drop]
  rw [List.append_assoc, List.append_assoc, List.getElem?_append, List.getElem?_append, List.getElem?_append, List.getElem?_append]
  simp only [List.length_take, List.getElem?_take, List.getElem?_drop]
  have m1 : min lo xs.length = lo := by omega
  have m2 : min i ys.length = i := by omega
  have m3 : min (i + 1) ys.length = i + 1 := by omega
  rw [m1, m2, m3]
  by_cases h1 : lo + i = j
  · subst h1
    simp [hc, show 0 < xs.length - (lo + i) by omega, show i < i + 1 by omega]; intro h; omega
  · rw [if_neg h1]
    by_cases h2 : j < lo
    · simp [h2]
    · simp only [h2, if_false]
      by_cases h3 : j - lo < i
      · simp [h3, show j - lo < i + 1 by omega]
      · simp only [h3, show ¬ j - lo < i + 1 by omega, if_false]
        congr 1; omega
theorem over_nil {α : Type} (xs : List α) (lo : Nat) (h : lo ≤ xs.length) : over xs lo [] = xs := by simp [over]
theorem over_eq {α : Type} (A xs ys : List α) (lo : Nat) (hA : A.length = lo) (h : ys.length ≤ xs.length) : over (A ++ xs) lo ys = A ++ ys ++ xs.drop ys.length := by
  subst hA
  simp only [over, List.length_append]
  rw [List.take_left, show A.length + xs.length - A.length = xs.length by omega, List.take_of_length_le h, List.drop_append]
  simp [List.drop_eq_nil_of_le]
/-- The first two parts of a frame. -/
def head4 (b : List UInt8) : List UInt8 := numB (UInt32.ofNat b.length) 4
def sum4 (b : List UInt8) : List UInt8 := numB (sumOn (sumOn 0 (head4 b)) b) 4
theorem head4_len (b : List UInt8) : (head4 b).length = 4 := numB_len _ _
theorem sum4_len (b : List UInt8) : (sum4 b).length = 4 := numB_len _ _
theorem frame1 (b : List UInt8) : over (List.replicate (secs b.length * 64) (0 : UInt8)) 0 (head4 b) = head4 b ++ List.replicate (secs b.length * 64 - 4) 0 := by
  have := secs_le b.length
  rw [show List.replicate (secs b.length * 64) (0 : UInt8) = [] ++ List.replicate (secs b.length * 64) 0 from rfl, over_eq [] _ _ 0 rfl (by simp [head4_len]; omega)]
  simp [head4_len]
theorem frame2 (b : List UInt8) : over (head4 b ++ List.replicate (secs b.length * 64 - 4) 0) 4 (sum4 b) = head4 b ++ sum4 b ++ List.replicate (secs b.length * 64 - 8) 0 := by
  have := secs_le b.length
  rw [over_eq _ _ _ 4 (head4_len b) (by simp [sum4_len]; omega)]
  simp [sum4_len]; omega
theorem frame3 (b : List UInt8) : over (head4 b ++ sum4 b ++ List.replicate (secs b.length * 64 - 8) 0) 8 b = frame b := by
  have := secs_le b.length
  rw [over_eq _ _ _ 8 (by simp [head4_len, sum4_len]) (by simp; omega)]
  simp [frame, head4, sum4]
theorem frame_len (b : List UInt8) : (frame b).length = secs b.length * 64 := by
  have := secs_le b.length
  simp [frame, numB_len]; omega
def beN (l : List UInt8) : UInt32 := l.foldl (fun n c => (n <<< 8) ||| c.toUInt32) 0
/-- The record that bytes begin with; its sectors. -/
def getF (b : List UInt8) : Option (List UInt8 × Nat) :=
  if b.length < 8 then none else
  let n := (beN (b.take 4)).toNat
  if 16384 < n then none else
  if b.length < secs n * 64 then none else
  if frame ((b.drop 8).take n) = b.take (secs n * 64) then some ((b.drop 8).take n, secs n) else none
theorem text_beq (a b : List UInt8) : sEq (textOf a) (textOf b) = (a == b) := by
  simp [sEq, textOf, ByteArray.toList_eq]
end Go.SL
set_option linter.unusedSimpArgs false
set_option linter.unusedVariables false
namespace Go.SL.W3
open Go Go.Proofs Go.SL
theorem a114 : aggOf Tryz.prog 114 = some none := by kernel_rfl
theorem a5 : aggOf Tryz.prog 5 = some none := by kernel_rfl
theorem k104 : callable Tryz.prog 104 = true := by kernel_rfl
theorem k146 : callable Tryz.prog 146 = true := by kernel_rfl
theorem k147 : callable Tryz.prog 147 = true := by kernel_rfl
theorem k148 : callable Tryz.prog 148 = true := by kernel_rfl
theorem k149 : callable Tryz.prog 149 = true := by kernel_rfl
theorem k163 : callable Tryz.prog 163 = true := by kernel_rfl
theorem k198 : callable Tryz.prog 198 = true := by kernel_rfl
theorem mixedOk : Tryz.prog.follows .mixedOrders = true := by kernel_rfl
theorem s114 : szOf Tryz.prog 114 = some 1 := by kernel_rfl
theorem s5 : szOf Tryz.prog 5 = some 1 := by kernel_rfl
theorem sl114 : slOf Tryz.prog 114 = some (5, 1, 1) := by kernel_rfl
theorem z114 : zeroOf Tryz.prog 114 = some [.slice none 0 0] := by kernel_rfl
theorem z5 : zeroOf Tryz.prog 5 = some [.int .u8 0] := by kernel_rfl
end Go.SL.W3
namespace Go.SL
open Go Go.Proofs W3
theorem tell_spec {g : World} {b : Nat} {u : Value} {xs : List UInt8} (lo : Nat) (n : UInt32) (h : lo + 4 ≤ xs.length) (hb : xs.length ≤ 68719476736) : Spec Tryz.prog g 147 [.int .i64 lo, .int .u32 n.toNat, .pointer (some ⟨b, 0, none⟩)] [cl b 114 [u], Sl 5 1 eB u (xs)] fun K R => K (.tuple #[]) (cl b 114 [u] :: Sl 5 1 eB u (over xs lo (numB n 4)) :: R) := by
  refine Spec.intro Tryz.func147 rfl Tryz.ntmps147 rfl fun R K hK => ?_
  refine WP.seq ?_
  refine WP.reg ?_
  refine WL.e e_move ?_
  refine WL.next ?_
  refine WP.block ?_
  rw [show Sl 5 1 eB u (xs) = Sl 5 1 eB u (over xs lo ((numB n 4).take 0)) by rw [List.take_zero, over_nil xs lo (by omega)]]
  refine WP.loopK (fun (i : Nat) => [(6, .int .i64 i)]) (fun (i : Nat) => cl b 114 [u] :: Sl 5 1 eB u (over xs lo ((numB n 4).take i)) :: R) [(0, _), (1, _), (2, _)] (fun (i : Nat) => i ≤ 4) (fun (i : Nat) => 4 - i) 0 (by omega) ?_
  intro i hx1
  refine WP.seq ?_
  refine WP.reg ?_
  refine WL.e e_lss ?_
  refine WL.next ?_
  refine WP.seq ?_
  refine WP.cond rfl (fun h1 => ?_) (fun h1 => ?_)
  · have hlt : i < 4 := by simp at h1; omega
    refine WP.skip ?_
    refine PO.next ?_
    refine WP.seq ?_
    refine WP.block ?_
    refine WP.seq ?_
    refine WP.reg ?_
    refine WL.e e_move <| WL.e e_assign ?_
    refine WL.next ?_
    refine WP.draws mixedOk 12 ?_
    refine RW.e 0 rfl (e_load a114) <| RW.e 1 rfl e_move <| RW.e 2 rfl e_move <| RW.e 3 rfl (e_add (c := ((lo + i : Nat) : Int)) rfl rfl (by rw [w_i64 (by omega) (by omega)]; omega)) <| RW.e 4 rfl e_move <| RW.e 5 rfl e_move <| RW.e 6 rfl (e_sub (c := ((3 - i : Nat) : Int)) rfl rfl (by rw [w_i64 (by omega) (by omega)]; omega)) <| RW.e 7 rfl (e_mul (c := ((8 * (3 - i) : Nat) : Int)) rfl rfl (by rw [w_i64 (by omega) (by omega)]; omega)) <| RW.e 8 rfl (e_shrN (k := .u32) (m := 8 * (3 - i)) (by simp [IntKind.bits]; omega)) <| RW.e 9 rfl (e_c8 (by rw [Tryz.underlying22]; rfl) Tryz.underlying5) ?_
    refine RW.e 10 rfl (el_ia (j := lo + i) (xs := over xs lo ((numB n 4).take i)) sl114 sl_rl (by rw [over_len _ _ _ (by omega)]; omega)) ?_
    refine RW.any (is := [11]) rfl ⟨?_, trivial⟩
    refine RWat.h' rfl rfl rfl ?_
    refine (hl_store (j := lo + i) (xs := over xs lo ((numB n 4).take i)) (UInt8.ofNat (n.toNat / 2 ^ (8 * (3 - i)))) s5 eB_ok (by rw [over_len _ _ _ (by omega)]; omega) ?_)
    rw [over_set xs (numB n 4) lo i _ (by rw [numB_len]; exact h) (by (obtain rfl | rfl | rfl | rfl : i = 0 ∨ i = 1 ∨ i = 2 ∨ i = 3 := by omega) <;> rfl)]
    refine ⟨trivial, ?_⟩
    refine RW.done ?_
    refine PO.blockN ?_
    refine PO.next ?_
    refine WP.reg ?_
    refine WL.e (e_add rfl rfl (w_i64 (by omega) (by omega))) <| WL.e e_move ?_
    refine WL.nil ?_
    exact PO.againK (i + 1) (by omega) (by omega)
  · obtain rfl : i = 4 := by simp at h1; omega
    rw [show (numB n 4).take 4 = numB n 4 from List.take_of_length_le (by rw [numB_len]; omega)]
    refine WP.exit ?_
    refine PO.past nofun ?_
    refine PO.round nofun ?_
    refine PO.blockX ?_
    exact PO.fin Tryz.results147 rv_nil hK
theorem CloneB_spec {g : World} {A : HP} {u : Value} {xs : List UInt8} (hA : RL A 1 eB u xs) (hb : xs.length ≤ 68719476736) : Spec Tryz.prog g 163 [u] [A] fun K R => ∀ a m c, K (.slice a m c) (Sl 5 1 eB (.slice a m c) xs :: A :: R) := by
  refine Spec.intro Tryz.func163 rfl Tryz.ntmps163 rfl fun R K hK => ?_
  refine WP.seq ?_
  refine WP.reg ?_
  refine WL.e e_assign ?_
  refine WL.next ?_
  refine WP.seq ?_
  refine WP.seq ?_
  refine WP.reg ?_
  refine WL.e e_move ?_
  refine WL.e (e_slnil sl114 hA) ?_
  refine WL.next ?_
  refine WP.cond rfl (fun h => ?_) (fun h => ?_)
  · refine WP.know (φ := xs = []) (Pick.know (A := A) (by exact .z) fun S hS => ?_) fun hx => ?_
    · rcases hA S hS with ⟨h0, _⟩ | ⟨b, o, c, l, t, e, _⟩
      · simpa using h0
      · rw [e] at h; cases h
    subst hx
    refine WP.nils 5 1 eB none ?_
    refine WP.seq ?_
    refine WP.reg ?_
    refine WL.e e_assign ?_
    refine WL.next ?_
    refine WP.ret ?_
    refine PO.past nofun ?_
    exact PO.fin Tryz.results163 (rv_tmp rv_nil) (hK none 0 0)
  · skip
    refine WP.skip ?_
    refine PO.next ?_
    refine WP.seq ?_
    refine WP.reg ?_
    refine WL.h (h_bs0 sl114 (enc := eB) fun a1 n1 c1 => ?_)
    refine WL.e e_move ?_
    refine WL.h (hl_append (xs := []) (ys := xs) sl114 eB_ok z5 hA (by simp; omega) fun a2 n2 c2 => ?_)
    rw [List.nil_append]
    refine WL.e e_assign ?_
    refine WL.next ?_
    refine WP.ret ?_
    exact PO.fin Tryz.results163 (rv_tmp rv_nil) (hK a2 n2 c2)
theorem EqualB_spec {g : World} {A B : HP} {u v : Value} {xs ys : List UInt8} (hA : RL A 1 eB u xs) (hB : RL B 1 eB v ys) (hb : xs.length ≤ 68719476736) : Spec Tryz.prog g 198 [u, v] [A, B] fun K R => K (.bool (xs == ys)) (A :: B :: R) := by
  refine Spec.intro Tryz.func198 rfl Tryz.ntmps198 rfl fun R K hK => ?_
  refine WP.seq ?_
  refine WP.reg ?_
  refine WL.e e_assign ?_
  refine WL.next ?_
  refine WP.seq ?_
  refine WP.seq ?_
  refine WP.reg ?_
  refine WL.e e_move ?_
  refine WL.e (el_len sl114 hA) <| WL.e e_move ?_
  refine WL.e (el_len sl114 hB) <| WL.e e_neq ?_
  refine WL.next ?_
  refine WP.cond rfl (fun h => ?_) (fun h => ?_)
  · skip
    refine WP.seq ?_
    refine WP.reg ?_
    refine WL.e e_assign ?_
    refine WL.next ?_
    refine WP.ret ?_
    refine PO.past nofun ?_
    exact PO.finE Tryz.results198 (rv_tmp rv_nil) (congrArg Value.bool (Eq.symm (beq_eq_false_iff_ne.2 (by rintro rfl; simp at h)))) hK
  · replace h : xs.length = ys.length := by simp at h; omega
    refine WP.skip ?_
    refine PO.next ?_
    refine WP.seq ?_
    refine WP.seq ?_
    refine WP.reg ?_
    refine WL.e e_move ?_
    refine WL.e (el_len sl114 hA) <| WL.e e_move ?_
    refine WL.next ?_
    refine WP.block ?_
    refine WP.loopK (fun (i : Nat) => [(13, .int .i64 i)]) (fun (i : Nat) => A :: B :: R) [(0, _), (1, _), (12, _)] (fun (i : Nat) => i ≤ xs.length ∧ xs.take i = ys.take i) (fun (i : Nat) => xs.length - i) 0 (⟨by omega, by simp⟩) ?_
    rintro i ⟨hx1, hx2⟩
    refine WP.seq ?_
    refine WP.reg ?_
    refine WL.e e_lss ?_
    refine WL.next ?_
    refine WP.seq ?_
    refine WP.cond rfl (fun h2 => ?_) (fun h2 => ?_)
    · have hlt : i < xs.length := by simp at h2; omega
      obtain ⟨x, hx⟩ : ∃ c, xs[i]? = some c := ⟨xs[i], List.getElem?_eq_getElem hlt⟩
      obtain ⟨y, hy⟩ : ∃ c, ys[i]? = some c := ⟨ys[i], List.getElem?_eq_getElem (by omega)⟩
      refine WP.skip ?_
      refine PO.next ?_
      refine WP.seq ?_
      refine WP.block ?_
      refine WP.seq ?_
      refine WP.reg ?_
      refine WL.e e_move <| WL.e e_assign ?_
      refine WL.next ?_
      refine WP.seq ?_
      refine WP.draws mixedOk 9 ?_
      refine RW.e 0 rfl e_move <| RW.e 1 rfl e_move ?_
      refine RW.e 2 rfl (el_ia sl114 hA hlt) ?_
      refine RW.e 3 rfl (el_load0 a5 eB_ok hA hx) <| RW.e 4 rfl e_move <| RW.e 5 rfl e_move ?_
      refine RW.e 6 rfl (el_ia (j := i) sl114 hB (by omega)) ?_
      refine RW.e 7 rfl (el_load0 a5 eB_ok hB hy) <| RW.e 8 rfl (e_neq8) ?_
      refine RW.done ?_
      refine PO.next ?_
      refine WP.cond rfl (fun h3 => ?_) (fun h3 => ?_)
      · skip
        refine WP.seq ?_
        refine WP.reg ?_
        refine WL.e e_assign ?_
        refine WL.next ?_
        refine WP.ret ?_
        refine PO.blockR ?_
        refine PO.past nofun ?_
        refine PO.round nofun ?_
        refine PO.blockR ?_
        refine PO.past nofun ?_
        exact PO.finE Tryz.results198 (rv_tmp rv_nil) (congrArg Value.bool (Eq.symm (beq_eq_false_iff_ne.2 (by rintro rfl; rw [hx] at hy; cases hy; simp at h3)))) hK
      · skip
        refine WP.skip ?_
        refine PO.blockN ?_
        refine PO.next ?_
        refine WP.reg ?_
        refine WL.e (e_add rfl rfl (w_i64 (by omega) (by omega))) <| WL.e e_move ?_
        refine WL.nil ?_
        exact PO.againK (i + 1) ⟨by omega, by rw [take_snoc hx, take_snoc hy, hx2, show x = y by simpa using h3]⟩ (by omega)
    · have hfin : xs = ys := by rw [List.take_of_length_le (by simp at h2; omega), List.take_of_length_le (by simp at h2; omega)] at hx2; exact hx2
      refine WP.exit ?_
      refine PO.past nofun ?_
      refine PO.round nofun ?_
      refine PO.blockX ?_
      refine PO.next ?_
      refine WP.seq ?_
      refine WP.reg ?_
      refine WL.e e_assign ?_
      refine WL.next ?_
      refine WP.ret ?_
      exact PO.finE Tryz.results198 (rv_tmp rv_nil) (by rw [hfin]; simp) hK
theorem BEqual_spec {g : World} {A B : HP} {u v : Value} {xs ys : List UInt8} (hA : RL A 1 eB u xs) (hB : RL B 1 eB v ys) : Spec Tryz.prog g 133 [u, v] [A, B] fun K R => K (.bool (xs == ys)) (A :: B :: R) := by
  refine Spec.intro Tryz.func133 rfl Tryz.ntmps133 rfl fun R K hK => ?_
  refine WP.seq ?_
  refine WP.reg ?_
  refine WL.e e_assign ?_
  refine WL.next ?_
  refine WP.seq ?_
  refine WP.reg ?_
  refine WL.e e_move ?_
  refine WL.e (e_b2s Tryz.underlying114 Tryz.underlying5 Tryz.underlying9 hA) <| WL.e e_move ?_
  refine WL.e (e_b2s Tryz.underlying114 Tryz.underlying5 Tryz.underlying9 hB) <| WL.e e_seq <| WL.e e_assign ?_
  refine WL.next ?_
  refine WP.ret ?_
  exact PO.finE Tryz.results133 (rv_tmp rv_nil) (by simp [text_beq]) hK
theorem Put_spec {g : World} {A : HP} {u : Value} {b : List UInt8} (hA : RL A 1 eB u b) : Spec Tryz.prog g 104 [u] [A] fun K R => (16384 < b.length → K (.tuple #[.slice none 0 0, .int .i64 3]) (A :: R)) ∧ (b.length ≤ 16384 → ∀ a m c, K (.tuple #[.slice a m c, .int .i64 0]) (Sl 5 1 eB (.slice a m c) (frame b) :: A :: R)) := by
  refine Spec.intro Tryz.func104 rfl Tryz.ntmps104 rfl fun R K hK => ?_
  refine WP.seq ?_
  refine WP.reg ?_
  refine WL.e e_assign <| WL.e e_assign ?_
  refine WL.next ?_
  refine WP.seq ?_
  refine WP.reg ?_
  refine WL.e e_move ?_
  refine WL.e (el_len sl114 hA) <| WL.e e_assign ?_
  refine WL.next ?_
  refine WP.seq ?_
  refine WP.seq ?_
  refine WP.reg ?_
  refine WL.e e_move <| WL.e e_gtr ?_
  refine WL.next ?_
  refine WP.cond rfl (fun h => ?_) (fun h => ?_)
  · skip
    refine WP.seq ?_
    refine WP.reg ?_
    refine WL.e e_assign <| WL.e e_assign ?_
    refine WL.next ?_
    refine WP.ret ?_
    refine PO.past nofun ?_
    exact PO.fin Tryz.results104 (rv_tmp (rv_tmp rv_nil)) (hK.1 (by simp at h; omega))
  · replace h : b.length ≤ 16384 := by simp at h; omega
    have hs1 := secs_le b.length
    have hs2 := secs_ub b.length
    refine WP.skip ?_
    refine PO.next ?_
    refine WP.seq ?_
    refine WP.reg ?_
    refine WL.e e_move ?_
    refine WL.h (h_call (sectors_spec b.length (by omega)) k146 ?_)
    refine WL.e (e_mul (c := ((secs b.length * 64 : Nat) : Int)) rfl rfl (by rw [w_i64 (by omega) (by omega)]; omega)) ?_
    refine WL.h (hl_make (enc := eB) (n := secs b.length * 64) (0 : UInt8) sl114 z5 (by omega) fun a5 n5 c5 => ?_)
    refine WL.h (h_alloc z114 fun b1 => ?_)
    refine WL.h' (h_store s114 ?_)
    refine WL.next ?_
    refine WP.seq ?_
    refine WP.reg ?_
    refine WL.e e_makeFunc <| WL.e e_assign ?_
    refine WL.next ?_
    refine WP.seq ?_
    refine WP.reg ?_
    refine WL.e e_move <| WL.e e_move <| WL.e (e_c32 (by rw [Tryz.underlying3]; rfl) Tryz.underlying22) ?_
    refine WL.h (h_callv (fs := []) (cs := [.pointer (some ⟨b1, 0, none⟩)]) (args := [.int .i64 (0 : Nat), .int .u32 (UInt32.ofNat b.length).toNat]) (tell_spec (xs := List.replicate (secs b.length * 64) (0 : UInt8)) 0 (UInt32.ofNat b.length) (by simp; omega) (by simp; omega)) k147 ?_)
    rw [show numB (UInt32.ofNat b.length) 4 = head4 b from rfl, frame1]
    refine WL.next ?_
    refine WP.seq ?_
    refine WP.reg ?_
    refine WL.e e_move <| WL.e (e_load a114) ?_
    refine WL.e (el_to3 (hi := 4) (xs := head4 b ++ List.replicate (secs b.length * 64 - 4) 0) sl114 sl_rl (by simp; omega)) ?_
    refine WL.h (h_call (SumOf_spec (b := head4 b) (by have := RL.sub (lo := 0) (hi := 4) (mx := some 4) eB_ok (sl_rl (E := 5) (z := 1) (enc := eB) (u := .slice a5 n5 c5) (xs := head4 b ++ List.replicate (secs b.length * 64 - 4) 0)) (by omega) (by simp; omega) (by rintro m ⟨⟩; simp; omega); rwa [List.drop_zero, List.take_left' (head4_len b)] at this) (by rw [head4_len]; omega)) k149 ?_)
    refine WL.e e_move ?_
    refine WL.h (h_call (On_spec (sumOn 0 (head4 b)) hA (by omega)) k148 ?_)
    refine WL.h (h_callv (fs := []) (cs := [.pointer (some ⟨b1, 0, none⟩)]) (args := [.int .i64 (4 : Nat), .int .u32 (sumOn (sumOn 0 (head4 b)) b).toNat]) (tell_spec (xs := head4 b ++ List.replicate (secs b.length * 64 - 4) 0) 4 (sumOn (sumOn 0 (head4 b)) b) (by simp [head4_len]; omega) (by simp [head4_len]; omega)) k147 ?_)
    rw [show numB (sumOn (sumOn 0 (head4 b)) b) 4 = sum4 b from rfl, frame2]
    refine WL.next ?_
    refine WP.seq ?_
    refine WP.reg ?_
    refine WL.e (e_load a114) ?_
    refine WL.e (el_from (lo := 8) (xs := head4 b ++ sum4 b ++ List.replicate (secs b.length * 64 - 8) 0) sl114 sl_rl (by simp [head4_len, sum4_len]; omega)) <| WL.e e_move ?_
    refine WL.h (hl_copy (lo := 8) (xs := head4 b ++ sum4 b ++ List.replicate (secs b.length * 64 - 8) 0) sl114 eB_ok (by simp [head4_len, sum4_len]; omega) hA ?_)
    rw [frame3]
    refine WL.next ?_
    refine WP.seq ?_
    refine WP.reg ?_
    refine WL.e (e_load a114) <| WL.e e_assign <| WL.e e_assign ?_
    refine WL.next ?_
    refine WP.ret ?_
    exact PO.fin Tryz.results104 (rv_tmp (rv_tmp rv_nil)) (hK.2 h a5 n5 c5)
theorem Get_spec {g : World} {A : HP} {u : Value} {b : List UInt8} (hA : RL A 1 eB u b) (hb : b.length ≤ 68719476736) : Spec Tryz.prog g 165 [u] [A] fun K R => (getF b = none → K (.tuple #[.slice none 0 0, .int .i64 0, .int .i64 4]) (A :: R)) ∧ (∀ rec many, getF b = some (rec, many) → ∀ a m c, K (.tuple #[.slice a m c, .int .i64 many, .int .i64 0]) (Sl 5 1 eB (.slice a m c) (rec) :: A :: R)) := by
  refine Spec.intro Tryz.func165 rfl Tryz.ntmps165 rfl fun R K hK => ?_
  refine WP.seq ?_
  refine WP.reg ?_
  refine WL.e e_assign <| WL.e e_assign <| WL.e e_assign ?_
  refine WL.next ?_
  refine WP.seq ?_
  refine WP.seq ?_
  refine WP.reg ?_
  refine WL.e e_move ?_
  refine WL.e (el_len sl114 hA) <| WL.e e_lss ?_
  refine WL.next ?_
  refine WP.cond rfl (fun h1 => ?_) (fun h1 => ?_)
  · replace h1 : b.length < 8 := by simp at h1; omega
    refine WP.seq ?_
    refine WP.reg ?_
    refine WL.e e_assign <| WL.e e_assign <| WL.e e_assign ?_
    refine WL.next ?_
    refine WP.ret ?_
    refine PO.past nofun ?_
    exact PO.fin Tryz.results165 (rv_tmp (rv_tmp (rv_tmp rv_nil))) (hK.1 (by simp [getF, h1]))
  · replace h1 : ¬ b.length < 8 := by simp at h1; omega
    have hA4 : RL A 1 eB (subV u 0 4 none 1) (b.take 4) := RL.to_ eB_ok hA (by omega)
    have hl4 : (b.take 4).length = 4 := by simp; omega
    refine WP.skip ?_
    refine PO.next ?_
    refine WP.seq ?_
    refine WP.reg ?_
    refine WL.e e_assign ?_
    refine WL.next ?_
    refine WP.seq ?_
    refine WP.seq ?_
    refine WP.reg ?_
    refine WL.e e_move ?_
    refine WL.e (el_to (hi := 4) sl114 hA (by omega)) ?_
    refine WL.e (el_len sl114 hA4) <| WL.e e_move ?_
    refine WL.next ?_
    refine WP.block ?_
    refine WP.loopK (fun (x : Nat × UInt32) => [(17, .int .i64 x.1), (5, .int .u32 x.2.toNat)]) (fun (x : Nat × UInt32) => A :: R) [(0, _), (2, _), (3, _), (4, _), (15, _), (16, _)] (fun (x : Nat × UInt32) => x.1 ≤ 4 ∧ x.2 = beN ((b.take 4).take x.1)) (fun (x : Nat × UInt32) => 4 - x.1) (0, 0) (⟨by omega, by simp [beN]⟩) ?_
    rintro ⟨x, n⟩ ⟨hx1, hx2⟩
    simp only at hx1 hx2
    dsimp only
    refine WP.seq ?_
    refine WP.reg ?_
    refine WL.e e_lss ?_
    refine WL.next ?_
    refine WP.seq ?_
    refine WP.cond rfl (fun h2 => ?_) (fun h2 => ?_)
    · have hlt : x < (b.take 4).length := by simp at h2; omega
      obtain ⟨c, hc⟩ : ∃ c, (b.take 4)[x]? = some c := ⟨_, List.getElem?_eq_getElem hlt⟩
      refine WP.skip ?_
      refine PO.next ?_
      refine WP.seq ?_
      refine WP.block ?_
      refine WP.seq ?_
      refine WP.reg ?_
      refine WL.e (el_ia sl114 hA4 hlt) ?_
      refine WL.e (el_load0 a5 eB_ok hA4 hc) <| WL.e e_assign ?_
      refine WL.next ?_
      refine WP.reg ?_
      refine WL.e e_move <| WL.e (e_shl32 (m := 8) (by decide)) <| WL.e e_move <| WL.e (e_c8to32 (by rw [Tryz.underlying5]; rfl) Tryz.underlying22) <| WL.e e_or32 <| WL.e e_assign ?_
      refine WL.nil ?_
      refine PO.blockN ?_
      refine PO.next ?_
      refine WP.reg ?_
      refine WL.e (e_add rfl rfl (w_i64 (by omega) (by omega))) <| WL.e e_move ?_
      refine WL.nil ?_
      exact PO.againK (x + 1, (n <<< 8) ||| c.toUInt32) ⟨by simp only; omega, by simp only; rw [take_snoc hc, beN, List.foldl_append, ← beN, ← hx2]; rfl⟩ (by simp only; omega)
    · obtain rfl : n = beN (b.take 4) := by rw [hx2, List.take_of_length_le (by simp at h2; omega)]
      clear hx2
      refine WP.exit ?_
      refine PO.past nofun ?_
      refine PO.round nofun ?_
      refine PO.blockX ?_
      refine PO.next ?_
      refine WP.seq ?_
      refine WP.seq ?_
      refine WP.reg ?_
      refine WL.e e_move <| WL.e (e_gtr32 (b := 16384)) ?_
      refine WL.next ?_
      refine WP.cond rfl (fun h3 => ?_) (fun h3 => ?_)
      · replace h3 : 16384 < (beN (b.take 4)).toNat := by simpa [UInt32.lt_iff_toNat_lt] using h3
        refine WP.seq ?_
        refine WP.reg ?_
        refine WL.e e_assign <| WL.e e_assign <| WL.e e_assign ?_
        refine WL.next ?_
        refine WP.ret ?_
        refine PO.past nofun ?_
        exact PO.fin Tryz.results165 (rv_tmp (rv_tmp (rv_tmp rv_nil))) (hK.1 (by simp [getF, h1, h3]))
      · replace h3 : ¬ 16384 < (beN (b.take 4)).toNat := by simpa [UInt32.lt_iff_toNat_lt] using h3
        obtain ⟨n, hn⟩ : ∃ n, n = (beN (b.take 4)).toNat := ⟨_, rfl⟩
        rw [← hn] at h3
        rw [← hn]
        have hs1 := secs_le n
        have hs2 := secs_ub n
        refine WP.skip ?_
        refine PO.next ?_
        refine WP.seq ?_
        refine WP.reg ?_
        refine WL.e e_move <| WL.e (e_conv (c := (n : Int)) (by rw [Tryz.underlying22]; rfl) Tryz.underlying3 rfl (w_i64 (by omega) (by omega))) <| WL.e (e_add (c := ((8 + n : Nat) : Int)) rfl rfl (by rw [w_i64 (by omega) (by omega)]; omega)) <| WL.e e_assign ?_
        refine WL.next ?_
        refine WP.seq ?_
        refine WP.reg ?_
        refine WL.e e_move <| WL.e (e_conv (c := (n : Int)) (by rw [Tryz.underlying22]; rfl) Tryz.underlying3 rfl (w_i64 (by omega) (by omega))) ?_
        refine WL.h (h_call (sectors_spec n (by omega)) k146 ?_)
        refine WL.e e_assign ?_
        refine WL.next ?_
        refine WP.seq ?_
        refine WP.seq ?_
        refine WP.reg ?_
        refine WL.e e_move <| WL.e (e_mul (c := ((secs n * 64 : Nat) : Int)) rfl rfl (by rw [w_i64 (by omega) (by omega)]; omega)) <| WL.e e_move ?_
        refine WL.e (el_len sl114 hA) <| WL.e e_gtr ?_
        refine WL.next ?_
        refine WP.cond rfl (fun h4 => ?_) (fun h4 => ?_)
        · replace h4 : b.length < secs n * 64 := by simp at h4; omega
          refine WP.seq ?_
          refine WP.reg ?_
          refine WL.e e_assign <| WL.e e_assign <| WL.e e_assign ?_
          refine WL.next ?_
          refine WP.ret ?_
          refine PO.past nofun ?_
          exact PO.fin Tryz.results165 (rv_tmp (rv_tmp (rv_tmp rv_nil))) (hK.1 (by simp [getF, h1, ← hn, h3, h4]))
        · replace h4 : ¬ b.length < secs n * 64 := by simp at h4; omega
          have hA8 : RL A 1 eB (subV u 8 (8 + n) (some (8 + n)) 1) ((b.drop 8).take n) := by have := RL.sub (lo := 8) (hi := 8 + n) (mx := some (8 + n)) eB_ok hA (by omega) (by omega) (by rintro m ⟨⟩; omega); rwa [show 8 + n - 8 = n by omega] at this
          refine WP.skip ?_
          refine PO.next ?_
          refine WP.seq ?_
          refine WP.reg ?_
          refine WL.e e_move <| WL.e e_move <| WL.e e_move ?_
          refine WL.e (el_fromto3 (lo := 8) (hi := 8 + n) sl114 hA (by omega) (by omega)) ?_
          refine WL.h (h_call (CloneB_spec hA8 (by simp; omega)) k163 ?_)
          intro a6 n6 c6
          refine WL.e e_assign ?_
          refine WL.next ?_
          refine WP.seq ?_
          refine WP.reg ?_
          refine WL.e e_move ?_
          refine WL.h (h_call (Put_spec (b := (b.drop 8).take n) sl_rl) k104 ?_)
          refine ⟨fun hx => absurd hx (by simp; omega), fun _ a7 n7 c7 => ?_⟩
          refine WL.e e_move <| WL.e e_extract <| WL.e e_extract <| WL.e e_assign <| WL.e e_assign ?_
          refine WL.next ?_
          refine WP.seq ?_
          refine WP.seq ?_
          refine WP.reg ?_
          refine WL.e e_move <| WL.e e_move <| WL.e e_move <| WL.e (e_mul (c := ((secs n * 64 : Nat) : Int)) rfl rfl (by rw [w_i64 (by omega) (by omega)]; omega)) ?_
          refine WL.e (el_to (hi := secs n * 64) sl114 hA (by omega)) ?_
          refine WL.h (h_call (EqualB_spec (xs := frame ((b.drop 8).take n)) sl_rl (RL.to_ (hi := secs n * 64) eB_ok hA (by omega)) (by rw [frame_len, show ((b.drop 8).take n).length = n by simp; omega]; omega)) k198 ?_)
          refine WL.e e_not ?_
          refine WL.next ?_
          refine WP.cond rfl (fun h5 => ?_) (fun h5 => ?_)
          · skip
            refine WP.seq ?_
            refine WP.reg ?_
            refine WL.e e_assign <| WL.e e_assign <| WL.e e_assign ?_
            refine WL.next ?_
            refine WP.ret ?_
            refine PO.past nofun ?_
            exact PO.fin Tryz.results165 (rv_tmp (rv_tmp (rv_tmp rv_nil))) (hK.1 (by simp at h5; simp [getF, h1, ← hn, h3, h4, h5]))
          · skip
            refine WP.skip ?_
            refine PO.next ?_
            refine WP.seq ?_
            refine WP.reg ?_
            refine WL.e e_move <| WL.e e_move <| WL.e e_assign <| WL.e e_assign <| WL.e e_assign ?_
            refine WL.next ?_
            refine WP.ret ?_
            exact PO.fin Tryz.results165 (rv_tmp (rv_tmp (rv_tmp rv_nil))) (hK.2 ((b.drop 8).take n) (secs n) (by simp at h5; simp [getF, h1, ← hn, h3, h4, h5]) a6 n6 c6)
end Go.SL
/- What the functions compute, in plain Lean: disks. -/
set_option linter.unusedSimpArgs false
set_option linter.unusedVariables false
set_option linter.unusedSectionVars false
namespace Go.SL
open Go
/-- A piece: 64 bytes. -/
def pad (b : List UInt8) : List UInt8 := b.take 64 ++ List.replicate (64 - b.length) 0
theorem pad_len (b : List UInt8) : (pad b).length = 64 := by simp [pad]; omega
theorem pad_id {b : List UInt8} (h : b.length = 64) : pad b = b := by simp [pad, h, List.take_of_length_le]
theorem pad_pad (b : List UInt8) : pad (pad b) = pad b := pad_id (pad_len b)
def pieceC (p : List UInt8) : List Value := (pad p).flatMap eB
theorem pieceC_pad (p : List UInt8) : pieceC (pad p) = pieceC p := by simp [pieceC, pad_pad]
theorem pieceE : EncOk 64 pieceC := ⟨fun p => by simp [pieceC, flat_len eB_ok, pad_len], fun p => ones_flat eB_ok _⟩
def waitC (w : Nat × List UInt8) : List Value := .int .i64 w.1 :: pieceC w.2
theorem waitE : EncOk 65 waitC := ⟨fun p => by simp [waitC, pieceE.len], fun p => by simp [waitC, ones, pieceE.one]; rfl⟩
theorem piece0 : pieceC (List.replicate 64 0) = List.replicate 64 (.int .u8 0) := by rw [pieceC, pad_id (by simp)]; rfl
theorem rl_piece {A : HP} {u : Value} {xs : List (List UInt8)} {i : Nat} {b : List UInt8} (h : RL A 64 pieceC u xs) (hb : xs[i]? = some b) : RL A 1 eB (slA u (i * 64) 64) (pad b) := by
  have hlt := idx_lt hb
  have := rd_el (k := i * 64) (n := 64) (z1 := 1) h (by omega) (by decide)
  rw [show 64 * 1 = 64 from rfl, flat_el pieceE hb] at this
  unfold RL; rw [pad_len]; exact this
structure DiskM where
  sure : List (List UInt8)
  seen : List (List UInt8)
  waits : List (Nat × List UInt8)
def newDisk (n : Nat) : DiskM := ⟨List.replicate n (List.replicate 64 0), List.replicate n (List.replicate 64 0), []⟩
def DiskM.write (d : DiskM) (i : Nat) (b : List UInt8) : DiskM := { d with seen := d.seen.set i (pad b), waits := d.waits ++ [(i, pad b)] }
def DiskM.sync (d : DiskM) : DiskM := ⟨d.seen, d.seen, []⟩
theorem copy_piece (b : List UInt8) (h : b.length ≤ 64) : splice (List.replicate 64 (.int .u8 0)) 0 ((b.flatMap eB).take (Nat.min b.length 64 * 1)) = pieceC b := by
  have hm : Nat.min b.length 64 = b.length := Nat.min_eq_left h
  rw [hm, Nat.mul_one, List.take_of_length_le (by rw [flat_len eB_ok]; omega), splice_eq _ _ _ (by rw [flat_len eB_ok]; simp; omega), flat_len eB_ok]
  simp only [pieceC, pad, List.take_of_length_le h, List.flatMap_append, List.take_zero, List.nil_append, Nat.zero_add, Nat.mul_one, List.drop_replicate]
  congr 1
  generalize 64 - b.length = k
  induction k with
  | zero => rfl
  | succ k ih => rw [List.replicate_succ, List.replicate_succ, List.flatMap_cons, ih]; rfl
end Go.SL
set_option linter.unusedSimpArgs false
set_option linter.unusedVariables false
namespace Go.SL.W4
open Go Go.Proofs Go.SL
theorem a146 : aggOf Tryz.prog 146 = some none := by kernel_rfl
theorem a149 : aggOf Tryz.prog 149 = some (some 64) := by kernel_rfl
theorem a150 : aggOf Tryz.prog 150 = some none := by kernel_rfl
theorem ar149 : arrOf Tryz.prog 149 = some (5, 64, 1) := by kernel_rfl
theorem f152_0 : fldOf Tryz.prog 152 0 = some 0 := by kernel_rfl
theorem f152_1 : fldOf Tryz.prog 152 1 = some 1 := by kernel_rfl
theorem f152_2 : fldOf Tryz.prog 152 2 = some 2 := by kernel_rfl
theorem k150 : callable Tryz.prog 150 = true := by kernel_rfl
theorem k163 : callable Tryz.prog 163 = true := by kernel_rfl
theorem k78 : callable Tryz.prog 78 = true := by kernel_rfl
theorem mixedOk : Tryz.prog.follows .mixedOrders = true := by kernel_rfl
theorem p152 : placesOf Tryz.prog 152 = some [(0, 1), (1, 1), (2, 1)] := by kernel_rfl
theorem p154 : placesOf Tryz.prog 154 = some [(0, 1), (1, 64)] := by kernel_rfl
theorem pt23 : isPtr Tryz.prog 23 = true := by kernel_rfl
theorem s149 : szOf Tryz.prog 149 = some 64 := by kernel_rfl
theorem s150 : szOf Tryz.prog 150 = some 1 := by kernel_rfl
theorem sl114 : slOf Tryz.prog 114 = some (5, 1, 1) := by kernel_rfl
theorem sl146 : slOf Tryz.prog 146 = some (149, 64, 64) := by kernel_rfl
theorem sl150 : slOf Tryz.prog 150 = some (154, 65, 72) := by kernel_rfl
theorem z149 : zeroOf Tryz.prog 149 = some (List.replicate 64 (.int .u8 0)) := by kernel_rfl
theorem z152 : zeroOf Tryz.prog 152 = some [.slice none 0 0, .slice none 0 0, .slice none 0 0] := by kernel_rfl
theorem z154 : zeroOf Tryz.prog 154 = some [.int .i64 0, .int .u8 0, .int .u8 0, .int .u8 0, .int .u8 0, .int .u8 0, .int .u8 0, .int .u8 0, .int .u8 0, .int .u8 0, .int .u8 0, .int .u8 0, .int .u8 0, .int .u8 0, .int .u8 0, .int .u8 0, .int .u8 0, .int .u8 0, .int .u8 0, .int .u8 0, .int .u8 0, .int .u8 0, .int .u8 0, .int .u8 0, .int .u8 0, .int .u8 0, .int .u8 0, .int .u8 0, .int .u8 0, .int .u8 0, .int .u8 0, .int .u8 0, .int .u8 0, .int .u8 0, .int .u8 0, .int .u8 0, .int .u8 0, .int .u8 0, .int .u8 0, .int .u8 0, .int .u8 0, .int .u8 0, .int .u8 0, .int .u8 0, .int .u8 0, .int .u8 0, .int .u8 0, .int .u8 0, .int .u8 0, .int .u8 0, .int .u8 0, .int .u8 0, .int .u8 0, .int .u8 0, .int .u8 0, .int .u8 0, .int .u8 0, .int .u8 0, .int .u8 0, .int .u8 0, .int .u8 0, .int .u8 0, .int .u8 0, .int .u8 0, .int .u8 0] := by kernel_rfl
end Go.SL.W4
namespace Go.SL
open Go Go.Proofs W4
def Dk (p : Nat) (d : DiskM) : HP := fun S => ∃ x : SV × SV × SV, stars [cl p 152 [x.1.v, x.2.1.v, x.2.2.v], Sl 149 64 pieceC x.1.v d.sure, Sl 149 64 pieceC x.2.1.v d.seen, Sl 154 65 waitC x.2.2.v d.waits] S
theorem Dk_op {p : Nat} {d : DiskM} : ∀ S, Dk p d S → ∃ x : SV × SV × SV, stars [cl p 152 [x.1.v, x.2.1.v, x.2.2.v], Sl 149 64 pieceC x.1.v d.sure, Sl 149 64 pieceC x.2.1.v d.seen, Sl 154 65 waitC x.2.2.v d.waits] S := fun _ h => h
theorem New_spec {g : World} (n : Nat) (hn : n < 4294967296) : Spec Tryz.prog g 45 [.int .i64 n] [] fun K R => ((n < 1 ∨ 4096 < n) → K (.tuple #[.pointer none, .int .i64 1]) R) ∧ (¬ n < 1 → ¬ 4096 < n → ∀ p, K (.tuple #[.pointer (some ⟨p, 0, none⟩), .int .i64 0]) (Dk p (newDisk n) :: R)) := by
  refine Spec.intro Tryz.func45 rfl Tryz.ntmps45 rfl fun R K hK => ?_
  refine WP.seq ?_
  refine WP.reg ?_
  refine WL.e e_assign <| WL.e e_assign ?_
  refine WL.next ?_
  refine WP.seq ?_
  refine WP.seq ?_
  refine WP.reg ?_
  refine WL.e e_move <| WL.e e_lss <| WL.e e_move ?_
  refine WL.bool 6 rfl (fun h1 => ?_) (fun h1 => ?_)
  · replace h1 : n < 1 := by simp at h1; omega
    refine WL.skip <| WL.skip <| WL.e e_pick_t ?_
    refine WL.next ?_
    refine WP.cond_t rfl ?_
    refine WP.seq ?_
    refine WP.reg ?_
    refine WL.e e_assign <| WL.e e_assign ?_
    refine WL.next ?_
    refine WP.ret ?_
    refine PO.past nofun ?_
    exact PO.fin Tryz.results45 (rv_tmp (rv_tmp rv_nil)) (hK.1 (.inl h1))
  · replace h1 : ¬ n < 1 := by simp at h1; omega
    refine WL.e e_move <| WL.e e_gtr <| WL.e e_pick_f ?_
    refine WL.next ?_
    refine WP.cond rfl (fun h2 => ?_) (fun h2 => ?_)
    · replace h2 : 4096 < n := by simp at h2; omega
      refine WP.seq ?_
      refine WP.reg ?_
      refine WL.e e_assign <| WL.e e_assign ?_
      refine WL.next ?_
      refine WP.ret ?_
      refine PO.past nofun ?_
      exact PO.fin Tryz.results45 (rv_tmp (rv_tmp rv_nil)) (hK.1 (.inr h2))
    · replace h2 : ¬ 4096 < n := by simp at h2; omega
      refine WP.skip ?_
      refine PO.next ?_
      refine WP.seq ?_
      refine WP.draws mixedOk 8 ?_
      refine RW.e 0 rfl e_move <| RW.e 2 rfl e_move ?_
      refine RW.any (is := [1, 3]) rfl ⟨?_, ?_, trivial⟩
      · skip
        refine RWat.h rfl rfl rfl ?_
        refine (hl_make (enc := pieceC) (n := n) (List.replicate 64 0) sl146 z149 (by omega) (fun a1 n1 c1 => ?_) (hzz := by simp) (ha := piece0))
        refine ⟨⟨⟨_, rfl, .inl ⟨rfl, e_move⟩⟩, trivial⟩, ?_⟩
        refine RW.any (is := [3]) rfl ⟨?_, trivial⟩
        refine RWat.h rfl rfl rfl ?_
        refine (hl_make (enc := pieceC) (n := n) (List.replicate 64 0) sl146 z149 (by omega) (fun a2 n2 c2 => ?_) (hzz := by simp) (ha := piece0))
        refine ⟨trivial, ?_⟩
        refine RW.e 4 rfl (e_build z152 p152 (.o (.tmp 11) rfl <| .o (.tmp 13) rfl <| .z (.slice none 0 0) <| .n)) ?_
        refine RW.any (is := [5]) rfl ⟨?_, trivial⟩
        refine RWat.h rfl rfl rfl ?_
        refine (h_box fun b1 => ?_)
        refine ⟨trivial, ?_⟩
        refine RW.e 6 rfl e_assign <| RW.e 7 rfl e_assign ?_
        refine RW.done ?_
        refine PO.next ?_
        refine WP.ret ?_
        refine PO.nils 154 65 waitC none ?_
        refine PO.cls (A := Dk b1 (newDisk n)) (fun S h => ⟨(⟨a1, n1, c1⟩, ⟨a2, n2, c2⟩, ⟨none, 0, 0⟩), h⟩) ?_ (B := [cl b1 152 [.slice a1 n1 c1, .slice a2 n2 c2, .slice none 0 0], Sl 149 64 pieceC (.slice a1 n1 c1) (newDisk n).sure, Sl 149 64 pieceC (.slice a2 n2 c2) (newDisk n).seen, Sl 154 65 waitC (.slice none 0 0) []])
        exact PO.fin Tryz.results45 (rv_tmp (rv_tmp rv_nil)) (hK.2 h1 h2 b1)
      · skip
        refine RWat.h rfl rfl rfl ?_
        refine (hl_make (enc := pieceC) (n := n) (List.replicate 64 0) sl146 z149 (by omega) (fun a2 n2 c2 => ?_) (hzz := by simp) (ha := piece0))
        refine ⟨⟨⟨_, rfl, .inl ⟨rfl, e_move⟩⟩, trivial⟩, ?_⟩
        refine RW.any (is := [1]) rfl ⟨?_, trivial⟩
        refine RWat.h rfl rfl rfl ?_
        refine (hl_make (enc := pieceC) (n := n) (List.replicate 64 0) sl146 z149 (by omega) (fun a1 n1 c1 => ?_) (hzz := by simp) (ha := piece0))
        refine ⟨trivial, ?_⟩
        refine RW.e 4 rfl (e_build z152 p152 (.o (.tmp 11) rfl <| .o (.tmp 13) rfl <| .z (.slice none 0 0) <| .n)) ?_
        refine RW.any (is := [5]) rfl ⟨?_, trivial⟩
        refine RWat.h rfl rfl rfl ?_
        refine (h_box fun b2 => ?_)
        refine ⟨trivial, ?_⟩
        refine RW.e 6 rfl e_assign <| RW.e 7 rfl e_assign ?_
        refine RW.done ?_
        refine PO.next ?_
        refine WP.ret ?_
        refine PO.nils 154 65 waitC none ?_
        refine PO.cls (A := Dk b2 (newDisk n)) (fun S h => ⟨(⟨a1, n1, c1⟩, ⟨a2, n2, c2⟩, ⟨none, 0, 0⟩), h⟩) ?_ (B := [cl b2 152 [.slice a1 n1 c1, .slice a2 n2 c2, .slice none 0 0], Sl 149 64 pieceC (.slice a1 n1 c1) (newDisk n).sure, Sl 149 64 pieceC (.slice a2 n2 c2) (newDisk n).seen, Sl 154 65 waitC (.slice none 0 0) []])
        exact PO.fin Tryz.results45 (rv_tmp (rv_tmp rv_nil)) (hK.2 h1 h2 b2)
theorem Size_spec {g : World} {p : Nat} {d : DiskM} : Spec Tryz.prog g 78 [.pointer (some ⟨p, 0, none⟩)] [Dk p d] fun K R => K (.int .i64 d.sure.length) (Dk p d :: R) := by
  refine Spec.intro Tryz.func78 rfl Tryz.ntmps78 rfl fun R K hK => ?_
  refine WP.seq ?_
  refine WP.reg ?_
  refine WL.e e_assign ?_
  refine WL.next ?_
  refine WP.seq ?_
  refine WP.seq ?_
  refine WP.reg ?_
  refine WL.e e_move <| WL.e (e_peq pt23) ?_
  refine WL.next ?_
  refine WP.cond rfl (fun h => ?_) (fun h => ?_)
  · cases h
  · refine WP.opn (Dk_op (p := p) (d := d)) fun x => ?_
    obtain ⟨s1, s2, s3⟩ := x
    dsimp only
    refine WP.skip ?_
    refine PO.next ?_
    refine WP.seq ?_
    refine WP.reg ?_
    refine WL.e e_move <| WL.e e_nil <| WL.e (e_fa f152_0) <| WL.e (e_load a146) ?_
    refine WL.e (el_len sl146 (sl_rl (xs := d.sure))) <| WL.e e_assign ?_
    refine WL.next ?_
    refine WP.ret ?_
    refine PO.cls (A := Dk p d) (B := [cl p 152 [s1.v, s2.v, s3.v], Sl 149 64 pieceC s1.v d.sure, Sl 149 64 pieceC s2.v d.seen, Sl 154 65 waitC s3.v d.waits]) (fun S h => ⟨(s1, s2, s3), h⟩) ?_
    exact PO.fin Tryz.results78 (rv_tmp rv_nil) hK
theorem Dmay_spec {g : World} {p : Nat} {d : DiskM} (i : Nat) (hi : i < d.sure.length) : Spec Tryz.prog g 150 [.pointer (some ⟨p, 0, none⟩), .int .i64 i] [Dk p d] fun K R => K (.int .i64 0) (Dk p d :: R) := by
  refine Spec.intro Tryz.func150 rfl Tryz.ntmps150 rfl fun R K hK => ?_
  refine WP.seq ?_
  refine WP.reg ?_
  refine WL.e e_assign ?_
  refine WL.next ?_
  refine WP.seq ?_
  refine WP.block ?_
  refine WP.seq ?_
  refine WP.reg ?_
  refine WL.e e_move ?_
  refine WL.h (h_call (Size_spec) k78 ?_)
  refine WL.e e_eql <| WL.e e_assign ?_
  refine WL.next ?_
  refine WP.cond rfl (fun h => ?_) (fun h => ?_)
  · rw [beq_iff_eq] at h; omega
  · skip
    refine WP.seq ?_
    refine WP.reg ?_
    refine WL.e e_move <| WL.e e_lss <| WL.e e_move ?_
    refine WL.bool 12 rfl (fun h1 => ?_) (fun h1 => ?_)
    · rw [decide_eq_true_eq] at h1; omega -- end
    · skip
      refine WL.e e_move <| WL.e e_move ?_
      refine WL.h (h_call (Size_spec) k78 ?_)
      refine WL.e e_geq <| WL.e e_pick_f <| WL.e e_assign ?_
      refine WL.next ?_
      refine WP.cond rfl (fun h2 => ?_) (fun h2 => ?_)
      · rw [decide_eq_true_eq] at h2; omega
      · skip
        refine WP.skip ?_
        refine PO.blockN ?_
        refine PO.next ?_
        refine WP.seq ?_
        refine WP.reg ?_
        refine WL.e e_assign ?_
        refine WL.next ?_
        refine WP.ret ?_
        exact PO.fin Tryz.results150 (rv_tmp rv_nil) hK
theorem Write_spec {g : World} {A : HP} {p : Nat} {d : DiskM} {u : Value} {b : List UInt8} (i : Nat) (hA : RL A 1 eB u b) (hi : i < d.sure.length) (hd : d.seen.length = d.sure.length) (hl : d.sure.length ≤ 4096) (hb : b.length ≤ 64) (hw : d.waits.length < 4294967296) : Spec Tryz.prog g 106 [.pointer (some ⟨p, 0, none⟩), .int .i64 i, u] [Dk p d, A] fun K R => K (.int .i64 0) (Dk p (d.write i b) :: A :: R) := by
  refine Spec.intro Tryz.func106 rfl Tryz.ntmps106 rfl fun R K hK => ?_
  refine WP.seq ?_
  refine WP.reg ?_
  refine WL.e e_assign ?_
  refine WL.next ?_
  refine WP.seq ?_
  refine WP.seq ?_
  refine WP.reg ?_
  refine WL.e e_move <| WL.e e_move ?_
  refine WL.h (h_call (Dmay_spec (d := d) i hi) k150 ?_)
  refine WL.e e_assign ?_
  refine WL.next ?_
  refine WP.seq ?_
  refine WP.reg ?_
  refine WL.e e_move <| WL.e e_neq ?_
  refine WL.next ?_
  refine WP.cond_f rfl ?_
  refine WP.skip ?_
  refine PO.next ?_
  refine WP.seq ?_
  refine WP.seq ?_
  refine WP.reg ?_
  refine WL.e e_move ?_
  refine WL.e (el_len sl114 hA) <| WL.e e_gtr ?_
  refine WL.next ?_
  refine WP.cond rfl (fun h => ?_) (fun h => ?_)
  · rw [decide_eq_true_eq] at h; omega
  · skip
    refine WP.skip ?_
    refine PO.next ?_
    refine WP.seq ?_
    refine WP.reg ?_
    refine WL.opn (Dk_op (p := p) (d := d)) fun x => ?_
    obtain ⟨s1, s2, s3⟩ := x
    dsimp only
    refine WL.h (h_alloc z149 fun b1 => ?_)
    refine WL.next ?_
    refine WP.seq ?_
    refine WP.reg ?_
    refine WL.e (e_slice_arr ar149 rfl (.inl ⟨rfl, rfl⟩) (.inl ⟨rfl, rfl⟩) (by omega) (by omega)) <| WL.e e_move ?_
    refine WL.h (h_copy (T := 114) (l := List.replicate 64 (.int .u8 0)) (n := 64) (c := 64) (o := 0) sl114 ((At.lit (b := b1) (o := 0) (Nat.le_refl 64)).sub (Nat.zero_le _) (Nat.le_refl _) (Nat.le_refl _)) (by simp) hA (ones_take _ (ones_flat eB_ok b)) ?_)
    rw [copy_piece b hb, ← pieceC_pad]
    refine WL.next ?_
    refine WP.seq ?_
    refine WP.draws mixedOk 8 ?_
    refine RW.e 0 rfl e_move <| RW.e 1 rfl e_nil <| RW.e 2 rfl (e_fa f152_1) <| RW.e 3 rfl (e_load a146) <| RW.e 4 rfl e_move <| RW.e 5 rfl (e_loadW (l := pieceC (pad b)) a149 (pieceE.len _)) ?_
    refine RW.e 6 rfl (el_ia (j := i) (xs := d.seen) sl146 sl_rl (by omega)) ?_
    refine RW.any (is := [7]) rfl ⟨?_, trivial⟩
    refine RWat.h' rfl rfl rfl ?_
    refine (hl_store (xs := d.seen) (j := i) (pad b) s149 pieceE (by omega) ?_)
    refine ⟨trivial, ?_⟩
    refine RW.done ?_
    refine PO.next ?_
    refine WP.seq ?_
    refine WP.draws mixedOk 13 ?_
    refine RW.e 0 rfl e_move <| RW.e 1 rfl e_move <| RW.e 2 rfl e_nil <| RW.e 3 rfl (e_fa f152_2) <| RW.e 4 rfl (e_load a150) <| RW.e 5 rfl e_move <| RW.e 6 rfl (e_loadW (l := pieceC (pad b)) a149 (pieceE.len _)) <| RW.e 7 rfl (e_build_pair z154 p154 (pieceE.len _)) ?_
    refine RW.any (is := [8]) rfl ⟨?_, trivial⟩
    refine RWat.h rfl rfl rfl ?_
    refine (h_bs1 (cs := waitC (i, pad b)) sl150 z154 (waitE.len _) (fun b5 => ?_))
    refine ⟨⟨⟨_, rfl, .inl ⟨rfl, (e_load a150)⟩⟩, ⟨_, rfl, .inl ⟨rfl, (e_fa f152_2)⟩⟩, ⟨_, rfl, .inl ⟨rfl, e_nil⟩⟩, ⟨_, rfl, .inl ⟨rfl, e_move⟩⟩, ⟨_, rfl, .inl ⟨rfl, e_move⟩⟩, trivial⟩, ?_⟩
    refine RW.any (is := [9]) rfl ⟨?_, trivial⟩
    refine RWat.h rfl rfl rfl ?_
    refine (hl_append (xs := d.waits) (ys := [(i, pad b)]) sl150 waitE z154 (lit_rl waitE [(i, pad b)] (show [(i, pad b)].flatMap waitC = waitC (i, pad b) by simp)) (by simp; omega) (fun a6 n6 c6 => ?_))
    refine ⟨⟨⟨_, rfl, .inl ⟨rfl, e_move⟩⟩, trivial⟩, ?_⟩
    refine RW.e 10 rfl e_nil <| RW.e 11 rfl (e_fa f152_2) ?_
    refine RW.any (is := [12]) rfl ⟨?_, trivial⟩
    refine RWat.h' rfl rfl rfl ?_
    refine (h_store s150 ?_)
    refine ⟨trivial, ?_⟩
    refine RW.done ?_
    refine PO.next ?_
    refine WP.seq ?_
    refine WP.reg ?_
    refine WL.e e_assign ?_
    refine WL.next ?_
    refine WP.ret ?_
    refine PO.cls (A := Dk p (d.write i b)) (B := [cl p 152 [s1.v, s2.v, .slice a6 n6 c6], Sl 149 64 pieceC s1.v d.sure, Sl 149 64 pieceC s2.v (d.seen.set i (pad b)), Sl 154 65 waitC (.slice a6 n6 c6) (d.waits ++ [(i, pad b)])]) (fun S h => ⟨(s1, s2, ⟨a6, n6, c6⟩), h⟩) ?_
    exact PO.fin Tryz.results106 (rv_tmp rv_nil) hK
theorem Sync_spec {g : World} {p : Nat} {d : DiskM} (h0 : 0 < d.sure.length) (hd : d.seen.length = d.sure.length) : Spec Tryz.prog g 107 [.pointer (some ⟨p, 0, none⟩)] [Dk p d] fun K R => K (.int .i64 0) (Dk p d.sync :: R) := by
  refine Spec.intro Tryz.func107 rfl Tryz.ntmps107 rfl fun R K hK => ?_
  refine WP.seq ?_
  refine WP.reg ?_
  refine WL.e e_assign ?_
  refine WL.next ?_
  refine WP.seq ?_
  refine WP.seq ?_
  refine WP.reg ?_
  refine WL.e e_move ?_
  refine WL.h (h_call (Size_spec) k78 ?_)
  refine WL.e e_eql ?_
  refine WL.next ?_
  refine WP.cond rfl (fun h => ?_) (fun h => ?_)
  · rw [beq_iff_eq] at h; omega
  · refine WP.opn (Dk_op (p := p) (d := d)) fun x => ?_
    obtain ⟨s1, s2, s3⟩ := x
    dsimp only
    refine WP.skip ?_
    refine PO.next ?_
    refine WP.seq ?_
    refine WP.draws mixedOk 9 ?_
    refine RW.e 0 rfl e_move <| RW.e 1 rfl e_nil <| RW.e 2 rfl (e_fa f152_0) <| RW.e 3 rfl (e_load a146) <| RW.e 4 rfl e_move <| RW.e 5 rfl e_nil <| RW.e 6 rfl (e_fa f152_1) <| RW.e 7 rfl (e_load a146) ?_
    refine RW.any (is := [8]) rfl ⟨?_, trivial⟩
    refine RWat.h rfl rfl rfl ?_
    refine (hl_copy0 (u := s1.v) (xs := d.sure) sl146 pieceE (sl_rl (xs := d.seen)) ?_)
    rw [show over d.sure 0 d.seen = d.seen by simp [over, ← hd]]
    refine ⟨trivial, ?_⟩
    refine RW.done ?_
    refine PO.next ?_
    refine WP.seq ?_
    refine WP.reg ?_
    refine WL.e e_move <| WL.e e_nil <| WL.e (e_fa f152_2) ?_
    refine WL.h' (h_store s150 ?_)
    refine WL.next ?_
    refine WP.seq ?_
    refine WP.reg ?_
    refine WL.e e_assign ?_
    refine WL.next ?_
    refine WP.ret ?_
    refine PO.nils 154 65 waitC none ?_
    refine PO.cls (A := Dk p d.sync) (B := [cl p 152 [s1.v, s2.v, .slice none 0 0], Sl 149 64 pieceC s1.v d.seen, Sl 149 64 pieceC s2.v d.seen, Sl 154 65 waitC (.slice none 0 0) []]) (fun S h => ⟨(s1, s2, ⟨none, 0, 0⟩), h⟩) ?_
    exact PO.fin Tryz.results107 (rv_tmp rv_nil) hK
theorem Read_spec {g : World} {p : Nat} {d : DiskM} (i : Nat) (b : List UInt8) (hi : i < d.sure.length) (hb : d.seen[i]? = some b) (h64 : b.length = 64) : Spec Tryz.prog g 131 [.pointer (some ⟨p, 0, none⟩), .int .i64 i] [Dk p d] fun K R => ∀ a m c, K (.tuple #[.slice a m c, .int .i64 0]) (Sl 5 1 eB (.slice a m c) b :: Dk p d :: R) := by
  refine Spec.intro Tryz.func131 rfl Tryz.ntmps131 rfl fun R K hK => ?_
  refine WP.seq ?_
  refine WP.reg ?_
  refine WL.e e_assign <| WL.e e_assign ?_
  refine WL.next ?_
  refine WP.seq ?_
  refine WP.seq ?_
  refine WP.reg ?_
  refine WL.e e_move <| WL.e e_move ?_
  refine WL.h (h_call (Dmay_spec (d := d) i hi) k150 ?_)
  refine WL.opn (Dk_op (p := p) (d := d)) fun x => ?_
  obtain ⟨s1, s2, s3⟩ := x
  dsimp only
  refine WL.e e_assign ?_
  refine WL.next ?_
  refine WP.seq ?_
  refine WP.reg ?_
  refine WL.e e_move <| WL.e e_neq ?_
  refine WL.next ?_
  refine WP.cond_f rfl ?_
  refine WP.skip ?_
  refine PO.next ?_
  refine WP.seq ?_
  refine WP.reg ?_
  refine WL.e e_move <| WL.e e_nil <| WL.e (e_fa f152_1) <| WL.e (e_load a146) <| WL.e e_move ?_
  refine WL.e (el_ia (j := i) (xs := d.seen) sl146 sl_rl (idx_lt hb)) ?_
  refine WL.e (e_slice_el (k := i * 64) (z := 64) ar149 (sl_rl (E := 149) (z := 64) (enc := pieceC) (u := s2.v) (xs := d.seen)) (by have := idx_lt hb; omega)) ?_
  refine WL.h (h_call (CloneB_spec (rl_piece (sl_rl (E := 149) (u := s2.v) (xs := d.seen)) hb) (by rw [pad_len]; omega)) k163 ?_)
  intro a9 n9 c9
  rw [pad_id h64]
  refine WL.e e_assign <| WL.e e_assign ?_
  refine WL.next ?_
  refine WP.ret ?_
  refine PO.cls (A := Dk p d) (B := [cl p 152 [s1.v, s2.v, s3.v], Sl 149 64 pieceC s1.v d.sure, Sl 149 64 pieceC s2.v d.seen, Sl 154 65 waitC s3.v d.waits]) (fun S h => ⟨(s1, s2, s3), h⟩) ?_
  exact PO.fin Tryz.results131 (rv_tmp (rv_tmp rv_nil)) (hK a9 n9 c9)
end Go.SL
/- What the functions compute, in plain Lean: walls. -/
set_option linter.unusedSimpArgs false
set_option linter.unusedVariables false
set_option linter.unusedSectionVars false
namespace Go.SL
open Go
/-- Pieces of bytes, written one behind the other. -/
def addW (d : DiskM) (i : Nat) (b : List UInt8) : Nat → DiskM
  | 0 => d
  | k + 1 => addW (d.write i (b.take 64)) (i + 1) (b.drop 64) k
/-- A disk as it should be. -/
structure DiskM.ok (d : DiskM) : Prop where
  pos : 0 < d.sure.length
  le : d.sure.length ≤ 4096
  len : d.seen.length = d.sure.length
  l1 : ∀ p ∈ d.sure, p.length = 64
  l2 : ∀ p ∈ d.seen, p.length = 64
theorem DiskM.ok.write {d : DiskM} (h : d.ok) (i : Nat) (b : List UInt8) : (d.write i b).ok :=
  ⟨h.pos, h.le, by simpa [DiskM.write] using h.len, h.l1, fun p hp => by
    rcases List.mem_or_eq_of_mem_set hp with h' | rfl
    · exact h.l2 p h'
    · exact pad_len b⟩
theorem DiskM.ok.sync {d : DiskM} (h : d.ok) : d.sync.ok := ⟨by simp [DiskM.sync, h.len, h.pos], by simp [DiskM.sync, h.len, h.le], rfl, h.l2, h.l2⟩
theorem newDisk_ok {n : Nat} (h1 : 0 < n) (h2 : n ≤ 4096) : (newDisk n).ok := by
  refine ⟨by simpa [newDisk] using h1, by simpa [newDisk] using h2, by simp [newDisk], ?_, ?_⟩ <;> intro p hp <;> simp [newDisk, List.mem_replicate] at hp <;> simp [hp.2]
theorem addW_ok : ∀ (k : Nat) (d : DiskM) (i : Nat) (b : List UInt8), d.ok → (addW d i b k).ok
  | 0, _, _, _, h => h
  | k + 1, d, i, b, h => addW_ok k _ _ _ (h.write i _)
theorem addW_len : ∀ (k : Nat) (d : DiskM) (i : Nat) (b : List UInt8), (addW d i b k).sure = d.sure ∧ (addW d i b k).waits.length = d.waits.length + k
  | 0, _, _, _ => ⟨rfl, rfl⟩
  | k + 1, d, i, b => by
    obtain ⟨h1, h2⟩ := addW_len k (d.write i (b.take 64)) (i + 1) (b.drop 64)
    exact ⟨h1, by rw [addW, h2]; simp [DiskM.write]; omega⟩
/-- What is no record is made noughts. -/
def cleanTo (all : List UInt8) (d : DiskM) (lo : Nat) : Nat → DiskM
  | 0 => d
  | k + 1 => if (all.drop ((lo + k) * 64)).take 64 = List.replicate 64 0 then cleanTo all d lo k else (cleanTo all d lo k).write (lo + k) (List.replicate 64 0)
theorem cleanTo_ok (all : List UInt8) (d : DiskM) (lo : Nat) : ∀ k, d.ok → (cleanTo all d lo k).ok ∧ (cleanTo all d lo k).sure = d.sure ∧ (cleanTo all d lo k).waits.length ≤ d.waits.length + k
  | 0, h => ⟨h, rfl, by simp [cleanTo]⟩
  | k + 1, h => by
    obtain ⟨h1, h2, h3⟩ := cleanTo_ok all d lo k h
    simp only [cleanTo]
    split
    · exact ⟨h1, h2, by omega⟩
    · exact ⟨h1.write _ _, h2, by simp [DiskM.write]; omega⟩
/-- The records that bytes begin with. -/
def recF : Nat → List UInt8 → List (List UInt8 × Nat)
  | 0, _ => []
  | k + 1, b => match getF b with
    | none => []
    | some (r, m) => (r, m) :: recF k (b.drop (m * 64))
def recs (b : List UInt8) : List (List UInt8 × Nat) := recF b.length b
theorem getF_some {b r : List UInt8} {m : Nat} (h : getF b = some (r, m)) : 0 < m ∧ m * 64 ≤ b.length ∧ m = secs r.length ∧ r.length ≤ 16384 ∧ frame r = b.take (m * 64) := by
  unfold getF at h
  split at h
  · cases h
  simp only at h
  split at h
  · cases h
  split at h
  · cases h
  split at h
  case isFalse => cases h
  cases h
  have := secs_le (beN (b.take 4)).toNat
  rename_i h1 h2 h3 h4
  have e : ((b.drop 8).take (beN (b.take 4)).toNat).length = (beN (b.take 4)).toNat := by simp; omega
  refine ⟨by omega, by omega, by rw [e], by omega, h4⟩
theorem recF_enough : ∀ (k j : Nat) (b : List UInt8), b.length ≤ k → b.length ≤ j → recF k b = recF j b
  | 0, 0, _, _, _ => rfl
  | 0, j + 1, b, h, _ => by
    have : b = [] := by simpa using h
    subst this; rfl
  | k + 1, 0, b, _, h => by
    have : b = [] := by simpa using h
    subst this; rfl
  | k + 1, j + 1, b, h1, h2 => by
    simp only [recF]
    cases hg : getF b with
    | none => rfl
    | some x =>
      obtain ⟨r, m⟩ := x
      obtain ⟨h3, h4, _⟩ := getF_some hg
      simp only
      rw [recF_enough k j _ (by simp; omega) (by simp; omega)]
theorem recs_none {b : List UInt8} (h : getF b = none) : recs b = [] := by
  unfold recs
  cases hb : b.length with
  | zero => rfl
  | succ k => simp [recF, h]
theorem recs_some {b r : List UInt8} {m : Nat} (h : getF b = some (r, m)) : recs b = (r, m) :: recs (b.drop (m * 64)) := by
  obtain ⟨h3, h4, _⟩ := getF_some h
  unfold recs
  obtain ⟨k, hk⟩ : ∃ k, b.length = k + 1 := ⟨b.length - 1, by omega⟩
  rw [hk]; simp only [recF, h]
  rw [recF_enough k (b.drop (m * 64)).length _ (by simp; omega) (Nat.le_refl _)]
theorem recs_le : ∀ (n : Nat) (b : List UInt8), b.length ≤ n → ((recs b).map (·.2)).sum * 64 ≤ b.length ∧ (recs b).length * 64 ≤ b.length
  | 0, b, h => by
    have : b = [] := by simpa using h
    subst this; simp [recs, recF]
  | n + 1, b, h => by
    cases hg : getF b with
    | none => rw [recs_none hg]; simp
    | some x =>
      obtain ⟨r, m⟩ := x
      obtain ⟨h3, h4, _⟩ := getF_some hg
      rw [recs_some hg]
      have ih := recs_le n (b.drop (m * 64)) (by simp; omega)
      simp only [List.map_cons, List.sum_cons, List.length_cons, List.length_drop] at ih ⊢
      omega
theorem flat_seen {l : List (List UInt8)} (h : ∀ p ∈ l, p.length = 64) : l.flatten.length = l.length * 64 := by
  induction l with
  | nil => rfl
  | cons p l ih => rw [List.flatten_cons, List.length_append, ih (fun q hq => h q (by simp [hq])), h p (by simp)]; simp; omega
end Go.SL
