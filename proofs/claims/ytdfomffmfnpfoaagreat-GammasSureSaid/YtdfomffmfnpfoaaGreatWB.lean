import Derived.Test.YtdfomffmfnpfoaaGreatM9
import Derived.Test.YtdfomffmfnpfoaaGreatProg
import Derived.KernelRfl
set_option linter.unusedSimpArgs false
set_option linter.unusedVariables false
namespace Go.SL.WB
open Go Go.Proofs Go.SL
theorem a105 : aggOf Tryz.prog 105 = some (some 3) := by kernel_rfl
theorem k90 : callable Tryz.prog 90 = true := by kernel_rfl
theorem s105 : szOf Tryz.prog 105 = some 3 := by kernel_rfl
theorem sl76 : slOf Tryz.prog 76 = some (105, 3, 40) := by kernel_rfl
theorem z105 : zeroOf Tryz.prog 105 = some [.int .u32 0, .string .empty, .string .empty] := by kernel_rfl
end Go.SL.WB
namespace Go.SL
open Go Go.Proofs WB

theorem IndexL_spec {g : World} {A B : HP} {u y : Value} {xs : List (UInt32 × SpanM)} {p : UInt32 × SpanM → Bool} (hA : RL A 3 lookC u xs) (hn : xs.length ≤ 68719476736) (hy : ∀ x, CallV Tryz.prog g y [.agg (lookC x).toArray] [B] fun K R => K (.bool (p x)) (B :: R)) :
    Spec Tryz.prog g 90 [u, y] [A, B] fun K R => K (.int .i64 (if xs.any p then (xs.findIdx p : Nat) else -1)) (A :: B :: R) := by
  refine Spec.intro Tryz.func90 rfl Tryz.ntmps90 rfl fun R K hK => ?_
  refine WP.seq ?_
  refine WP.reg ?_
  refine WL.e e_assign ?_
  refine WL.next ?_
  refine WP.seq ?_
  refine WP.seq ?_
  refine WP.reg ?_
  refine WL.e e_move ?_
  refine WL.e (el_len sl76 hA) <| WL.e e_move ?_
  refine WL.next ?_
  refine WP.block ?_
  refine WP.loopK (fun (i : Nat) => [(8, .int .i64 i)]) (fun (i : Nat) => A :: B :: R) [(0, _), (1, _), (7, _)] (fun (i : Nat) => i ≤ xs.length ∧ (xs.take i).any p = false) (fun (i : Nat) => xs.length - i) 0 (⟨Nat.zero_le _, by simp⟩) ?_
  rintro i ⟨h1, h2⟩
  refine WP.seq ?_
  refine WP.reg ?_
  refine WL.e e_lss ?_
  refine WL.next ?_
  refine WP.seq ?_
  refine WP.cond rfl (fun h3 => ?_) (fun h3 => ?_)
  · have hlt : i < xs.length := by rw [decide_eq_true_eq] at h3; omega
    obtain ⟨x, hx⟩ : ∃ x, xs[i]? = some x := ⟨_, List.getElem?_eq_getElem hlt⟩
    refine WP.skip ?_
    refine PO.next ?_
    refine WP.seq ?_
    refine WP.block ?_
    refine WP.seq ?_
    refine WP.reg ?_
    refine WL.e e_move <| WL.e e_assign ?_
    refine WL.next ?_
    refine WP.seq ?_
    refine WP.reg ?_
    refine WL.e e_move <| WL.e e_move <| WL.e e_move ?_
    refine WL.e (el_ia sl76 hA hlt) ?_
    refine WL.e (el_loadN (vs := lookC x) a105 lookE hA hx (hv := ext_of (lookE.len x))) ?_
    refine WL.h (h_cally (hy x) ?_)
    refine WL.next ?_
    refine WP.cond rfl (fun h4 => ?_) (fun h4 => ?_)
    · skip
      refine WP.seq ?_
      refine WP.reg ?_
      refine WL.e e_move <| WL.e e_assign ?_
      refine WL.next ?_
      refine WP.ret ?_
      refine PO.blockR ?_
      refine PO.past nofun ?_
      refine PO.round nofun ?_
      refine PO.blockR ?_
      refine PO.past nofun ?_
      exact PO.finE Tryz.results90 (rv_tmp rv_nil) (by rw [index_at h2 hx h4]; rfl) hK
    · skip
      refine WP.skip ?_
      refine PO.blockN ?_
      refine PO.next ?_
      refine WP.reg ?_
      refine WL.e (e_add rfl rfl (w_i64 (by omega) (by omega))) <| WL.e e_move ?_
      refine WL.nil ?_
      exact PO.againK (i + 1) ⟨by omega, by rw [take_snoc hx, List.any_append, h2]; simp [h4]⟩ (by omega)
  · have hall : xs.any p = false := by rw [decide_eq_false_iff_not] at h3; rwa [List.take_of_length_le (by omega)] at h2
    refine WP.exit ?_
    refine PO.past nofun ?_
    refine PO.round nofun ?_
    refine PO.blockX ?_
    refine PO.next ?_
    refine WP.seq ?_
    refine WP.reg ?_
    refine WL.e e_assign ?_
    refine WL.next ?_
    refine WP.ret ?_
    exact PO.finE Tryz.results90 (rv_tmp rv_nil) (by rw [hall]; rfl) hK

theorem ContainsL_spec {g : World} {A B : HP} {u y : Value} {xs : List (UInt32 × SpanM)} {p : UInt32 × SpanM → Bool} (hA : RL A 3 lookC u xs) (hn : xs.length ≤ 68719476736) (hy : ∀ x, CallV Tryz.prog g y [.agg (lookC x).toArray] [B] fun K R => K (.bool (p x)) (B :: R)) :
    Spec Tryz.prog g 73 [u, y] [A, B] fun K R => K (.bool (xs.any p)) (A :: B :: R) := by
  refine Spec.intro Tryz.func73 rfl Tryz.ntmps73 rfl fun R K hK => ?_
  refine WP.seq ?_
  refine WP.reg ?_
  refine WL.e e_assign ?_
  refine WL.next ?_
  refine WP.seq ?_
  refine WP.reg ?_
  refine WL.e e_move <| WL.e e_move ?_
  refine WL.h (h_call (IndexL_spec hA hn hy) k90 ?_)
  refine WL.e e_geq <| WL.e e_assign ?_
  refine WL.next ?_
  refine WP.ret ?_
  exact PO.finE Tryz.results73 (rv_tmp rv_nil) (by cases h : xs.any p <;> simp) hK

theorem DelL_spec {g : World} {B : HP} {u y : Value} {xs : List (UInt32 × SpanM)} {p : (UInt32 × SpanM) → Bool} (hn : xs.length ≤ 68719476736) (hy : ∀ x, CallV Tryz.prog g y [.agg (lookC x).toArray] [B] fun K R => K (.bool (p x)) (B :: R)) :
    Spec Tryz.prog g 52 [u, y] [Sl 105 3 lookC (u) (xs), B] fun K R => ∀ a m c, K (.slice a m c) (Sl 105 3 lookC (.slice a m c) (xs.filter fun x => !p x) :: B :: R) := by
  refine Spec.intro Tryz.func52 rfl Tryz.ntmps52 rfl fun R K hK => ?_
  refine WP.seq ?_
  refine WP.reg ?_
  refine WL.e e_assign ?_
  refine WL.next ?_
  refine WP.seq ?_
  refine WP.reg ?_
  refine WL.e e_move <| WL.e e_move ?_
  refine WL.h (h_call (IndexL_spec (sl_rl (xs := xs)) hn hy) k90 ?_)
  refine WL.e e_assign ?_
  refine WL.next ?_
  refine WP.seq ?_
  refine WP.seq ?_
  refine WP.reg ?_
  refine WL.e e_move <| WL.e e_eql ?_
  refine WL.next ?_
  refine WP.cond rfl (fun h1 => ?_) (fun h1 => ?_)
  · have hall : xs.any p = false := by cases e : xs.any p with
      | false => rfl
      | true => rw [e] at h1; simp at h1
    have hf : (xs.filter fun x => !p x) = xs := by rw [List.filter_eq_self]; intro x hx; rw [List.any_eq_false] at hall; simpa using hall x hx
    refine WP.seq ?_
    refine WP.reg ?_
    refine WL.e e_move <| WL.e e_assign ?_
    refine WL.next ?_
    refine WP.ret ?_
    refine PO.past nofun ?_
    refine PO.sh (u := u) ?_
    rintro a m c rfl
    rw [hf] at hK
    exact PO.fin Tryz.results52 (rv_tmp rv_nil) (hK a m c)
  · have hany : xs.any p = true := by cases e : xs.any p with
      | true => rfl
      | false => rw [e] at h1; simp at h1
    rw [hany, if_pos rfl]
    have hi0 : xs.findIdx p < xs.length := List.findIdx_lt_length.2 (by simpa using hany)
    have h00 : (xs.take (xs.findIdx p)).filter (fun x => !p x) = xs.take (xs.findIdx p) := by rw [List.filter_eq_self]; intro x hx; obtain ⟨i, hi, rfl⟩ := List.getElem_of_mem hx; simp at hi; have := List.not_of_lt_findIdx (p := p) (xs := xs) (i := i) (by omega); simpa using this
    have h01 : (xs.take (xs.findIdx p + 1)).filter (fun x => !p x) = xs.take (xs.findIdx p) := by rw [take_snoc (List.getElem?_eq_getElem hi0), List.filter_append, h00]; simp [List.findIdx_getElem]
    refine WP.skip ?_
    refine PO.next ?_
    refine WP.seq ?_
    refine WP.seq ?_
    refine WP.reg ?_
    refine WL.e e_move <| WL.e (e_add (c := ((xs.findIdx p + 1 : Nat) : Int)) rfl rfl (by rw [w_i64 (by omega) (by omega)]; omega)) <| WL.e e_assign ?_
    refine WL.next ?_
    refine WP.block ?_
    refine WP.loopK (fun (x : Nat × Nat × List (UInt32 × SpanM)) => [(5, .int .i64 x.1), (6, .int .i64 x.2.1)]) (fun (x : Nat × Nat × List (UInt32 × SpanM)) => Sl 105 3 lookC (u) (x.2.2) :: B :: R) [(0, _), (1, _), (4, _)] (fun (x : Nat × Nat × List (UInt32 × SpanM)) => x.1 ≤ x.2.1 ∧ x.2.1 ≤ xs.length ∧ x.2.2.length = xs.length ∧ x.2.2.drop x.2.1 = xs.drop x.2.1 ∧ x.2.2.take x.1 = (xs.take x.2.1).filter (fun x => !p x)) (fun (x : Nat × Nat × List (UInt32 × SpanM)) => xs.length - x.2.1) (xs.findIdx p, xs.findIdx p + 1, xs) (⟨Nat.le_succ _, hi0, rfl, rfl, h01.symm⟩) ?_
    rintro ⟨i, j, ys⟩ ⟨hij, hj, hl, hd, ht⟩
    simp only at hij hj hl hd ht
    dsimp only
    refine WP.seq ?_
    refine WP.seq ?_
    refine WP.reg ?_
    refine WL.e e_move <| WL.e e_move ?_
    refine WL.e (el_len (xs := ys) sl76 sl_rl) <| WL.e e_lss ?_
    refine WL.next ?_
    refine WP.cond rfl (fun h3 => ?_) (fun h3 => ?_)
    · have hlt : j < xs.length := by rw [decide_eq_true_eq, hl] at h3; omega
      obtain ⟨x, hx⟩ : ∃ x, xs[j]? = some x := ⟨_, List.getElem?_eq_getElem hlt⟩
      have hyx : ys[j]? = some x := by have := congrArg (·[0]?) hd; simp only [List.getElem?_drop, Nat.add_zero] at this; rw [this, hx]
      refine WP.skip ?_
      refine PO.next ?_
      refine WP.seq ?_
      refine WP.block ?_
      refine WP.seq ?_
      refine WP.reg ?_
      refine WL.e e_move <| WL.e e_move ?_
      refine WL.e (el_ia (j := j) (xs := ys) sl76 sl_rl (by omega)) ?_
      refine WL.e (el_loadN (vs := lookC x) a105 lookE (sl_rl (xs := ys)) hyx (hv := ext_of (lookE.len x))) ?_
      refine WL.h (h_alloc z105 fun b1 => ?_)
      refine WL.h' (h_store s105 ?_)
      refine WL.next ?_
      refine WP.seq ?_
      refine WP.reg ?_
      refine WL.e e_move <| WL.e (e_loadN a105) ?_
      refine WL.h (h_cally (hy x) ?_)
      refine WL.e e_not ?_
      refine WL.next ?_
      refine WP.cond rfl (fun h4 => ?_) (fun h4 => ?_)
      · skip
        refine WP.seq ?_
        refine WP.reg ?_
        refine WL.e e_move <| WL.e e_move <| WL.e (e_loadN a105) ?_
        refine WL.e (el_ia (j := i) (xs := ys) sl76 sl_rl (by omega)) ?_
        refine WL.h' (hl_store (xs := ys) (j := i) x s105 lookE (by omega) ?_)
        refine WL.next ?_
        refine WP.reg ?_
        refine WL.e e_move <| WL.e (e_add (c := ((i + 1 : Nat) : Int)) rfl rfl (by rw [w_i64 (by omega) (by omega)]; omega)) <| WL.e e_assign ?_
        refine WL.nil ?_
        refine PO.blockN ?_
        refine PO.next ?_
        refine WP.reg ?_
        refine WL.e e_move <| WL.e (e_add (c := ((j + 1 : Nat) : Int)) rfl rfl (by rw [w_i64 (by omega) (by omega)]; omega)) <| WL.e e_assign ?_
        refine WL.nil ?_
        exact PO.againK (i + 1, j + 1, ys.set i x) ⟨by simp only; omega, by simp only; omega, by simp [hl], by simp only; rw [List.drop_set_of_lt (by omega), ← List.drop_drop, hd, List.drop_drop], by simp only; rw [take_snoc (show (ys.set i x)[i]? = some x by rw [List.getElem?_set_self (by omega)]), List.take_set_of_le (Nat.le_refl i), ht, take_snoc hx, List.filter_append]; simp at h4; simp [h4]⟩ (by simp only; omega)
      · skip
        refine WP.skip ?_
        refine PO.blockN ?_
        refine PO.next ?_
        refine WP.reg ?_
        refine WL.e e_move <| WL.e (e_add (c := ((j + 1 : Nat) : Int)) rfl rfl (by rw [w_i64 (by omega) (by omega)]; omega)) <| WL.e e_assign ?_
        refine WL.nil ?_
        exact PO.againK (i, j + 1, ys) ⟨by simp only; omega, by simp only; omega, hl, by simp only; rw [← List.drop_drop, hd, List.drop_drop], by simp only; rw [ht, take_snoc hx, List.filter_append]; simp at h4; simp [h4]⟩ (by simp only; omega)
    · obtain rfl : j = xs.length := by rw [decide_eq_false_iff_not, hl] at h3; omega
      rw [List.take_length] at ht
      refine WP.exit ?_
      refine PO.past nofun ?_
      refine PO.round nofun ?_
      refine PO.blockX ?_
      refine PO.next ?_
      refine WP.seq ?_
      refine WP.reg ?_
      refine WL.e e_move <| WL.e e_move ?_
      refine WL.e (el_from (lo := i) (xs := ys) sl76 sl_rl (by omega)) ?_
      refine WL.h' (hl_clear (lo := i) (xs := ys) (0, ⟨.empty, .empty⟩) sl76 z105 lookE rfl (by omega) (by omega) ?_)
      refine WL.next ?_
      refine WP.seq ?_
      refine WP.reg ?_
      refine WL.e e_move <| WL.e e_move ?_
      refine WL.e (el_to (hi := i) (xs := ys.take i ++ List.replicate (ys.length - i) (0, ⟨.empty, .empty⟩)) sl76 sl_rl (by simp; omega)) <| WL.e e_assign ?_
      refine WL.next ?_
      refine WP.ret ?_
      refine PO.conv (conv1 (B := Sl 105 3 lookC (subV u 0 i none 3) (xs.filter fun x => !p x)) (A := Sl 105 3 lookC (u) (ys.take i ++ List.replicate (ys.length - i) (0, ⟨.empty, .empty⟩))) (fun S h => ?_) (by repeat first | exact .z | apply Put.s)) ?_
      · have h := sl_to (i := i) lookE h (by simp; omega)
        rwa [List.take_left' (by simp; omega), ht] at h
      refine PO.sh (u := subV u 0 i none 3) ?_
      intro a m c he
      rw [he]
      exact PO.fin Tryz.results52 (rv_tmp rv_nil) (hK a m c)

end Go.SL
