/- W7 W8 M8 SLq W9: rules and walks, several texts in one. -/
import Derived.Test.YtdpmpcoekkhceaaGreatQM8
import Derived.Test.YtdpmpcoekkhceaaGreatProg
import Derived.KernelRfl
set_option linter.unusedSimpArgs false
set_option linter.unusedVariables false
namespace Go.SL.W7
open Go Go.Proofs Go.SL
theorem a108 : aggOf Tryz.prog 108 = some (some 3) := by kernel_rfl
theorem a22 : aggOf Tryz.prog 22 = some none := by kernel_rfl
theorem a4 : aggOf Tryz.prog 4 = some none := by kernel_rfl
theorem a9 : aggOf Tryz.prog 9 = some none := by kernel_rfl
theorem f108_0 : fldOf Tryz.prog 108 0 = some 0 := by kernel_rfl
theorem f108_1 : fldOf Tryz.prog 108 1 = some 1 := by kernel_rfl
theorem f108_2 : fldOf Tryz.prog 108 2 = some 2 := by kernel_rfl
theorem k158 : callable Tryz.prog 158 = true := by kernel_rfl
theorem k85 : callable Tryz.prog 85 = true := by kernel_rfl
theorem sl103 : slOf Tryz.prog 103 = some (108, 3, 24) := by kernel_rfl
end Go.SL.W7
namespace Go.SL
open Go Go.Proofs W7
theorem ext_of {l : List Value} {n : Nat} (h : l.length = n) : Ext l 0 n l := h ▸ ext_all l
theorem index_at {α : Type} {p : α → Bool} {xs : List α} {i : Nat} {x : α} (h : (xs.take i).any p = false) (hx : xs[i]? = some x) (hp : p x = true) : (if xs.any p then ((xs.findIdx p : Nat) : Int) else -1) = i := by
  have h1 : xs.any p = true := List.any_eq_true.2 ⟨x, List.mem_of_getElem? hx, hp⟩
  rw [if_pos h1]
  congr 1
  have hlt := idx_lt hx
  rw [List.findIdx_eq hlt]
  refine ⟨by rw [List.getElem?_eq_getElem hlt] at hx; cases hx; exact hp, fun j hj => ?_⟩
  rw [List.any_eq_false] at h
  have := h xs[j] (by rw [List.mem_take_iff_getElem]; exact ⟨j, by omega, rfl⟩)
  simpa using this
theorem IndexC_spec {g : World} {A B : HP} {u y : Value} {xs : List (ChgM)} {p : ChgM → Bool} (hA : RL A 3 ChgM.c u xs) (hn : xs.length ≤ 68719476736) (hy : ∀ x, CallV Tryz.prog g y [.agg (ChgM.c x).toArray] [B] fun K R => K (.bool (p x)) (B :: R)) :
    Spec Tryz.prog g 158 [u, y] [A, B] fun K R => K (.int .i64 (if xs.any p then (xs.findIdx p : Nat) else -1)) (A :: B :: R) := by
  refine Spec.intro Tryz.func158 rfl Tryz.ntmps158 rfl fun R K hK => ?_
  refine WP.seq ?_
  refine WP.reg ?_
  refine WL.e e_assign ?_
  refine WL.next ?_
  refine WP.seq ?_
  refine WP.seq ?_
  refine WP.reg ?_
  refine WL.e e_move ?_
  refine WL.e (el_len sl103 hA) <| WL.e e_move ?_
  refine WL.next ?_
  refine WP.block ?_
  refine WP.loopK (fun (i : Nat) => [(8, .int .i64 i)]) (fun (i : Nat) => A :: B :: R) [(0, _), (1, _), (7, _)] (fun (i : Nat) => i ≤ xs.length ∧ (xs.take i).any p = false) (fun (i : Nat) => xs.length - i) 0 (⟨Nat.zero_le _, by simp⟩) ?_
  rintro i ⟨h1, h2⟩
  refine WP.seq ?_
  refine WP.reg ?_
  refine WL.e e_lss ?_
  refine WL.next ?_
  refine WP.seq ?_
  refine WP.cond rfl (fun h3 => ?_) (fun h3 => ?_)
  · have hlt : i < xs.length := by rw [decide_eq_true_eq] at h3; omega
    obtain ⟨x, hx⟩ : ∃ x, xs[i]? = some x := ⟨_, List.getElem?_eq_getElem hlt⟩
    refine WP.skip ?_
    refine PO.next ?_
    refine WP.seq ?_
    refine WP.block ?_
    refine WP.seq ?_
    refine WP.reg ?_
    refine WL.e e_move <| WL.e e_assign ?_
    refine WL.next ?_
    refine WP.seq ?_
    refine WP.reg ?_
    refine WL.e e_move <| WL.e e_move <| WL.e e_move ?_
    refine WL.e (el_ia sl103 hA hlt) ?_
    refine WL.e (el_loadN (vs := ChgM.c x) a108 chgE hA hx (hv := ext_of (chgE.len x))) ?_
    refine WL.h (h_cally (hy x) ?_)
    refine WL.next ?_
    refine WP.cond rfl (fun h4 => ?_) (fun h4 => ?_)
    · skip
      refine WP.seq ?_
      refine WP.reg ?_
      refine WL.e e_move <| WL.e e_assign ?_
      refine WL.next ?_
      refine WP.ret ?_
      refine PO.blockR ?_
      refine PO.past nofun ?_
      refine PO.round nofun ?_
      refine PO.blockR ?_
      refine PO.past nofun ?_
      exact PO.finE Tryz.results158 (rv_tmp rv_nil) (by rw [index_at h2 hx h4]; rfl) hK
    · skip
      refine WP.skip ?_
      refine PO.blockN ?_
      refine PO.next ?_
      refine WP.reg ?_
      refine WL.e (e_add rfl rfl (w_i64 (by omega) (by omega))) <| WL.e e_move ?_
      refine WL.nil ?_
      exact PO.againK (i + 1) ⟨by omega, by rw [take_snoc hx, List.any_append, h2]; simp [h4]⟩ (by omega)
  · have hall : xs.any p = false := by rw [decide_eq_false_iff_not] at h3; rwa [List.take_of_length_le (by omega)] at h2
    refine WP.exit ?_
    refine PO.past nofun ?_
    refine PO.round nofun ?_
    refine PO.blockX ?_
    refine PO.next ?_
    refine WP.seq ?_
    refine WP.reg ?_
    refine WL.e e_assign ?_
    refine WL.next ?_
    refine WP.ret ?_
    exact PO.finE Tryz.results158 (rv_tmp rv_nil) (by rw [hall]; rfl) hK
theorem ContainsC_spec {g : World} {A B : HP} {u y : Value} {xs : List ChgM} {p : ChgM → Bool} (hA : RL A 3 ChgM.c u xs) (hn : xs.length ≤ 68719476736) (hy : ∀ x, CallV Tryz.prog g y [.agg (ChgM.c x).toArray] [B] fun K R => K (.bool (p x)) (B :: R)) :
    Spec Tryz.prog g 123 [u, y] [A, B] fun K R => K (.bool (xs.any p)) (A :: B :: R) := by
  refine Spec.intro Tryz.func123 rfl Tryz.ntmps123 rfl fun R K hK => ?_
  refine WP.seq ?_
  refine WP.reg ?_
  refine WL.e e_assign ?_
  refine WL.next ?_
  refine WP.seq ?_
  refine WP.reg ?_
  refine WL.e e_move <| WL.e e_move ?_
  refine WL.h (h_call (IndexC_spec hA hn hy) k158 ?_)
  refine WL.e e_geq <| WL.e e_assign ?_
  refine WL.next ?_
  refine WP.ret ?_
  exact PO.finE Tryz.results123 (rv_tmp rv_nil) (by cases h : xs.any p <;> simp) hK
theorem bad_spec {g : World} (c : ChgM) : Spec Tryz.prog g 124 [c.v] [] fun K R => K (.bool (!chgOk c)) R := by
  refine Spec.intro Tryz.func124 rfl Tryz.ntmps124 rfl fun R K hK => ?_
  refine WP.seq ?_
  refine WP.reg ?_
  refine WL.h (h_box fun b1 => ?_)
  refine WL.e e_assign ?_
  refine WL.next ?_
  refine WP.seq ?_
  refine WP.reg ?_
  refine WL.e (e_fa f108_0) <| WL.e (e_load a9) ?_
  refine WL.h (h_call (Check_spec _) k85 ?_)
  refine WL.e e_not <| WL.e e_move ?_
  refine WL.bool 7 rfl (fun g1 => ?_) (fun g1 => ?_)
  · skip
    refine WL.skip <| WL.skip <| WL.skip <| WL.skip <| WL.skip <| WL.skip <| WL.skip <| WL.e e_pick_t <| WL.e e_assign ?_
    refine WL.next ?_
    refine WP.ret ?_
    exact PO.finE Tryz.results124 (rv_tmp rv_nil) (by simp_all [chgOk, bne]) hK
  · skip
    refine WL.e (e_fa f108_2) <| WL.e (e_load a4) <| WL.e e_move ?_
    refine WL.bool 10 rfl (fun g2 => ?_) (fun g2 => ?_)
    · skip
      refine WL.e (e_fa f108_1) <| WL.e (e_load a22) <| WL.e (e_neq32 (b := 0)) <| WL.e e_pick_t <| WL.e e_pick_f <| WL.e e_assign ?_
      refine WL.next ?_
      refine WP.ret ?_
      exact PO.finE Tryz.results124 (rv_tmp rv_nil) (by simp_all [chgOk, bne]) hK
    · skip
      refine WL.skip <| WL.skip <| WL.skip <| WL.e e_pick_f <| WL.e e_pick_f <| WL.e e_assign ?_
      refine WL.next ?_
      refine WP.ret ?_
      exact PO.finE Tryz.results124 (rv_tmp rv_nil) (by simp_all [chgOk, bne]) hK
end Go.SL
set_option linter.unusedSimpArgs false
set_option linter.unusedVariables false
namespace Go.SL.W8
open Go Go.Proofs Go.SL
theorem mixedOk : Tryz.prog.follows .mixedOrders = true := by kernel_rfl
theorem sl29 : slOf Tryz.prog 29 = some (40, 2, 24) := by kernel_rfl
theorem z40 : zeroOf Tryz.prog 40 = some [.string .empty, .int .u32 0] := by kernel_rfl
end Go.SL.W8
namespace Go.SL
open Go Go.Proofs W8
theorem Delete_spec {g : World} {u : Value} {xs : List RowM} {i : Nat} {x : RowM} (hx : xs[i]? = some x) (hn : xs.length ≤ 68719476736) :
    Spec Tryz.prog g 159 [u, .int .i64 i, .int .i64 (i + 1 : Nat)] [Sl 40 2 RowM.c u xs] fun K R => ∀ a m c, K (.slice a m c) (Sl 40 2 RowM.c (.slice a m c) (xs.eraseIdx i) :: R) := by
  obtain ⟨A, D, rfl, rfl⟩ := split_el hx
  rw [erase_mid]
  refine Spec.intro Tryz.func159 rfl Tryz.ntmps159 rfl fun R K hK => ?_
  refine WP.own_open (n := (A ++ x :: D).length) (by simp; omega) (by exact .z) ?_
  rintro b o c l rfl hnc hc hl hcs
  have hlen : (A ++ x :: D).length = A.length + 1 + D.length := by simp; omega
  have hRL : RL (cl b 40 l) 2 RowM.c (.slice (some ⟨b, o, none⟩) (A ++ x :: D).length c) (A ++ x :: D) := rd_part rowE (At.lit hnc) hl rfl hcs
  have hA0 : At (subAt (.slice (some ⟨b, o, none⟩) (A ++ x :: D).length c) 0 A.length c 2) b o A.length c := by have := (At.lit (b := b) (o := o) hnc).sub (lo := 0) (hi := A.length) (m := c) (z := 2) (by omega) (by omega) (Nat.le_refl _); simpa using this
  have hAD : At (subAt (.slice (some ⟨b, o, none⟩) (A ++ x :: D).length c) (A.length + 1) (A ++ x :: D).length c 2) b (o + (A.length + 1) * 2) D.length (c - (A.length + 1)) := by have := (At.lit (b := b) (o := o) hnc).sub (lo := A.length + 1) (hi := (A ++ x :: D).length) (m := c) (z := 2) (by omega) (by omega) (Nat.le_refl _); rwa [show (A ++ x :: D).length - (A.length + 1) = D.length by omega] at this
  have hD : Rd (cl b 40 l) 2 (subAt (.slice (some ⟨b, o, none⟩) (A ++ x :: D).length c) (A.length + 1) (A ++ x :: D).length c 2) D.length (D.flatMap RowM.c) := rd_part rowE hAD (by omega) rfl (cells_tail rowE hcs)
  refine WP.seq ?_
  refine WP.reg ?_
  refine WL.e e_assign ?_
  refine WL.next ?_
  refine WP.seq ?_
  refine WP.reg ?_
  refine WL.e e_move <| WL.e e_move <| WL.e e_move <| WL.e e_move ?_
  refine WL.e (el_len sl29 hRL) ?_
  refine WL.e (e_slice_at (lo := A.length) (hi := A.length + 1) (m := (A ++ x :: D).length) (c := c) (n := (A ++ x :: D).length) sl29 rfl (At.lit hnc) (.inr ⟨_, _, rfl, rfl⟩) (.inr ⟨_, _, rfl, rfl⟩) (.inr ⟨_, _, rfl, rfl⟩) (by omega) (by omega) hnc) ?_
  refine WL.next ?_
  refine WP.seq ?_
  refine WP.seq ?_
  refine WP.reg ?_
  refine WL.e e_move <| WL.e e_move <| WL.e e_eql ?_
  refine WL.next ?_
  refine WP.cond rfl (fun h1 => ?_) (fun h1 => ?_)
  · rw [beq_iff_eq] at h1; omega
  · skip
    refine WP.skip ?_
    refine PO.next ?_
    refine WP.seq ?_
    refine WP.reg ?_
    refine WL.e e_move ?_
    refine WL.e (el_len sl29 hRL) <| WL.e e_assign ?_
    refine WL.next ?_
    refine WP.seq ?_
    refine WP.draws mixedOk 8 ?_
    refine RW.e 0 rfl e_move <| RW.e 1 rfl e_move ?_
    refine RW.e 2 rfl (e_slice_at (lo := 0) (hi := A.length) (m := c) (c := c) (n := (A ++ x :: D).length) sl29 rfl (At.lit hnc) (.inl ⟨rfl, rfl⟩) (.inr ⟨_, _, rfl, rfl⟩) (.inl ⟨rfl, rfl⟩) (by omega) (by omega) (Nat.le_refl _)) <| RW.e 3 rfl e_move <| RW.e 4 rfl e_move ?_
    refine RW.e 5 rfl (e_slice_at (lo := A.length + 1) (hi := (A ++ x :: D).length) (m := c) (c := c) (n := (A ++ x :: D).length) sl29 rfl (At.lit hnc) (.inr ⟨_, _, rfl, rfl⟩) (.inl ⟨rfl, rfl, rfl⟩) (.inl ⟨rfl, rfl⟩) (by omega) (by omega) (Nat.le_refl _)) ?_
    refine RW.any (is := [6]) rfl ⟨?_, trivial⟩
    refine RWat.h rfl rfl rfl ?_
    refine (h_append_at (n := A.length) (c := c) (k := D.length) (o := o) (l := l) (ds := D.flatMap RowM.c) sl29 hA0 hl hD (ones_flat rowE D) (by omega) (fun a2 hAt => ?_))
    refine ⟨trivial, ?_⟩
    refine RW.any (is := [7]) rfl ⟨?_, trivial⟩
    refine RWat.h rfl rfl rfl ?_
    refine HO.of_eo e_assign ?_
    refine ⟨trivial, ?_⟩
    refine RW.done ?_
    refine PO.next ?_
    refine WP.seq ?_
    refine WP.reg ?_
    refine WL.e e_move <| WL.e e_move ?_
    refine WL.e (e_len_sl sl29) <| WL.e e_move ?_
    refine WL.e (e_slice_at (lo := A.length + D.length) (hi := (A ++ x :: D).length) (m := c) (c := c) (n := A.length + D.length) sl29 rfl hAt (.inr ⟨_, _, rfl, rfl⟩) (.inr ⟨_, _, rfl, rfl⟩) (.inl ⟨rfl, rfl⟩) (by omega) (by omega) (Nat.le_refl _)) ?_
    obtain ⟨hd1, hd2⟩ := del_cells (zs := [.string .empty, .int .u32 0]) rowE hl hnc hcs rfl
    refine WL.h' (h_clear (T := 29) (n := 1) (c := c - (A.length + D.length)) (o := o + (A.length + D.length) * 2) (b := b) (l := splice l (o + A.length * 2) (D.flatMap RowM.c)) sl29 z40 (by have := hAt.sub (lo := A.length + D.length) (hi := (A ++ x :: D).length) (m := c) (z := 2) (by omega) (by omega) (Nat.le_refl _); rwa [show (A ++ x :: D).length - (A.length + D.length) = 1 by omega] at this) (by rw [splice_len _ _ _ (by rw [flat_len rowE]; omega)]; omega) ?_)
    rw [show (List.replicate 1 [Value.string .empty, Value.int .u32 0]).flatten = [.string .empty, .int .u32 0] from rfl]
    refine WL.next ?_
    refine WP.seq ?_
    refine WP.reg ?_
    refine WL.e e_move <| WL.e e_assign ?_
    refine WL.next ?_
    refine WP.ret ?_
    refine PO.cls (A := Sl 40 2 RowM.c (.slice a2 (A.length + D.length) c) (A ++ D)) (B := [cl b 40 _]) (fun S h => ?_) ?_
    · have h := stars_one h
      unfold Sl
      rw [List.length_append]
      refine at_own hAt hc ?_ ?_ S h
      · rw [hd2]; exact hl
      · rw [List.length_append] at hd1; exact hd1
    exact PO.fin Tryz.results159 (rv_tmp rv_nil) (hK a2 (A.length + D.length) c)
end Go.SL
/- What the functions compute, in plain Lean: rows by their keys. -/
set_option linter.unusedSimpArgs false
set_option linter.unusedVariables false
set_option linter.unusedSectionVars false
namespace Go.SL
open Go
theorem key_split {l : List RowM} (hl : Rising l) (k : ByteArray) : ∃ A D, l = A ++ D ∧ A.length = lowI l k ∧ (∀ r ∈ A, sLt r.key k = true) ∧ (∀ r ∈ D, sLt r.key k = false) ∧ Rising A ∧ Rising D := by
  refine ⟨l.takeWhile fun r => sLt r.key k, l.dropWhile fun r => sLt r.key k, List.takeWhile_append_dropWhile.symm, rfl, fun r hr => ?_, fun r hr => ?_, hl.sublist (List.takeWhile_sublist _), hl.sublist (List.dropWhile_sublist _)⟩
  · have := List.all_takeWhile (p := fun r : RowM => sLt r.key k) (l := l)
    exact List.all_eq_true.1 this r hr
  · have hd := hl.sublist (List.dropWhile_sublist (fun r => sLt r.key k))
    have hh : ∀ x y, l.dropWhile (fun r => sLt r.key k) = x :: y → sLt x.key k = false := fun x y e => by
      have := List.head_dropWhile_not (fun r : RowM => sLt r.key k) (l := l) (by rw [e]; simp)
      simpa [e] using this
    cases e : l.dropWhile (fun r => sLt r.key k) with
    | nil => rw [e] at hr; cases hr
    | cons x y =>
      have hx := hh x y e
      rw [e] at hr hd
      rcases List.mem_cons.1 hr with rfl | hr
      · exact hx
      · have := (List.pairwise_cons.1 hd).1 r hr
        cases e2 : sLt r.key k with
        | false => rfl
        | true => have := sLt_trans this e2; rw [hx] at this; cases this
theorem key_cut {l : List RowM} (hl : Rising l) (k : ByteArray) : (∃ A v D, l = A ++ ⟨k, v⟩ :: D ∧ A.length = lowI l k ∧ hasI l k = true ∧ (∀ r ∈ A, sLt r.key k = true) ∧ (∀ r ∈ D, sLt k r.key = true) ∧ Rising A ∧ Rising D) ∨
    (∃ A D, l = A ++ D ∧ A.length = lowI l k ∧ hasI l k = false ∧ (∀ r ∈ A, sLt r.key k = true) ∧ (∀ r ∈ D, sLt k r.key = true) ∧ Rising A ∧ Rising D) := by
  obtain ⟨A, D, he, ha, h1, h2, h3, h4⟩ := key_split hl k
  have hat : l[lowI l k]? = D.head? := by
    rw [← ha]; conv => lhs; rw [he]
    rw [List.getElem?_append_right (Nat.le_refl _), Nat.sub_self, List.head?_eq_getElem?]
  cases D with
  | nil =>
    right
    exact ⟨A, [], he, ha, by simp only [hasI, hat]; rfl, h1, by simp, h3, h4⟩
  | cons x D =>
    have hp := List.pairwise_cons.1 h4
    have hx := h2 x (by simp)
    by_cases e : x.key = k
    · left
      subst e
      exact ⟨A, x.val, D, he, ha, by simp [hasI, hat, sEq_iff], h1, fun r hr => hp.1 r hr, h3, hp.2⟩
    · right
      have hxk : sLt k x.key = true := by
        rcases sLt_tri x.key k with h | h | h
        · rw [hx] at h; cases h
        · exact absurd h e
        · exact h
      refine ⟨A, x :: D, he, ha, ?_, h1, fun r hr => ?_, h3, h4⟩
      · simp only [hasI, hat, List.head?_cons]
        cases e2 : sEq x.key k with
        | false => rfl
        | true => exact absurd (sEq_iff.1 e2) e
      · rcases List.mem_cons.1 hr with rfl | hr
        · exact hxk
        · exact sLt_trans hxk (hp.1 r hr)
def setR (l : List RowM) (k : ByteArray) (v : UInt32) : List RowM := if hasI l k then l.set (lowI l k) ⟨k, v⟩ else l.take (lowI l k) ++ ⟨k, v⟩ :: l.drop (lowI l k)
def dropR (l : List RowM) (k : ByteArray) : List RowM := if hasI l k then l.eraseIdx (lowI l k) else l
theorem sLt_ne {a b : ByteArray} (h : sLt a b = true) : a ≠ b := fun e => by subst e; rw [sLt_irrefl] at h; cases h
theorem rising_mid {A D : List RowM} {x : RowM} (h1 : ∀ r ∈ A, sLt r.key x.key = true) (h2 : ∀ r ∈ D, sLt x.key r.key = true) (hA : Rising A) (hD : Rising D) : Rising (A ++ x :: D) := by
  refine List.pairwise_append.2 ⟨hA, List.pairwise_cons.2 ⟨h2, hD⟩, fun a ha b hb => ?_⟩
  rcases List.mem_cons.1 hb with rfl | hb
  · exact h1 a ha
  · exact sLt_trans (h1 a ha) (h2 b hb)
theorem rising_two {A D : List RowM} {k : ByteArray} (h1 : ∀ r ∈ A, sLt r.key k = true) (h2 : ∀ r ∈ D, sLt k r.key = true) (hA : Rising A) (hD : Rising D) : Rising (A ++ D) :=
  List.pairwise_append.2 ⟨hA, hD, fun a ha b hb => sLt_trans (h1 a ha) (h2 b hb)⟩
theorem setR_spec {l : List RowM} (hl : Rising l) (k : ByteArray) (v : UInt32) : Rising (setR l k v) ∧ (∀ r, r ∈ setR l k v ↔ r = ⟨k, v⟩ ∨ (r ∈ l ∧ r.key ≠ k)) ∧ (setR l k v).length ≤ l.length + 1 := by
  rcases key_cut hl k with ⟨A, u, D, he, ha, hh, h1, h2, h3, h4⟩ | ⟨A, D, he, ha, hh, h1, h2, h3, h4⟩
  · have e : setR l k v = A ++ ⟨k, v⟩ :: D := by
      unfold setR; rw [if_pos hh, ← ha]; conv => lhs; rw [he]
      simp
    rw [e]
    refine ⟨rising_mid h1 h2 h3 h4, fun r => ?_, by rw [he]; simp⟩
    rw [he]
    simp only [List.mem_append, List.mem_cons]
    constructor
    · rintro (h | rfl | h)
      · exact .inr ⟨.inl h, sLt_ne (h1 r h)⟩
      · exact .inl rfl
      · exact .inr ⟨.inr (.inr h), (sLt_ne (h2 r h)).symm⟩
    · rintro (rfl | ⟨h | rfl | h, hn⟩)
      · exact .inr (.inl rfl)
      · exact .inl h
      · exact absurd rfl hn
      · exact .inr (.inr h)
  · have e : setR l k v = A ++ ⟨k, v⟩ :: D := by
      unfold setR; rw [if_neg (by simp [hh]), ← ha]; conv => lhs; rw [he]
      simp
    rw [e]
    refine ⟨rising_mid h1 h2 h3 h4, fun r => ?_, by rw [he]; simp; omega⟩
    rw [he]
    simp only [List.mem_append, List.mem_cons]
    constructor
    · rintro (h | rfl | h)
      · exact .inr ⟨.inl h, sLt_ne (h1 r h)⟩
      · exact .inl rfl
      · exact .inr ⟨.inr h, (sLt_ne (h2 r h)).symm⟩
    · rintro (rfl | ⟨h | h, hn⟩)
      · exact .inr (.inl rfl)
      · exact .inl h
      · exact .inr (.inr h)
theorem dropR_spec {l : List RowM} (hl : Rising l) (k : ByteArray) : Rising (dropR l k) ∧ (∀ r, r ∈ dropR l k ↔ r ∈ l ∧ r.key ≠ k) ∧ (dropR l k).length ≤ l.length := by
  rcases key_cut hl k with ⟨A, u, D, he, ha, hh, h1, h2, h3, h4⟩ | ⟨A, D, he, ha, hh, h1, h2, h3, h4⟩
  · have e : dropR l k = A ++ D := by
      unfold dropR; rw [if_pos hh, ← ha]; conv => lhs; rw [he]
      rw [List.eraseIdx_append_of_length_le (Nat.le_refl _)]; simp
    rw [e]
    refine ⟨rising_two h1 h2 h3 h4, fun r => ?_, by rw [he]; simp⟩
    rw [he]
    simp only [List.mem_append, List.mem_cons]
    constructor
    · rintro (h | h)
      · exact ⟨.inl h, sLt_ne (h1 r h)⟩
      · exact ⟨.inr (.inr h), (sLt_ne (h2 r h)).symm⟩
    · rintro ⟨h | rfl | h, hn⟩
      · exact .inl h
      · exact absurd rfl hn
      · exact .inr h
  · have e : dropR l k = l := by unfold dropR; rw [if_neg (by simp [hh])]
    rw [e]
    refine ⟨hl, fun r => ⟨fun h => ⟨h, ?_⟩, fun h => h.1⟩, Nat.le_refl _⟩
    rw [he] at h
    rcases List.mem_append.1 h with h | h
    · exact sLt_ne (h1 r h)
    · exact (sLt_ne (h2 r h)).symm
theorem rising_ext {a b : List RowM} (ha : Rising a) (hb : Rising b) (h : ∀ r, r ∈ a ↔ r ∈ b) : a = b := by
  induction a generalizing b with
  | nil =>
    cases b with
    | nil => rfl
    | cons x b => have := (h x).2 (by simp); cases this
  | cons x a ih =>
    have hpa := List.pairwise_cons.1 ha
    cases b with
    | nil => have := (h x).1 (by simp); cases this
    | cons y b =>
      have hpb := List.pairwise_cons.1 hb
      have exy : x = y := by
        rcases List.mem_cons.1 ((h x).1 (by simp)) with e | hx
        · exact e
        · rcases List.mem_cons.1 ((h y).2 (by simp)) with e | hy
          · exact e.symm
          · have := sLt_trans (hpb.1 x hx) (hpa.1 y hy)
            rw [sLt_irrefl] at this; cases this
      subst exy
      congr 1
      refine ih hpa.2 hpb.2 fun r => ?_
      constructor
      · intro hr
        rcases List.mem_cons.1 ((h r).1 (by simp [hr])) with e | h'
        · subst e; have := hpa.1 r hr; rw [sLt_irrefl] at this; cases this
        · exact h'
      · intro hr
        rcases List.mem_cons.1 ((h r).2 (by simp [hr])) with e | h'
        · subst e; have := hpb.1 r hr; rw [sLt_irrefl] at this; cases this
        · exact h'
/-- A key has one row at most. -/
theorem rising_one {l : List RowM} (hl : Rising l) {a b : RowM} (ha : a ∈ l) (hb : b ∈ l) (h : a.key = b.key) : a = b := by
  induction l with
  | nil => cases ha
  | cons x l ih =>
    have hp := List.pairwise_cons.1 hl
    rcases List.mem_cons.1 ha with e1 | h1 <;> rcases List.mem_cons.1 hb with e2 | h2
    · rw [e1, e2]
    · subst e1; exact absurd h (sLt_ne (hp.1 b h2))
    · subst e2; exact absurd h.symm (sLt_ne (hp.1 a h1))
    · exact ih hp.2 h1 h2
def applyC (l : List RowM) (c : ChgM) : List RowM := if c.gone then dropR l c.key else setR l c.key c.val
def changeR (l : List RowM) (cs : List ChgM) : List RowM := cs.foldl applyC l
theorem applyC_rising {l : List RowM} (hl : Rising l) (c : ChgM) : Rising (applyC l c) ∧ (applyC l c).length ≤ l.length + 1 := by
  unfold applyC; split
  · exact ⟨(dropR_spec hl _).1, Nat.le_succ_of_le (dropR_spec hl _).2.2⟩
  · exact ⟨(setR_spec hl _ _).1, (setR_spec hl _ _).2.2⟩
theorem changeR_rising : ∀ (cs : List ChgM) {l : List RowM}, Rising l → Rising (changeR l cs) ∧ (changeR l cs).length ≤ l.length + cs.length
  | [], _, h => ⟨h, Nat.le_refl _⟩
  | c :: cs, l, h => by
    have h1 := applyC_rising h c
    have h2 := changeR_rising cs h1.1
    exact ⟨h2.1, by have := h2.2; simp only [changeR, List.foldl_cons, List.length_cons] at *; omega⟩
theorem mem_applyC {l : List RowM} (hl : Rising l) (c : ChgM) (r : RowM) : r ∈ applyC l c ↔ (c.gone = false ∧ r = ⟨c.key, c.val⟩) ∨ (r ∈ l ∧ r.key ≠ c.key) := by
  unfold applyC; split
  · rename_i h; rw [(dropR_spec hl _).2.1]; simp [h]
  · rename_i h; rw [(setR_spec hl _ _).2.1]; simp [h]
/-- The rows of a span, so many at most. -/
def inSpan (p : SpanM) (k : ByteArray) : Bool := sIn k p.a p.b
def scanR (l : List RowM) (p : SpanM) (most : Nat) : List RowM := (l.filter fun r => inSpan p r.key).take most
theorem sIn_iff {k a b : ByteArray} : sIn k a b = true ↔ (sLt k a = false ∧ sLt b k = false) := by
  have hle : ∀ x y : ByteArray, (sLt x y || sEq x y) = true ↔ sLt y x = false := fun x y => by
    rcases sLt_tri x y with h | h | h
    · simp [h, sLt_asymm h]
    · subst h; simp [sLt_irrefl, sEq_iff]
    · simp [h, sLt_asymm h]
      cases e : sEq x y with
      | false => rfl
      | true => rw [sEq_iff.1 e, sLt_irrefl] at h; cases h
  unfold sIn
  rw [Bool.and_eq_true, hle, hle]
theorem sMax_iff (a b : ByteArray) : sMax a b = if sLt a b then b else a := by
  rcases sLt_tri a b with h | h | h
  · simp [sMax, h]
  · subst h; simp [sMax, sLt_irrefl]
  · simp [sMax, h, sLt_asymm h]
theorem sLe_trans {a b c : ByteArray} (h : sLt b a = false) (h' : sLt c b = false) : sLt c a = false := by
  cases e : sLt c a with
  | false => rfl
  | true =>
    rcases sLt_tri b c with h1 | h1 | h1
    · rw [sLt_trans h1 e] at h; cases h
    · subst h1; rw [h] at e; cases e
    · rw [h1] at h'; cases h'
theorem meet_iff {a b : SpanM} : meet a b = true ↔ ∃ k, inSpan a k = true ∧ inSpan b k = true := by
  unfold meet inSpan
  rw [Bool.and_eq_true, sMax_iff]
  constructor
  · rintro ⟨h1, h2⟩; exact ⟨_, h1, h2⟩
  · rintro ⟨k, h1, h2⟩
    rw [sIn_iff] at h1 h2
    simp only [sIn_iff]
    split
    · rename_i h
      exact ⟨⟨sLt_asymm h, sLe_trans h2.1 h1.2⟩, sLt_irrefl _, sLe_trans h2.1 h2.2⟩
    · rename_i h
      simp only [Bool.not_eq_true] at h
      exact ⟨⟨sLt_irrefl _, sLe_trans h1.1 h1.2⟩, h, sLe_trans h1.1 h2.2⟩
theorem meet_one {k : ByteArray} {p : SpanM} : meet (one k) p = inSpan p k := by
  rw [Bool.eq_iff_iff, meet_iff]
  unfold inSpan one
  constructor
  · rintro ⟨j, h1, h2⟩
    rw [sIn_iff] at h1
    have : j = k := by
      rcases sLt_tri j k with h | h | h
      · rw [h1.1] at h; cases h
      · exact h
      · rw [h1.2] at h; cases h
    subst this; exact h2
  · intro h; exact ⟨k, by rw [sIn_iff]; exact ⟨sLt_irrefl _, sLt_irrefl _⟩, h⟩
theorem set_app {A D : List RowM} {x y : RowM} {n : Nat} (h : A.length = n) : (A ++ x :: D).set n y = A ++ y :: D := by subst h; simp
theorem scan_eq {l : List RowM} (hl : Rising l) (s : SpanM) : (l.drop (lowI l s.a)).takeWhile (fun r => !sLt s.b r.key) = l.filter fun r => inSpan s r.key := by
  obtain ⟨A, D, rfl, ha, h1, h2, h3, h4⟩ := key_split hl s.a
  rw [← ha, List.drop_left, List.filter_append]
  have e1 : A.filter (fun r => inSpan s r.key) = [] := by
    rw [List.filter_eq_nil_iff]
    intro r hr h
    rw [inSpan, sIn_iff, h1 r hr] at h; cases h.1
  rw [e1, List.nil_append]
  clear ha e1 h1 hl h3
  induction D with
  | nil => rfl
  | cons x D ih =>
    have hp := List.pairwise_cons.1 h4
    have hx := h2 x (by simp)
    rw [List.takeWhile_cons, List.filter_cons]
    cases e : sLt s.b x.key with
    | false =>
      have : inSpan s x.key = true := by rw [inSpan, sIn_iff]; exact ⟨hx, e⟩
      simp [this, ih (fun r hr => h2 r (by simp [hr])) hp.2]
    | true =>
      have hn : inSpan s x.key = false := by
        cases e2 : inSpan s x.key with
        | false => rfl
        | true => rw [inSpan, sIn_iff, e] at e2; cases e2.2
      have : D.filter (fun r => inSpan s r.key) = [] := by
        rw [List.filter_eq_nil_iff]
        intro r hr h
        rw [inSpan, sIn_iff, sLt_trans e (hp.1 r hr)] at h; cases h.2
      simp [hn, this]
theorem meet_self {s : SpanM} {l : List RowM} (h : meet s s = false) : l.filter (fun r => inSpan s r.key) = [] := by
  rw [List.filter_eq_nil_iff]
  intro r _ hr
  have : meet s s = true := meet_iff.2 ⟨_, hr, hr⟩
  rw [h] at this; cases this
theorem has_at {l : List RowM} {k : ByteArray} (h : hasI l k = true) : ∃ u, l[lowI l k]? = some ⟨k, u⟩ := by
  unfold hasI at h
  cases e : l[lowI l k]? with
  | none => rw [e] at h; cases h
  | some r => rw [e] at h; have := sEq_iff.1 h; subst this; exact ⟨r.val, rfl⟩
theorem has_lt {l : List RowM} {k : ByteArray} (h : hasI l k = true) : lowI l k < l.length := by obtain ⟨u, hu⟩ := has_at h; exact idx_lt hu
theorem changeR_snoc (l : List RowM) (cs : List ChgM) (c : ChgM) : changeR l (cs ++ [c]) = applyC (changeR l cs) c := by simp [changeR]
theorem sgt_eq (a b : ByteArray) : (!(sLt a b || sEq a b)) = sLt b a := by
  rcases sLt_tri a b with h | h | h
  · simp [h, sLt_asymm h]
  · subst h; simp [sLt_irrefl, sEq_iff]
  · have : sEq a b = false := by
      cases e : sEq a b with
      | false => rfl
      | true => rw [sEq_iff.1 e, sLt_irrefl] at h; cases h
    simp [h, sLt_asymm h, this]
end Go.SL
/- The steps of the walk: one is put between the others, within a block. -/
set_option linter.unusedSimpArgs false
set_option linter.unusedVariables false
set_option linter.unusedSectionVars false
namespace Go.SL
open Go
theorem ins_cells {α : Type} {z o c : Nat} {enc : α → List Value} (he : EncOk z enc) {l : List Value} {A D : List α} {x : α} (hl : o + c * z ≤ l.length) (hc : (A ++ D).length + 1 ≤ c) (hcs : (l.drop o).take ((A ++ D).length * z) = (A ++ D).flatMap enc) :
    ((splice (splice l (o + (A.length + 1) * z) (D.flatMap enc)) (o + A.length * z) (enc x)).drop o).take (((A ++ D).length + 1) * z) = (A ++ x :: D).flatMap enc ∧
    (splice (splice l (o + (A.length + 1) * z) (D.flatMap enc)) (o + A.length * z) (enc x)).length = l.length ∧ (splice l (o + (A.length + 1) * z) (D.flatMap enc)).length = l.length ∧ (l.drop (o + A.length * z)).take (D.length * z) = D.flatMap enc := by
  have hm : ((A ++ D).length + 1) * z ≤ c * z := Nat.mul_le_mul_right _ hc
  have hlP : (l.take o).length = o := by simp; omega
  have el : l = l.take o ++ (A ++ D).flatMap enc ++ l.drop (o + (A ++ D).length * z) := by
    rw [← hcs, List.append_assoc]
    conv => lhs; rw [← List.take_append_drop o l]
    congr 1
    rw [← List.drop_drop]; exact (List.take_append_drop _ _).symm
  have hQ : (l.drop (o + (A ++ D).length * z)).length = l.length - (o + (A ++ D).length * z) := by simp
  generalize hP : l.take o = P at el hlP
  generalize l.drop (o + (A ++ D).length * z) = Q at el hQ
  have hfA := flat_len he A
  have hfD := flat_len he D
  have hfx := he.len x
  rw [List.length_append] at hm hQ
  simp only [Nat.add_mul, Nat.one_mul] at hm hQ
  have hW : (D.flatMap enc ++ Q).length = D.length * z + Q.length := by simp [hfD]
  have e1 : l = (P ++ A.flatMap enc ++ (D.flatMap enc ++ Q).take z) ++ ((D.flatMap enc ++ Q).drop z).take (D.flatMap enc).length ++ ((D.flatMap enc ++ Q).drop z).drop (D.flatMap enc).length := by
    rw [List.append_assoc _ (List.take _ (List.drop _ _)), List.take_append_drop, List.append_assoc _ (List.take z _), List.take_append_drop, el]; simp
  have hU : (P ++ A.flatMap enc ++ (D.flatMap enc ++ Q).take z).length = o + (A.length + 1) * z := by
    simp only [List.length_append, List.length_take, hfA, hlP, hfD, Nat.add_mul, Nat.one_mul]; omega
  have hV : (((D.flatMap enc ++ Q).drop z).take (D.flatMap enc).length).length = (D.flatMap enc).length := by
    rw [List.length_take, List.length_drop, hW, hfD]; omega
  have s1 : splice l (o + (A.length + 1) * z) (D.flatMap enc) = (P ++ A.flatMap enc ++ (D.flatMap enc ++ Q).take z) ++ D.flatMap enc ++ ((D.flatMap enc ++ Q).drop z).drop (D.flatMap enc).length := by
    conv => lhs; rw [e1, ← hU]
    rw [splice_mid _ _ _ _ hV.symm]
  have hU2 : (P ++ A.flatMap enc).length = o + A.length * z := by simp [hfA, hlP]
  have hV2 : (enc x).length = ((D.flatMap enc ++ Q).take z).length := by rw [hfx, List.length_take, hW]; omega
  have s2 : splice (splice l (o + (A.length + 1) * z) (D.flatMap enc)) (o + A.length * z) (enc x) = (P ++ A.flatMap enc) ++ enc x ++ (D.flatMap enc ++ ((D.flatMap enc ++ Q).drop z).drop (D.flatMap enc).length) := by
    rw [s1, ← hU2, List.append_assoc _ (D.flatMap enc), splice_mid _ _ _ _ hV2]
  have hlen : l.length = P.length + (A.length * z + D.length * z) + Q.length := by
    conv => lhs; rw [el]
    simp only [List.length_append, List.flatMap_append, hfA, hfD]
  have hX : (((D.flatMap enc ++ Q).drop z).drop (D.flatMap enc).length).length = Q.length - z := by
    rw [List.length_drop, List.length_drop, hW, hfD]; omega
  have hY : ((D.flatMap enc ++ Q).take z).length = z := by rw [List.length_take, hW]; omega
  have hzQ : z ≤ Q.length := by omega
  clear e1 hV hV2 hW
  generalize ((D.flatMap enc ++ Q).drop z).drop (D.flatMap enc).length = T at *
  generalize (D.flatMap enc ++ Q).take z = Y at *
  refine ⟨?_, ?_, ?_, ?_⟩
  · rw [s2, show P ++ A.flatMap enc ++ enc x ++ (D.flatMap enc ++ T) = P ++ ((A ++ x :: D).flatMap enc ++ T) by simp]
    rw [← hlP, List.drop_left, show ((A ++ D).length + 1) * z = ((A ++ x :: D).flatMap enc).length by rw [flat_len he]; congr 1; simp; omega, List.take_left]
  · rw [s2, hlen]; simp only [List.length_append, hX, hfA, hfD, hfx]; omega
  · rw [s1, hlen]; simp only [List.length_append, hX, hY, hfA, hfD]; omega
  · conv => lhs; rw [el]
    rw [List.flatMap_append, ← List.append_assoc, List.append_assoc _ (D.flatMap enc), ← hU2, List.drop_left, ← hfD, List.take_left]
theorem over_ins {α : Type} (A D : List α) (x z0 : α) : over (over (A ++ List.replicate (D.length + 1) z0) A.length [x]) (A.length + 1) D = A ++ x :: D := by
  rw [over_eq A _ [x] A.length rfl (by simp)]
  rw [over_eq (A ++ [x]) _ D (A.length + 1) (by simp) (by simp)]
  simp
theorem flat_setF {α : Type} {z : Nat} {enc : α → List Value} (he : EncOk z enc) {xs : List α} {j f : Nat} {a a' : α} {b : Value} (hx : xs[j]? = some a) (hf : f < z) (hb : enc a' = (enc a).set f b) : splice (xs.flatMap enc) (j * z + f) [b] = (xs.set j a').flatMap enc := by
  have hj := idx_lt hx
  have hle : (j + 1) * z ≤ xs.length * z := Nat.mul_le_mul_right z hj
  rw [Nat.add_mul, Nat.one_mul] at hle
  rw [← flat_set he xs j a' hj]
  apply List.ext_getElem?
  intro i
  rw [splice_get _ _ _ (by rw [flat_len he]; simp; omega), splice_get _ _ _ (by rw [flat_len he, he.len]; omega), he.len, hb]
  simp only [List.length_cons, List.length_nil]
  by_cases h1 : i < j * z
  · simp [h1, show i < j * z + f by omega]
  · simp only [h1, if_false]
    by_cases h2 : i < j * z + z
    · simp only [h2, if_true]
      rw [List.getElem?_set]
      have hget : (xs.flatMap enc)[i]? = (enc a)[i - j * z]? := by
        have := flat_at he hx (i - j * z) (by omega)
        rwa [show j * z + (i - j * z) = i by omega] at this
      by_cases h3 : f = i - j * z
      · have : i = j * z + f := by omega
        subst this
        simp [he.len, hf]
      · simp only [h3, if_false]
        by_cases h4 : i < j * z + f
        · simp [h4, hget]
        · simp [h4, show ¬ i < j * z + f + 1 by omega, hget]
    · simp only [h2, if_false]
      simp [show ¬ i < j * z + f by omega, show ¬ i < j * z + f + 1 by omega]
theorem tw_stop {α : Type} {p : α → Bool} : ∀ {D : List α} {k : Nat} {x : α}, (∀ r ∈ D.take k, p r = true) → D[k]? = some x → p x = false → D.takeWhile p = D.take k
  | [], _, _, _, hx, _ => by simp at hx
  | a :: D, 0, x, _, hx, hp => by simp at hx; subst hx; simp [List.takeWhile_cons, hp]
  | a :: D, k + 1, x, h, hx, hp => by
    simp only [List.take_succ_cons, List.mem_cons] at h
    simp only [List.take_succ_cons, List.takeWhile_cons, h a (.inl rfl), if_true]
    rw [tw_stop (fun r hr => h r (.inr hr)) (by simpa using hx) hp]
theorem tw_all {α : Type} {p : α → Bool} {D : List α} (h : ∀ r ∈ D, p r = true) : D.takeWhile p = D := by
  induction D with
  | nil => rfl
  | cons a D ih => simp [List.takeWhile_cons, h a (by simp), ih (fun r hr => h r (by simp [hr]))]
theorem tw_more {α : Type} {p : α → Bool} : ∀ {D : List α} {k : Nat} {x : α}, (∀ r ∈ D.take k, p r = true) → D[k]? = some x → p x = true → D.take k ++ [x] <+: D.takeWhile p
  | [], _, _, _, hx, _ => by simp at hx
  | a :: D, 0, x, _, hx, hp => by simp at hx; subst hx; simp [List.takeWhile_cons, hp]
  | a :: D, k + 1, x, h, hx, hp => by
    simp only [List.take_succ_cons, List.mem_cons] at h
    simp only [List.take_succ_cons, List.takeWhile_cons, h a (.inl rfl), if_true, List.cons_append]
    rw [List.cons_prefix_cons]
    exact ⟨rfl, tw_more (fun r hr => h r (.inr hr)) (by simpa using hx) hp⟩
theorem CallV.more {P : Program} {g : World} {y : Value} {args : List Value} {Pre : List HP} {A : HP} {v : Value} (h : CallV P g y args Pre fun K R => K v R) : CallV P g y args (A :: Pre) fun K R => K v (A :: R) := fun R K w r hw hT =>
  h (A :: R) K w r (hw.conv fun S hS => stars_move hS) hT
theorem CallV.pu {P : Program} {g : World} {y : Value} {args : List Value} {A : HP} {v : Value} (h : CallV P g y args [] fun K R => K v R) : CallV P g y args [A] fun K R => K v (A :: R) := h.more
end Go.SL
set_option linter.unusedSimpArgs false
set_option linter.unusedVariables false
namespace Go.SL.W9
open Go Go.Proofs Go.SL
theorem mixedOk : Tryz.prog.follows .mixedOrders = true := by kernel_rfl
theorem ov1_187 : (Tryz.f187.name == "runtime.NumGoroutine") = false := by kernel_rfl
theorem ov2_187 : Tryz.f187.body.isNone = true := by kernel_rfl
theorem ov3_187 : Extern.findNext Tryz.f187 = none := by kernel_rfl
theorem ov4_187 : Extern.find Tryz.f187 = some (Extern.SlicesOverlaps.overlaps #[29, 29] #[4]) := by kernel_rfl
theorem sl29 : slOf Tryz.prog 29 = some (40, 2, 24) := by kernel_rfl
theorem z40 : zeroOf Tryz.prog 40 = some [.string .empty, .int .u32 0] := by kernel_rfl
end Go.SL.W9
namespace Go.SL
open Go Go.Proofs W9
theorem Insert_spec {g : World} {u : Value} {A D : List RowM} {x : RowM} {bv : Nat} (hn : (A ++ D).length ≤ 68719476000) :
    Spec Tryz.prog g 160 [u, .int .i64 A.length, (.slice (some ⟨bv, 0, none⟩) 1 1)] [Sl 40 2 RowM.c u (A ++ D), cl bv 40 (RowM.c x)] fun K R => ∀ a m c, K (.slice a m c) (Sl 40 2 RowM.c (.slice a m c) (A ++ x :: D) :: R) := by
  have hlen : (A ++ D).length = A.length + D.length := by simp
  refine Spec.intro Tryz.func160 rfl Tryz.ntmps160 rfl fun R K hK => ?_
  refine WP.seq ?_
  refine WP.reg ?_
  refine WL.e e_assign ?_
  refine WL.next ?_
  refine WP.seq ?_
  refine WP.reg ?_
  refine WL.e e_move <| WL.e e_move ?_
  refine WL.e (el_from (lo := A.length) sl29 (sl_rl (xs := A ++ D)) (by simp)) ?_
  refine WL.next ?_
  refine WP.seq ?_
  refine WP.reg ?_
  refine WL.e e_move ?_
  refine WL.e (e_len_sl sl29) <| WL.e e_assign ?_
  refine WL.next ?_
  refine WP.seq ?_
  refine WP.seq ?_
  refine WP.reg ?_
  refine WL.e e_move <| WL.e e_eql ?_
  refine WL.next ?_
  refine WP.cond rfl (fun h0 => ?_) (fun h0 => ?_)
  · simp at h0
  · skip
    refine WP.skip ?_
    refine PO.next ?_
    refine WP.seq ?_
    refine WP.reg ?_
    refine WL.e e_move ?_
    refine WL.e (el_len sl29 (sl_rl (xs := A ++ D))) <| WL.e e_assign ?_
    refine WL.next ?_
    refine WP.seq ?_
    refine WP.seq ?_
    refine WP.reg ?_
    refine WL.e e_move <| WL.e e_move <| WL.e e_eql ?_
    refine WL.next ?_
    refine WP.cond rfl (fun h1 => ?_) (fun h1 => ?_)
    · obtain rfl : D = [] := List.eq_nil_of_length_eq_zero (by simp at h1; omega)
      refine WP.seq ?_
      refine WP.reg ?_
      refine WL.e e_move <| WL.e e_move ?_
      refine WL.h (hl_append (xs := A ++ []) (ys := [x]) sl29 rowE z40 (lit_rl (b := bv) (E := 40) (l := RowM.c x) rowE [x] (by simp)) (by simp at hn ⊢; omega) (fun a m c => ?_))
      rw [List.append_nil]
      refine WL.e e_assign ?_
      refine WL.next ?_
      refine WP.ret ?_
      refine PO.past nofun ?_
      exact PO.fin Tryz.results160 (rv_tmp rv_nil) (hK a m c)
    · have hD0 : 0 < D.length := by simp at h1; omega
      refine WP.own_open (n := (A ++ D).length) (by omega) (by exact .z) ?_
      rintro b o c l rfl hnc hc hl hcs
      have hcA : (l.drop o).take (A.length * 2) = A.flatMap RowM.c := by
        have := congrArg (List.take (A.length * 2)) hcs
        rwa [List.take_take, Nat.min_eq_left (Nat.mul_le_mul_right _ (by omega)), List.flatMap_append, List.take_left' (flat_len rowE A)] at this
      have hA0 : At (subAt (.slice (some ⟨b, o, none⟩) (A ++ D).length c) 0 A.length c 2) b o A.length c := by have := (At.lit (b := b) (o := o) hnc).sub (lo := 0) (hi := A.length) (m := c) (z := 2) (by omega) (by omega) (Nat.le_refl _); simpa using this
      have hAD : At (subAt (.slice (some ⟨b, o, none⟩) (A ++ D).length c) A.length (A ++ D).length c 2) b (o + A.length * 2) D.length (c - A.length) := by have := (At.lit (b := b) (o := o) hnc).sub (lo := A.length) (hi := (A ++ D).length) (m := c) (z := 2) (by omega) (by omega) (Nat.le_refl _); rwa [show (A ++ D).length - A.length = D.length by omega] at this
      refine WP.skip ?_
      refine PO.next ?_
      refine WP.seq ?_
      refine WP.seq ?_
      refine WP.reg ?_
      refine WL.e e_move <| WL.e e_move <| WL.e (e_add (c := (((A ++ D).length + 1 : Nat) : Int)) rfl rfl (by rw [w_i64 (by omega) (by omega)]; omega)) <| WL.e e_move ?_
      refine WL.e (e_cap sl29 rfl (At.lit hnc)) <| WL.e e_gtr ?_
      refine WL.next ?_
      refine WP.cond rfl (fun h2 => ?_) (fun h2 => ?_)
      · replace h2 : c < (A ++ D).length + 1 := by simp at h2; omega
        have hgro : ∀ u, Own 40 2 u (A.length + (D.length + 1)) ((l.drop o).take (A.length * 2) ++ (List.replicate (D.length + 1) [.string .empty, .int .u32 0]).flatten) = Sl 40 2 RowM.c u (A ++ List.replicate (D.length + 1) ⟨.empty, 0⟩) := fun u => by
          unfold Sl
          rw [hcA, List.flatMap_append, show (List.replicate (D.length + 1) (⟨.empty, 0⟩ : RowM)).flatMap RowM.c = (List.replicate (D.length + 1) [.string .empty, .int .u32 0]).flatten by simp [List.flatMap_replicate]; rfl, List.length_append, List.length_replicate]
        refine WP.seq ?_
        refine WP.reg ?_
        refine WL.e e_move <| WL.e e_move ?_
        refine WL.e (e_slice_at (lo := 0) (hi := A.length) (m := c) (c := c) (n := (A ++ D).length) sl29 rfl (At.lit hnc) (.inl ⟨rfl, rfl⟩) (.inr ⟨_, _, rfl, rfl⟩) (.inl ⟨rfl, rfl⟩) (by omega) (by omega) (Nat.le_refl _)) <| WL.e e_move <| WL.e e_move <| WL.e (e_add (c := (((A ++ D).length + 1 : Nat) : Int)) rfl rfl (by rw [w_i64 (by omega) (by omega)]; omega)) <| WL.e e_move <| WL.e (e_sub (c := ((D.length + 1 : Nat) : Int)) rfl rfl (by rw [w_i64 (by omega) (by omega)]; omega)) ?_
        refine WL.h (h_grow (n := A.length) (c := c) (k := D.length + 1) (b := b) (o := o) sl29 Tryz.underlying3 z40 rfl hA0 hl (by omega) (by omega) (by decide) (by decide) (fun a3 n3 c3 => ?_))
        rw [hgro]
        refine WL.e e_assign ?_
        refine WL.next ?_
        refine WP.seq ?_
        refine WP.reg ?_
        refine WL.e e_move <| WL.e e_move ?_
        refine WL.e (el_from (lo := A.length) sl29 (sl_rl (xs := (A ++ List.replicate (D.length + 1) ⟨.empty, 0⟩))) (by simp)) <| WL.e e_move ?_
        refine WL.h (hl_copy (lo := A.length) (xs := (A ++ List.replicate (D.length + 1) ⟨.empty, 0⟩)) (ys := [x]) sl29 rowE (by simp) (lit_rl (b := bv) (E := 40) (l := RowM.c x) rowE [x] (by simp)) ?_)
        refine WL.next ?_
        refine WP.seq ?_
        refine WP.draws mixedOk 9 ?_
        refine RW.e 0 rfl e_move <| RW.e 1 rfl e_move <| RW.e 2 rfl e_move <| RW.e 3 rfl (e_add (c := ((A.length + 1 : Nat) : Int)) rfl rfl (by rw [w_i64 (by omega) (by omega)]; omega)) ?_
        refine RW.e 4 rfl (el_from (lo := A.length + 1) sl29 (sl_rl (xs := over (A ++ List.replicate (D.length + 1) ⟨.empty, 0⟩) A.length [x])) (by rw [over_len _ _ _ (by simp)]; simp)) <| RW.e 5 rfl e_move <| RW.e 6 rfl e_move ?_
        refine RW.e 7 rfl (e_slice_at (lo := A.length) (hi := (A ++ D).length) (m := c) (c := c) (n := (A ++ D).length) sl29 rfl (At.lit hnc) (.inr ⟨_, _, rfl, rfl⟩) (.inl ⟨rfl, rfl, rfl⟩) (.inl ⟨rfl, rfl⟩) (by omega) (by omega) (Nat.le_refl _)) ?_
        refine RW.any (is := [8]) rfl ⟨?_, trivial⟩
        refine RWat.h rfl rfl rfl ?_
        refine (hl_copy (lo := A.length + 1) (xs := over (A ++ List.replicate (D.length + 1) ⟨.empty, 0⟩) A.length [x]) (ys := D) (B := cl b 40 l) sl29 rowE (by rw [over_len _ _ _ (by simp)]; simp) (rd_part rowE hAD (by have : (c - A.length) * 2 = c * 2 - A.length * 2 := Nat.sub_mul _ _ _; have := Nat.mul_le_mul_right 2 (show A.length ≤ c by omega); omega) rfl (by have := congrArg (List.drop (A.length * 2)) hcs; rw [List.drop_take, flat_drop rowE, List.drop_drop, ← Nat.sub_mul, List.drop_left] at this; rwa [show (A ++ D).length - A.length = D.length by omega] at this)) ?_)
        refine ⟨trivial, ?_⟩
        refine RW.done ?_
        refine PO.next ?_
        refine WP.seq ?_
        refine WP.reg ?_
        refine WL.e e_move <| WL.e e_assign ?_
        refine WL.next ?_
        refine WP.ret ?_
        refine PO.past nofun ?_
        rw [over_ins]
        exact PO.fin Tryz.results160 (rv_tmp rv_nil) (hK a3 n3 c3)
      · replace h2 : (A ++ D).length + 1 ≤ c := by simp at h2; omega
        obtain ⟨ic1, ic2, ic3, ic4⟩ := ins_cells (x := x) rowE hl h2 hcs
        have hones : ones (((l.drop (o + A.length * 2)).take ((D.length + 1) * 2)).take (Nat.min (D.length + 1) D.length * 2)) = true := by rw [show Nat.min (D.length + 1) D.length = D.length from Nat.min_eq_right (by omega), List.take_take, Nat.min_eq_left (Nat.mul_le_mul_right 2 (show D.length ≤ D.length + 1 by omega)), ic4]; exact ones_flat rowE D
        have hmz : ((A ++ D).length + 1) * 2 ≤ c * 2 := Nat.mul_le_mul_right _ h2
        have hA2 : At (subAt (.slice (some ⟨b, o, none⟩) (A ++ D).length c) 0 ((A ++ D).length + 1) c 2) b o ((A ++ D).length + 1) c := by have := (At.lit (b := b) (o := o) hnc).sub (lo := 0) (hi := (A ++ D).length + 1) (m := c) (z := 2) (by omega) h2 (Nat.le_refl _); simpa using this
        have hA3 : At (subAt (subAt (.slice (some ⟨b, o, none⟩) (A ++ D).length c) 0 ((A ++ D).length + 1) c 2) (A.length + 1) ((A ++ D).length + 1) c 2) b (o + (A.length + 1) * 2) D.length (c - (A.length + 1)) := by have := hA2.sub (lo := A.length + 1) (hi := (A ++ D).length + 1) (m := c) (z := 2) (by omega) h2 (Nat.le_refl _); rwa [show (A ++ D).length + 1 - (A.length + 1) = D.length by omega] at this
        have hOv : ∃ o2, subAt (subAt (.slice (some ⟨b, o, none⟩) (A ++ D).length c) 0 ((A ++ D).length + 1) c 2) (A.length + 1) ((A ++ D).length + 1) c 2 = .slice (some ⟨b, o2, none⟩) D.length (c - (A.length + 1)) := ⟨_, by obtain ⟨y, hy, _, rfl | h⟩ := hA3; exact hy; omega⟩
        have hA4 : At (subAt (subAt (.slice (some ⟨b, o, none⟩) (A ++ D).length c) 0 ((A ++ D).length + 1) c 2) A.length ((A ++ D).length + 1) c 2) b (o + A.length * 2) (D.length + 1) (c - A.length) := by have := hA2.sub (lo := A.length) (hi := (A ++ D).length + 1) (m := c) (z := 2) (by omega) h2 (Nat.le_refl _); rwa [show (A ++ D).length + 1 - A.length = D.length + 1 by omega] at this
        refine WP.skip ?_
        refine PO.next ?_
        refine WP.seq ?_
        refine WP.reg ?_
        refine WL.e e_move <| WL.e e_move <| WL.e e_move <| WL.e (e_add (c := (((A ++ D).length + 1 : Nat) : Int)) rfl rfl (by rw [w_i64 (by omega) (by omega)]; omega)) ?_
        refine WL.e (e_slice_at (lo := 0) (hi := (A ++ D).length + 1) (m := c) (c := c) (n := (A ++ D).length) sl29 rfl (At.lit hnc) (.inl ⟨rfl, rfl⟩) (.inr ⟨_, _, rfl, rfl⟩) (.inl ⟨rfl, rfl⟩) (by omega) h2 (Nat.le_refl _)) <| WL.e e_assign ?_
        refine WL.next ?_
        refine WP.seq ?_
        refine WP.seq ?_
        refine WP.reg ?_
        refine WL.e e_move <| WL.e e_move <| WL.e e_move <| WL.e e_move <| WL.e (e_add (c := ((A.length + 1 : Nat) : Int)) rfl rfl (by rw [w_i64 (by omega) (by omega)]; omega)) ?_
        refine WL.e (e_slice_at (lo := A.length + 1) (hi := (A ++ D).length + 1) (m := c) (c := c) (n := (A ++ D).length + 1) sl29 rfl hA2 (.inr ⟨_, _, rfl, rfl⟩) (.inl ⟨rfl, rfl, rfl⟩) (.inl ⟨rfl, rfl⟩) (by omega) h2 (Nat.le_refl _)) ?_
        refine WL.h (h_overlaps (U := 40) (l1 := RowM.c x) (l2 := l) (b1 := bv) (b2 := b) (n2 := D.length) (c2 := c - (A.length + 1)) (n1 := 1) (c1 := 1) (o1 := 0) Tryz.func187 ov1_187 ov2_187 ov3_187 ov4_187 sl29 rfl hOv (by repeat first | exact .z | apply Pick.s) (by repeat first | exact .z | apply Pick.s) (by omega) ?_)
        refine WL.e e_not ?_
        refine WL.next ?_
        refine WP.cond_t rfl ?_
        refine WP.seq ?_
        refine WP.draws mixedOk 9 ?_
        refine RW.e 0 rfl e_move <| RW.e 1 rfl e_move <| RW.e 2 rfl e_move <| RW.e 3 rfl (e_add (c := ((A.length + 1 : Nat) : Int)) rfl rfl (by rw [w_i64 (by omega) (by omega)]; omega)) ?_
        refine RW.e 4 rfl (e_slice_at (lo := A.length + 1) (hi := (A ++ D).length + 1) (m := c) (c := c) (n := (A ++ D).length + 1) sl29 rfl hA2 (.inr ⟨_, _, rfl, rfl⟩) (.inl ⟨rfl, rfl, rfl⟩) (.inl ⟨rfl, rfl⟩) (by omega) h2 (Nat.le_refl _)) <| RW.e 5 rfl e_move <| RW.e 6 rfl e_move ?_
        refine RW.e 7 rfl (e_slice_at (lo := A.length) (hi := (A ++ D).length + 1) (m := c) (c := c) (n := (A ++ D).length + 1) sl29 rfl hA2 (.inr ⟨_, _, rfl, rfl⟩) (.inl ⟨rfl, rfl, rfl⟩) (.inl ⟨rfl, rfl⟩) (by omega) h2 (Nat.le_refl _)) ?_
        refine RW.any (is := [8]) rfl ⟨?_, trivial⟩
        refine RWat.h rfl rfl rfl ?_
        refine (h_copy (n := D.length) (c := c - (A.length + 1)) (k := D.length + 1) (o := o + (A.length + 1) * 2) (U := 40) (l := l) (ds := (l.drop (o + A.length * 2)).take ((D.length + 1) * 2)) (B := cl b 40 l) sl29 hA3 (by have : (c - (A.length + 1)) * 2 = c * 2 - (A.length + 1) * 2 := Nat.sub_mul _ _ _; have := Nat.mul_le_mul_right 2 (show A.length + 1 ≤ c by omega); omega) (hA4.rd (by have : (c - A.length) * 2 = c * 2 - A.length * 2 := Nat.sub_mul _ _ _; have := Nat.mul_le_mul_right 2 (show A.length ≤ c by omega); omega)) hones ?_)
        rw [show Nat.min (D.length + 1) D.length = D.length from Nat.min_eq_right (by omega), List.take_take, Nat.min_eq_left (Nat.mul_le_mul_right 2 (show D.length ≤ D.length + 1 by omega)), ic4]
        refine ⟨trivial, ?_⟩
        refine RW.done ?_
        refine PO.next ?_
        refine WP.seq ?_
        refine WP.reg ?_
        refine WL.e e_move <| WL.e e_move ?_
        refine WL.e (e_slice_at (lo := A.length) (hi := (A ++ D).length + 1) (m := c) (c := c) (n := (A ++ D).length + 1) sl29 rfl hA2 (.inr ⟨_, _, rfl, rfl⟩) (.inl ⟨rfl, rfl, rfl⟩) (.inl ⟨rfl, rfl⟩) (by omega) h2 (Nat.le_refl _)) <| WL.e e_move ?_
        refine WL.h (h_copy (n := D.length + 1) (c := c - A.length) (k := 1) (o := o + A.length * 2) (U := 40) (l := splice l (o + (A.length + 1) * 2) (D.flatMap RowM.c)) (ds := RowM.c x) (B := cl bv 40 (RowM.c x)) sl29 hA4 (by rw [ic3]; have : (c - A.length) * 2 = c * 2 - A.length * 2 := Nat.sub_mul _ _ _; have := Nat.mul_le_mul_right 2 (show A.length ≤ c by omega); omega) (cl_rd (b := bv) (n := 1) (c := 1) (o := 0) (z := 2) (Nat.le_refl 1) (by rw [rowE.len]; omega) (by rw [List.drop_zero, List.take_of_length_le (by rw [rowE.len]; omega)])) (ones_take _ (rowE.one x)) ?_)
        rw [show Nat.min 1 (D.length + 1) = 1 from Nat.min_eq_left (by omega), List.take_of_length_le (show (RowM.c x).length ≤ 1 * 2 by rw [rowE.len]; omega)]
        refine WL.next ?_
        refine WP.seq ?_
        refine WP.reg ?_
        refine WL.e e_move <| WL.e e_assign ?_
        refine WL.next ?_
        refine WP.ret ?_
        refine PO.past nofun ?_
        refine PO.cls (A := Sl 40 2 RowM.c (subAt (.slice (some ⟨b, o, none⟩) (A ++ D).length c) 0 ((A ++ D).length + 1) c 2) (A ++ x :: D)) (B := [cl b 40 _]) (fun S h => ?_) ?_
        · have h := stars_one h
          unfold Sl
          rw [show (A ++ x :: D).length = (A ++ D).length + 1 by simp; omega]
          refine at_own hA2 hc ?_ ?_ S h
          · rw [ic2]; exact hl
          · exact ic1
        exact PO.fin Tryz.results160 (rv_tmp rv_nil) (hK _ _ _)
end Go.SL
