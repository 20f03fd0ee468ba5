/- W7 W8 SLq SLr SLw SLx: rules and walks, several texts in one. -/
import Derived.Test.YtdpmpcoekkhceaaGreatQN8
import Derived.Test.YtdpmpcoekkhceaaGreatProg
import Derived.KernelRfl
set_option linter.unusedSimpArgs false
set_option linter.unusedVariables false
namespace Go.SL.W7
open Go Go.Proofs Go.SL
theorem a108 : aggOf Tryz.prog 108 = some (some 3) := by kernel_rfl
theorem a22 : aggOf Tryz.prog 22 = some none := by kernel_rfl
theorem a4 : aggOf Tryz.prog 4 = some none := by kernel_rfl
theorem a9 : aggOf Tryz.prog 9 = some none := by kernel_rfl
theorem f108_0 : fldOf Tryz.prog 108 0 = some 0 := by kernel_rfl
theorem f108_1 : fldOf Tryz.prog 108 1 = some 1 := by kernel_rfl
theorem f108_2 : fldOf Tryz.prog 108 2 = some 2 := by kernel_rfl
theorem k158 : callable Tryz.prog 158 = true := by kernel_rfl
theorem k85 : callable Tryz.prog 85 = true := by kernel_rfl
theorem sl103 : slOf Tryz.prog 103 = some (108, 3, 24) := by kernel_rfl
end Go.SL.W7
namespace Go.SL
open Go Go.Proofs W7
theorem ext_of {l : List Value} {n : Nat} (h : l.length = n) : Ext l 0 n l := h ▸ ext_all l
theorem index_at {α : Type} {p : α → Bool} {xs : List α} {i : Nat} {x : α} (h : (xs.take i).any p = false) (hx : xs[i]? = some x) (hp : p x = true) : (if xs.any p then ((xs.findIdx p : Nat) : Int) else -1) = i := by
  have h1 : xs.any p = true := List.any_eq_true.2 ⟨x, List.mem_of_getElem? hx, hp⟩
  rw [if_pos h1]
  congr 1
  have hlt := idx_lt hx
  rw [List.findIdx_eq hlt]
  refine ⟨by rw [List.getElem?_eq_getElem hlt] at hx; cases hx; exact hp, fun j hj => ?_⟩
  rw [List.any_eq_false] at h
  have := h xs[j] (by rw [List.mem_take_iff_getElem]; exact ⟨j, by omega, rfl⟩)
  simpa using this
theorem IndexC_spec {g : World} {A B : HP} {u y : Value} {xs : List (ChgM)} {p : ChgM → Bool} (hA : RL A 3 ChgM.c u xs) (hn : xs.length ≤ 68719476736) (hy : ∀ x, CallV Tryz.prog g y [.agg (ChgM.c x).toArray] [B] fun K R => K (.bool (p x)) (B :: R)) :
    Spec Tryz.prog g 158 [u, y] [A, B] fun K R => K (.int .i64 (if xs.any p then (xs.findIdx p : Nat) else -1)) (A :: B :: R) := by
  refine Spec.intro Tryz.func158 rfl Tryz.ntmps158 rfl fun R K hK => ?_
  refine WP.seq ?_
  refine WP.reg ?_
  refine WL.e e_assign ?_
  refine WL.next ?_
  refine WP.seq ?_
  refine WP.seq ?_
  refine WP.reg ?_
  refine WL.e e_move ?_
  refine WL.e (el_len sl103 hA) <| WL.e e_move ?_
  refine WL.next ?_
  refine WP.block ?_
  refine WP.loopK (fun (i : Nat) => [(8, .int .i64 i)]) (fun (i : Nat) => A :: B :: R) [(0, _), (1, _), (7, _)] (fun (i : Nat) => i ≤ xs.length ∧ (xs.take i).any p = false) (fun (i : Nat) => xs.length - i) 0 (⟨Nat.zero_le _, by simp⟩) ?_
  rintro i ⟨h1, h2⟩
  refine WP.seq ?_
  refine WP.reg ?_
  refine WL.e e_lss ?_
  refine WL.next ?_
  refine WP.seq ?_
  refine WP.cond rfl (fun h3 => ?_) (fun h3 => ?_)
  · have hlt : i < xs.length := by rw [decide_eq_true_eq] at h3; omega
    obtain ⟨x, hx⟩ : ∃ x, xs[i]? = some x := ⟨_, List.getElem?_eq_getElem hlt⟩
    refine WP.skip ?_
    refine PO.next ?_
    refine WP.seq ?_
    refine WP.block ?_
    refine WP.seq ?_
    refine WP.reg ?_
    refine WL.e e_move <| WL.e e_assign ?_
    refine WL.next ?_
    refine WP.seq ?_
    refine WP.reg ?_
    refine WL.e e_move <| WL.e e_move <| WL.e e_move ?_
    refine WL.e (el_ia sl103 hA hlt) ?_
    refine WL.e (el_loadN (vs := ChgM.c x) a108 chgE hA hx (hv := ext_of (chgE.len x))) ?_
    refine WL.h (h_cally (hy x) ?_)
    refine WL.next ?_
    refine WP.cond rfl (fun h4 => ?_) (fun h4 => ?_)
    · skip
      refine WP.seq ?_
      refine WP.reg ?_
      refine WL.e e_move <| WL.e e_assign ?_
      refine WL.next ?_
      refine WP.ret ?_
      refine PO.blockR ?_
      refine PO.past nofun ?_
      refine PO.round nofun ?_
      refine PO.blockR ?_
      refine PO.past nofun ?_
      exact PO.finE Tryz.results158 (rv_tmp rv_nil) (by rw [index_at h2 hx h4]; rfl) hK
    · skip
      refine WP.skip ?_
      refine PO.blockN ?_
      refine PO.next ?_
      refine WP.reg ?_
      refine WL.e (e_add rfl rfl (w_i64 (by omega) (by omega))) <| WL.e e_move ?_
      refine WL.nil ?_
      exact PO.againK (i + 1) ⟨by omega, by rw [take_snoc hx, List.any_append, h2]; simp [h4]⟩ (by omega)
  · have hall : xs.any p = false := by rw [decide_eq_false_iff_not] at h3; rwa [List.take_of_length_le (by omega)] at h2
    refine WP.exit ?_
    refine PO.past nofun ?_
    refine PO.round nofun ?_
    refine PO.blockX ?_
    refine PO.next ?_
    refine WP.seq ?_
    refine WP.reg ?_
    refine WL.e e_assign ?_
    refine WL.next ?_
    refine WP.ret ?_
    exact PO.finE Tryz.results158 (rv_tmp rv_nil) (by rw [hall]; rfl) hK
theorem ContainsC_spec {g : World} {A B : HP} {u y : Value} {xs : List ChgM} {p : ChgM → Bool} (hA : RL A 3 ChgM.c u xs) (hn : xs.length ≤ 68719476736) (hy : ∀ x, CallV Tryz.prog g y [.agg (ChgM.c x).toArray] [B] fun K R => K (.bool (p x)) (B :: R)) :
    Spec Tryz.prog g 123 [u, y] [A, B] fun K R => K (.bool (xs.any p)) (A :: B :: R) := by
  refine Spec.intro Tryz.func123 rfl Tryz.ntmps123 rfl fun R K hK => ?_
  refine WP.seq ?_
  refine WP.reg ?_
  refine WL.e e_assign ?_
  refine WL.next ?_
  refine WP.seq ?_
  refine WP.reg ?_
  refine WL.e e_move <| WL.e e_move ?_
  refine WL.h (h_call (IndexC_spec hA hn hy) k158 ?_)
  refine WL.e e_geq <| WL.e e_assign ?_
  refine WL.next ?_
  refine WP.ret ?_
  exact PO.finE Tryz.results123 (rv_tmp rv_nil) (by cases h : xs.any p <;> simp) hK
theorem bad_spec {g : World} (c : ChgM) : Spec Tryz.prog g 124 [c.v] [] fun K R => K (.bool (!chgOk c)) R := by
  refine Spec.intro Tryz.func124 rfl Tryz.ntmps124 rfl fun R K hK => ?_
  refine WP.seq ?_
  refine WP.reg ?_
  refine WL.h (h_box fun b1 => ?_)
  refine WL.e e_assign ?_
  refine WL.next ?_
  refine WP.seq ?_
  refine WP.reg ?_
  refine WL.e (e_fa f108_0) <| WL.e (e_load a9) ?_
  refine WL.h (h_call (Check_spec _) k85 ?_)
  refine WL.e e_not <| WL.e e_move ?_
  refine WL.bool 7 rfl (fun g1 => ?_) (fun g1 => ?_)
  · skip
    refine WL.skip <| WL.skip <| WL.skip <| WL.skip <| WL.skip <| WL.skip <| WL.skip <| WL.e e_pick_t <| WL.e e_assign ?_
    refine WL.next ?_
    refine WP.ret ?_
    exact PO.finE Tryz.results124 (rv_tmp rv_nil) (by simp_all [chgOk, bne]) hK
  · skip
    refine WL.e (e_fa f108_2) <| WL.e (e_load a4) <| WL.e e_move ?_
    refine WL.bool 10 rfl (fun g2 => ?_) (fun g2 => ?_)
    · skip
      refine WL.e (e_fa f108_1) <| WL.e (e_load a22) <| WL.e (e_neq32 (b := 0)) <| WL.e e_pick_t <| WL.e e_pick_f <| WL.e e_assign ?_
      refine WL.next ?_
      refine WP.ret ?_
      exact PO.finE Tryz.results124 (rv_tmp rv_nil) (by simp_all [chgOk, bne]) hK
    · skip
      refine WL.skip <| WL.skip <| WL.skip <| WL.e e_pick_f <| WL.e e_pick_f <| WL.e e_assign ?_
      refine WL.next ?_
      refine WP.ret ?_
      exact PO.finE Tryz.results124 (rv_tmp rv_nil) (by simp_all [chgOk, bne]) hK
end Go.SL
set_option linter.unusedSimpArgs false
set_option linter.unusedVariables false
namespace Go.SL.W8
open Go Go.Proofs Go.SL
theorem mixedOk : Tryz.prog.follows .mixedOrders = true := by kernel_rfl
theorem sl29 : slOf Tryz.prog 29 = some (40, 2, 24) := by kernel_rfl
theorem z40 : zeroOf Tryz.prog 40 = some [.string .empty, .int .u32 0] := by kernel_rfl
end Go.SL.W8
namespace Go.SL
open Go Go.Proofs W8
theorem Delete_spec {g : World} {u : Value} {xs : List RowM} {i : Nat} {x : RowM} (hx : xs[i]? = some x) (hn : xs.length ≤ 68719476736) :
    Spec Tryz.prog g 159 [u, .int .i64 i, .int .i64 (i + 1 : Nat)] [Sl 40 2 RowM.c u xs] fun K R => ∀ a m c, K (.slice a m c) (Sl 40 2 RowM.c (.slice a m c) (xs.eraseIdx i) :: R) := by
  obtain ⟨A, D, rfl, rfl⟩ := split_el hx
  rw [erase_mid]
  refine Spec.intro Tryz.func159 rfl Tryz.ntmps159 rfl fun R K hK => ?_
  refine WP.own_open (n := (A ++ x :: D).length) (by simp; omega) (by exact .z) ?_
  rintro b o c l rfl hnc hc hl hcs
  have hlen : (A ++ x :: D).length = A.length + 1 + D.length := by simp; omega
  have hRL : RL (cl b 40 l) 2 RowM.c (.slice (some ⟨b, o, none⟩) (A ++ x :: D).length c) (A ++ x :: D) := rd_part rowE (At.lit hnc) hl rfl hcs
  have hA0 : At (subAt (.slice (some ⟨b, o, none⟩) (A ++ x :: D).length c) 0 A.length c 2) b o A.length c := by have := (At.lit (b := b) (o := o) hnc).sub (lo := 0) (hi := A.length) (m := c) (z := 2) (by omega) (by omega) (Nat.le_refl _); simpa using this
  have hAD : At (subAt (.slice (some ⟨b, o, none⟩) (A ++ x :: D).length c) (A.length + 1) (A ++ x :: D).length c 2) b (o + (A.length + 1) * 2) D.length (c - (A.length + 1)) := by have := (At.lit (b := b) (o := o) hnc).sub (lo := A.length + 1) (hi := (A ++ x :: D).length) (m := c) (z := 2) (by omega) (by omega) (Nat.le_refl _); rwa [show (A ++ x :: D).length - (A.length + 1) = D.length by omega] at this
  have hD : Rd (cl b 40 l) 2 (subAt (.slice (some ⟨b, o, none⟩) (A ++ x :: D).length c) (A.length + 1) (A ++ x :: D).length c 2) D.length (D.flatMap RowM.c) := rd_part rowE hAD (by omega) rfl (cells_tail rowE hcs)
  refine WP.seq ?_
  refine WP.reg ?_
  refine WL.e e_assign ?_
  refine WL.next ?_
  refine WP.seq ?_
  refine WP.reg ?_
  refine WL.e e_move <| WL.e e_move <| WL.e e_move <| WL.e e_move ?_
  refine WL.e (el_len sl29 hRL) ?_
  refine WL.e (e_slice_at (lo := A.length) (hi := A.length + 1) (m := (A ++ x :: D).length) (c := c) (n := (A ++ x :: D).length) sl29 rfl (At.lit hnc) (.inr ⟨_, _, rfl, rfl⟩) (.inr ⟨_, _, rfl, rfl⟩) (.inr ⟨_, _, rfl, rfl⟩) (by omega) (by omega) hnc) ?_
  refine WL.next ?_
  refine WP.seq ?_
  refine WP.seq ?_
  refine WP.reg ?_
  refine WL.e e_move <| WL.e e_move <| WL.e e_eql ?_
  refine WL.next ?_
  refine WP.cond rfl (fun h1 => ?_) (fun h1 => ?_)
  · rw [beq_iff_eq] at h1; omega
  · skip
    refine WP.skip ?_
    refine PO.next ?_
    refine WP.seq ?_
    refine WP.reg ?_
    refine WL.e e_move ?_
    refine WL.e (el_len sl29 hRL) <| WL.e e_assign ?_
    refine WL.next ?_
    refine WP.seq ?_
    refine WP.draws mixedOk 8 ?_
    refine RW.e 0 rfl e_move <| RW.e 1 rfl e_move ?_
    refine RW.e 2 rfl (e_slice_at (lo := 0) (hi := A.length) (m := c) (c := c) (n := (A ++ x :: D).length) sl29 rfl (At.lit hnc) (.inl ⟨rfl, rfl⟩) (.inr ⟨_, _, rfl, rfl⟩) (.inl ⟨rfl, rfl⟩) (by omega) (by omega) (Nat.le_refl _)) <| RW.e 3 rfl e_move <| RW.e 4 rfl e_move ?_
    refine RW.e 5 rfl (e_slice_at (lo := A.length + 1) (hi := (A ++ x :: D).length) (m := c) (c := c) (n := (A ++ x :: D).length) sl29 rfl (At.lit hnc) (.inr ⟨_, _, rfl, rfl⟩) (.inl ⟨rfl, rfl, rfl⟩) (.inl ⟨rfl, rfl⟩) (by omega) (by omega) (Nat.le_refl _)) ?_
    refine RW.any (is := [6]) rfl ⟨?_, trivial⟩
    refine RWat.h rfl rfl rfl ?_
    refine (h_append_at (n := A.length) (c := c) (k := D.length) (o := o) (l := l) (ds := D.flatMap RowM.c) sl29 hA0 hl hD (ones_flat rowE D) (by omega) (fun a2 hAt => ?_))
    refine ⟨trivial, ?_⟩
    refine RW.any (is := [7]) rfl ⟨?_, trivial⟩
    refine RWat.h rfl rfl rfl ?_
    refine HO.of_eo e_assign ?_
    refine ⟨trivial, ?_⟩
    refine RW.done ?_
    refine PO.next ?_
    refine WP.seq ?_
    refine WP.reg ?_
    refine WL.e e_move <| WL.e e_move ?_
    refine WL.e (e_len_sl sl29) <| WL.e e_move ?_
    refine WL.e (e_slice_at (lo := A.length + D.length) (hi := (A ++ x :: D).length) (m := c) (c := c) (n := A.length + D.length) sl29 rfl hAt (.inr ⟨_, _, rfl, rfl⟩) (.inr ⟨_, _, rfl, rfl⟩) (.inl ⟨rfl, rfl⟩) (by omega) (by omega) (Nat.le_refl _)) ?_
    obtain ⟨hd1, hd2⟩ := del_cells (zs := [.string .empty, .int .u32 0]) rowE hl hnc hcs rfl
    refine WL.h' (h_clear (T := 29) (n := 1) (c := c - (A.length + D.length)) (o := o + (A.length + D.length) * 2) (b := b) (l := splice l (o + A.length * 2) (D.flatMap RowM.c)) sl29 z40 (by have := hAt.sub (lo := A.length + D.length) (hi := (A ++ x :: D).length) (m := c) (z := 2) (by omega) (by omega) (Nat.le_refl _); rwa [show (A ++ x :: D).length - (A.length + D.length) = 1 by omega] at this) (by rw [splice_len _ _ _ (by rw [flat_len rowE]; omega)]; omega) ?_)
    rw [show (List.replicate 1 [Value.string .empty, Value.int .u32 0]).flatten = [.string .empty, .int .u32 0] from rfl]
    refine WL.next ?_
    refine WP.seq ?_
    refine WP.reg ?_
    refine WL.e e_move <| WL.e e_assign ?_
    refine WL.next ?_
    refine WP.ret ?_
    refine PO.cls (A := Sl 40 2 RowM.c (.slice a2 (A.length + D.length) c) (A ++ D)) (B := [cl b 40 _]) (fun S h => ?_) ?_
    · have h := stars_one h
      unfold Sl
      rw [List.length_append]
      refine at_own hAt hc ?_ ?_ S h
      · rw [hd2]; exact hl
      · rw [List.length_append] at hd1; exact hd1
    exact PO.fin Tryz.results159 (rv_tmp rv_nil) (hK a2 (A.length + D.length) c)
end Go.SL
/- The steps of the walk: one is put between the others, within a block. -/
set_option linter.unusedSimpArgs false
set_option linter.unusedVariables false
set_option linter.unusedSectionVars false
namespace Go.SL
open Go
theorem ins_cells {α : Type} {z o c : Nat} {enc : α → List Value} (he : EncOk z enc) {l : List Value} {A D : List α} {x : α} (hl : o + c * z ≤ l.length) (hc : (A ++ D).length + 1 ≤ c) (hcs : (l.drop o).take ((A ++ D).length * z) = (A ++ D).flatMap enc) :
    ((splice (splice l (o + (A.length + 1) * z) (D.flatMap enc)) (o + A.length * z) (enc x)).drop o).take (((A ++ D).length + 1) * z) = (A ++ x :: D).flatMap enc ∧
    (splice (splice l (o + (A.length + 1) * z) (D.flatMap enc)) (o + A.length * z) (enc x)).length = l.length ∧ (splice l (o + (A.length + 1) * z) (D.flatMap enc)).length = l.length ∧ (l.drop (o + A.length * z)).take (D.length * z) = D.flatMap enc := by
  have hm : ((A ++ D).length + 1) * z ≤ c * z := Nat.mul_le_mul_right _ hc
  have hlP : (l.take o).length = o := by simp; omega
  have el : l = l.take o ++ (A ++ D).flatMap enc ++ l.drop (o + (A ++ D).length * z) := by
    rw [← hcs, List.append_assoc]
    conv => lhs; rw [← List.take_append_drop o l]
    congr 1
    rw [← List.drop_drop]; exact (List.take_append_drop _ _).symm
  have hQ : (l.drop (o + (A ++ D).length * z)).length = l.length - (o + (A ++ D).length * z) := by simp
  generalize hP : l.take o = P at el hlP
  generalize l.drop (o + (A ++ D).length * z) = Q at el hQ
  have hfA := flat_len he A
  have hfD := flat_len he D
  have hfx := he.len x
  rw [List.length_append] at hm hQ
  simp only [Nat.add_mul, Nat.one_mul] at hm hQ
  have hW : (D.flatMap enc ++ Q).length = D.length * z + Q.length := by simp [hfD]
  have e1 : l = (P ++ A.flatMap enc ++ (D.flatMap enc ++ Q).take z) ++ ((D.flatMap enc ++ Q).drop z).take (D.flatMap enc).length ++ ((D.flatMap enc ++ Q).drop z).drop (D.flatMap enc).length := by
    rw [List.append_assoc _ (List.take _ (List.drop _ _)), List.take_append_drop, List.append_assoc _ (List.take z _), List.take_append_drop, el]; simp
  have hU : (P ++ A.flatMap enc ++ (D.flatMap enc ++ Q).take z).length = o + (A.length + 1) * z := by
    simp only [List.length_append, List.length_take, hfA, hlP, hfD, Nat.add_mul, Nat.one_mul]; omega
  have hV : (((D.flatMap enc ++ Q).drop z).take (D.flatMap enc).length).length = (D.flatMap enc).length := by
    rw [List.length_take, List.length_drop, hW, hfD]; omega
  have s1 : splice l (o + (A.length + 1) * z) (D.flatMap enc) = (P ++ A.flatMap enc ++ (D.flatMap enc ++ Q).take z) ++ D.flatMap enc ++ ((D.flatMap enc ++ Q).drop z).drop (D.flatMap enc).length := by
    conv => lhs; rw [e1, ← hU]
    rw [splice_mid _ _ _ _ hV.symm]
  have hU2 : (P ++ A.flatMap enc).length = o + A.length * z := by simp [hfA, hlP]
  have hV2 : (enc x).length = ((D.flatMap enc ++ Q).take z).length := by rw [hfx, List.length_take, hW]; omega
  have s2 : splice (splice l (o + (A.length + 1) * z) (D.flatMap enc)) (o + A.length * z) (enc x) = (P ++ A.flatMap enc) ++ enc x ++ (D.flatMap enc ++ ((D.flatMap enc ++ Q).drop z).drop (D.flatMap enc).length) := by
    rw [s1, ← hU2, List.append_assoc _ (D.flatMap enc), splice_mid _ _ _ _ hV2]
  have hlen : l.length = P.length + (A.length * z + D.length * z) + Q.length := by
    conv => lhs; rw [el]
    simp only [List.length_append, List.flatMap_append, hfA, hfD]
  have hX : (((D.flatMap enc ++ Q).drop z).drop (D.flatMap enc).length).length = Q.length - z := by
    rw [List.length_drop, List.length_drop, hW, hfD]; omega
  have hY : ((D.flatMap enc ++ Q).take z).length = z := by rw [List.length_take, hW]; omega
  have hzQ : z ≤ Q.length := by omega
  clear e1 hV hV2 hW
  generalize ((D.flatMap enc ++ Q).drop z).drop (D.flatMap enc).length = T at *
  generalize (D.flatMap enc ++ Q).take z = Y at *
  refine ⟨?_, ?_, ?_, ?_⟩
  · rw [s2, show P ++ A.flatMap enc ++ enc x ++ (D.flatMap enc ++ T) = P ++ ((A ++ x :: D).flatMap enc ++ T) by simp]
    rw [← hlP, List.drop_left, show ((A ++ D).length + 1) * z = ((A ++ x :: D).flatMap enc).length by rw [flat_len he]; congr 1; simp; omega, List.take_left]
  · rw [s2, hlen]; simp only [List.length_append, hX, hfA, hfD, hfx]; omega
  · rw [s1, hlen]; simp only [List.length_append, hX, hY, hfA, hfD]; omega
  · conv => lhs; rw [el]
    rw [List.flatMap_append, ← List.append_assoc, List.append_assoc _ (D.flatMap enc), ← hU2, List.drop_left, ← hfD, List.take_left]
theorem over_ins {α : Type} (A D : List α) (x z0 : α) : over (over (A ++ List.replicate (D.length + 1) z0) A.length [x]) (A.length + 1) D = A ++ x :: D := by
  rw [over_eq A _ [x] A.length rfl (by simp)]
  rw [over_eq (A ++ [x]) _ D (A.length + 1) (by simp) (by simp)]
  simp
theorem flat_setF {α : Type} {z : Nat} {enc : α → List Value} (he : EncOk z enc) {xs : List α} {j f : Nat} {a a' : α} {b : Value} (hx : xs[j]? = some a) (hf : f < z) (hb : enc a' = (enc a).set f b) : splice (xs.flatMap enc) (j * z + f) [b] = (xs.set j a').flatMap enc := by
  have hj := idx_lt hx
  have hle : (j + 1) * z ≤ xs.length * z := Nat.mul_le_mul_right z hj
  rw [Nat.add_mul, Nat.one_mul] at hle
  rw [← flat_set he xs j a' hj]
  apply List.ext_getElem?
  intro i
  rw [splice_get _ _ _ (by rw [flat_len he]; simp; omega), splice_get _ _ _ (by rw [flat_len he, he.len]; omega), he.len, hb]
  simp only [List.length_cons, List.length_nil]
  by_cases h1 : i < j * z
  · simp [h1, show i < j * z + f by omega]
  · simp only [h1, if_false]
    by_cases h2 : i < j * z + z
    · simp only [h2, if_true]
      rw [List.getElem?_set]
      have hget : (xs.flatMap enc)[i]? = (enc a)[i - j * z]? := by
        have := flat_at he hx (i - j * z) (by omega)
        rwa [show j * z + (i - j * z) = i by omega] at this
      by_cases h3 : f = i - j * z
      · have : i = j * z + f := by omega
        subst this
        simp [he.len, hf]
      · simp only [h3, if_false]
        by_cases h4 : i < j * z + f
        · simp [h4, hget]
        · simp [h4, show ¬ i < j * z + f + 1 by omega, hget]
    · simp only [h2, if_false]
      simp [show ¬ i < j * z + f by omega, show ¬ i < j * z + f + 1 by omega]
theorem tw_stop {α : Type} {p : α → Bool} : ∀ {D : List α} {k : Nat} {x : α}, (∀ r ∈ D.take k, p r = true) → D[k]? = some x → p x = false → D.takeWhile p = D.take k
  | [], _, _, _, hx, _ => by simp at hx
  | a :: D, 0, x, _, hx, hp => by simp at hx; subst hx; simp [List.takeWhile_cons, hp]
  | a :: D, k + 1, x, h, hx, hp => by
    simp only [List.take_succ_cons, List.mem_cons] at h
    simp only [List.take_succ_cons, List.takeWhile_cons, h a (.inl rfl), if_true]
    rw [tw_stop (fun r hr => h r (.inr hr)) (by simpa using hx) hp]
theorem tw_all {α : Type} {p : α → Bool} {D : List α} (h : ∀ r ∈ D, p r = true) : D.takeWhile p = D := by
  induction D with
  | nil => rfl
  | cons a D ih => simp [List.takeWhile_cons, h a (by simp), ih (fun r hr => h r (by simp [hr]))]
theorem tw_more {α : Type} {p : α → Bool} : ∀ {D : List α} {k : Nat} {x : α}, (∀ r ∈ D.take k, p r = true) → D[k]? = some x → p x = true → D.take k ++ [x] <+: D.takeWhile p
  | [], _, _, _, hx, _ => by simp at hx
  | a :: D, 0, x, _, hx, hp => by simp at hx; subst hx; simp [List.takeWhile_cons, hp]
  | a :: D, k + 1, x, h, hx, hp => by
    simp only [List.take_succ_cons, List.mem_cons] at h
    simp only [List.take_succ_cons, List.takeWhile_cons, h a (.inl rfl), if_true, List.cons_append]
    rw [List.cons_prefix_cons]
    exact ⟨rfl, tw_more (fun r hr => h r (.inr hr)) (by simpa using hx) hp⟩
theorem CallV.more {P : Program} {g : World} {y : Value} {args : List Value} {Pre : List HP} {A : HP} {v : Value} (h : CallV P g y args Pre fun K R => K v R) : CallV P g y args (A :: Pre) fun K R => K v (A :: R) := fun R K w r hw hT =>
  h (A :: R) K w r (hw.conv fun S hS => stars_move hS) hT
theorem CallV.pu {P : Program} {g : World} {y : Value} {args : List Value} {A : HP} {v : Value} (h : CallV P g y args [] fun K R => K v R) : CallV P g y args [A] fun K R => K v (A :: R) := h.more
end Go.SL
/- The steps of the walk: a range over a function that lends something to each round. -/
set_option linter.unusedSimpArgs false
set_option linter.unusedVariables false
set_option linter.unusedSectionVars false
namespace Go.SL
open Go
/-- The contract of an iterator that lends 'Lend' to each round. -/
def IterL {α : Type} (Lend : HP) (P : Program) (g : World) (f : FuncId) (args : Value → List Value) (Pre : List HP) (enc : α → List Value) (Res : α → HP) (All Pfx : List α → Prop) (Out : List HP) : Prop :=
  ∀ (y : Value) (J : List α → HP) (X : List α → α → HP) (cont : List α → α → Prop),
    (∀ pre x, Pfx (pre ++ [x]) → Hist cont pre → CallV P g y (enc x) [J pre, Res x, Lend] fun K R => (cont pre x → K (.bool true) (J (pre ++ [x]) :: Lend :: R)) ∧ (¬ cont pre x → K (.bool false) (X pre x :: Lend :: R))) →
    Spec P g f (args y) (J [] :: Pre) fun K R => (∀ xs, All xs → Hist cont xs → K (.tuple #[]) (J xs :: (Out ++ R))) ∧
      (∀ pre x, Pfx (pre ++ [x]) → Hist cont pre → ¬ cont pre x → K (.tuple #[]) (X pre x :: (Out ++ R)))
section
variable {P : Program} {r : Option Nat} {g : World} {Γ : Env} {L M : List HP}
theorem WP.rangeL {α : Type} {enc : α → List Value} {gop : Operand} {ps : List Tmp} {assign body : Code} {fs cs : List Value} {f : FuncId} {n : Nat} {D : List Deferred} {l : List (Nat × Value)} {Pre Out R : List HP} {All Pfx : List α → Prop} {Q : Post} {Lend : HP}
    (J : List α → HP) (X : List α → α → Code → HP) (cont : List α → α → Prop) {Res : α → HP} (hit : IterL Lend P g f (fun y => fs ++ [y] ++ cs) Pre enc Res All Pfx Out) (hf : callable P f = true)
    (hL : Split L (J [] :: Pre) R)
    (hbody : ∀ lb db fn tmps pre x R', Pfx (pre ++ [x]) → Hist cont pre → WP P (some lb) g assign (AsgP P g lb body (RndP P g lb ⟨.busy, none, fn, tmps, ps.toArray, assign, body, db⟩ (J (pre ++ [x])) (X pre x) (cont pre x) (Lend :: R'))) ⟨n, [], setParams ps (enc x) l⟩ (Lp lb ⟨.ready, none, fn, tmps, ps.toArray, assign, body, db⟩ :: J pre :: Res x :: Lend :: R'))
    (hdone : ∀ db xs, All xs → Hist cont xs → PO g Q .normal ⟨n, ⟨.collected db, #[]⟩ :: D, l⟩ (J xs :: pt db (.deferred (some [])) :: (Out ++ R)))
    (hstop : ∀ db pre x j, Pfx (pre ++ [x]) → Hist cont pre → ¬ cont pre x → WP P none g j Q ⟨n, ⟨.collected db, #[]⟩ :: D, l⟩ (X pre x j :: pt db (.deferred (some [])) :: (Out ++ R)))
    (hpl : ∀ x, (enc x).length = ps.length) (hg : ev ⟨n, D, l⟩ gop = some (.func (.func f) fs.toArray cs.toArray) := by rfl) (hps : ps.all (Nat.blt · n) = true := by rfl) : WP P none g (.rangeFunc gop ps.toArray assign body) Q ⟨n, D, l⟩ L := by
  intro a w ha hw
  refine wpIn_rangeFunc fun fn _ => ?_
  let db := w.heap.size
  let lb := w.heap.size + 1
  let rec0 : Loop := ⟨.ready, none, fn, a.tmps, ps.toArray, assign, body, db⟩
  let w1 : World := (w.alloc (.deferred (some []))).alloc (.loop rec0)
  have hent : (Instr.enterLoop fn a.tmps ps.toArray assign body (FR none).round).run P w = .ok (lb, [⟨.collected db, #[]⟩]) w1 := by
    unfold Instr.enterLoop
    simp [FR, Fence.wide, w1, lb, db, rec0]
  refine ⟨lb, [⟨.collected db, #[]⟩], w1, { target := .fn (.func f) cs.toArray, args := fs.toArray ++ #[Value.func (.yield lb) #[] #[]] }, w1, f, (fs ++ [Value.func (.yield lb) #[] #[]] ++ cs).toArray, w1, hent, ?_, fun _ _ => trivial, ?_, depth_FR none 0, ?_⟩
  · simp only [resolve, ev_ok hg ha]
    simp [Deferred.ofValue, Act.eval]
  · simp only [invoke]; rw [callFunc_enter hf]; simp
  · -- the call of the iterator
    let J' : List α → HP := fun pre => bun [Lp lb rec0, J pre]
    let X' : List α → α → HP := fun pre x => ex fun j : Code => bun [Lp lb { rec0 with state := .done, pending := some j }, X pre x j]
    have hy : ∀ pre x, Pfx (pre ++ [x]) → Hist cont pre → CallV P g (.func (.yield lb) #[] #[]) (enc x) [J' pre, Res x, Lend] fun K R => (cont pre x → K (.bool true) (J' (pre ++ [x]) :: Lend :: R)) ∧ (¬ cont pre x → K (.bool false) (X' pre x :: Lend :: R)) := by
      intro pre x hp hh R' K w2 r2 hw2 ⟨hT1, hT2⟩
      have hw3 : Sat g (Lp lb rec0 :: J pre :: Res x :: Lend :: R') w2 := hw2.conv fun _ => stars_bun
      refine ⟨{ target := .fn (.yield lb) #[], args := (enc x).toArray }, _, w2, fun w => by simp [Deferred.ofValue], yield_run (rec := rec0) (hw3.get .z) (by simp [rec0, hpl]), ?_⟩
      show RoundIn (FR r2) 0 P lb fn ((ps.toArray.zip (enc x).toArray).foldl (fun tmps (t, a) => tmps.setIfInBounds t a) a.tmps) assign body w2 (RetK g K)
      refine roundIn_of_wpIn trivial ?_
      have hΓ : Env.ok ⟨n, [], setParams ps (enc x) l⟩ ⟨(ps.toArray.zip (enc x).toArray).foldl (fun tmps (t, a) => tmps.setIfInBounds t a) a.tmps, []⟩ := setParams_ok hps ⟨ha.size, rfl, ha.at_⟩
      refine wpIn_mono (hbody lb db fn a.tmps pre x R' hp hh _ w2 hΓ hw3) ?_
      intro e a₁ w₁ hq
      cases e <;> first | exact hq.elim | skip
      obtain ⟨w₂, hb, hq⟩ := hq
      refine ⟨w₂, hb, wpIn_mono hq ?_⟩
      intro e a₂ w₃ hq
      have fin : ∀ v w₄, ((cont pre x ∧ Ending.returned v = .returned (.bool true) ∧ Sat g (Lp lb { rec0 with state := .ready, pending := none } :: J (pre ++ [x]) :: Lend :: R') w₄) ∨ (¬ cont pre x ∧ Ending.returned v = .returned (.bool false) ∧ ∃ j, Sat g (Lp lb { rec0 with state := .done, pending := some j } :: X pre x j :: Lend :: R') w₄)) → RetK g K (.returned v) w₄ := by
        rintro v w₄ (⟨hc, e1, h1⟩ | ⟨hc, e1, j, h1⟩)
        · cases e1
          exact ⟨_, _, rfl, hT1 hc, h1.conv fun _ => bun_stars (L := [_, _])⟩
        · cases e1
          exact ⟨_, _, rfl, hT2 hc, h1.conv fun _ h => ex_stars j (bun_stars (L := [_, _]) h)⟩
      cases e <;> first | exact hq.elim | skip
      all_goals
        obtain ⟨v, w₄, h1, h2⟩ := hq
        exact ⟨v, w₄, h1, fin v w₄ h2⟩
    have hw1 : Sat g (J' [] :: Pre ++ (pt db (.deferred (some [])) :: R)) w1 := by
      have h1 := hw.push (.deferred (some []))
      have h2 := h1.push (.loop rec0)
      refine h2.conv fun S hS => ?_
      have h3 : (w.alloc (.deferred (some []))).heap.size = lb := by simp [lb]
      have hS' : stars (Lp lb rec0 :: pt db (.deferred (some [])) :: L) S := by
        have := hS; simp only [World.alloc] at h3; rw [h3] at this; exact this
      have h4 : stars (Lp lb rec0 :: pt db (.deferred (some [])) :: (J [] :: Pre ++ R)) S := stars_cons (fun _ => stars_cons (fun _ => hL.to)) hS'
      refine bun_stars (L := [Lp lb rec0, J []]) ?_
      refine stars_cons (fun S h => ?_) h4
      have h5 : stars (J [] :: pt db (.deferred (some [])) :: (Pre ++ R)) S := stars_swap h
      exact stars_cons (fun S h => stars_move h) h5
    have hcall := hit (.func (.yield lb) #[] #[]) J' X' cont hy (pt db (.deferred (some [])) :: R) (fun v M => ∀ w3, Sat g M w3 → rangePost (FR none) 0 P lb Q { a with defers := [⟨.collected db, #[]⟩] ++ a.defers } (.returned v) w3) w1 hw1 ?_
    · refine HO.enter.callsIn_fr (hcall.mono ?_)
      rintro e w3 ⟨v, M, rfl, hk, hw3⟩
      exact hk w3 hw3
    · have haD : Env.ok ⟨n, ⟨.collected db, #[]⟩ :: D, l⟩ { a with defers := [⟨.collected db, #[]⟩] ++ a.defers } := ⟨ha.size, by simp [show a.defers = D from ha.defers], ha.at_⟩
      refine ⟨fun xs hx hh w3 hw3 => ?_, fun pre x hp hh hc w3 hw3 => ?_⟩
      · have h1 : Sat g (Lp lb rec0 :: J xs :: (Out ++ pt db (.deferred (some [])) :: R)) w3 := hw3.conv fun _ => stars_bun
        refine ⟨none, _, run_endLoop (h1.get .z) rfl, ?_⟩
        have h2 := lp_set (rec' := { rec0 with state := .exhausted }) h1
        exact hdone db xs hx hh _ _ haD (h2.conv fun _ h => stars_cons (fun _ => stars_unmove) (stars_tail h))
      · obtain ⟨j, h1⟩ : ∃ j, Sat g (Lp lb { rec0 with state := .done, pending := some j } :: X pre x j :: (Out ++ pt db (.deferred (some [])) :: R)) w3 := by
          obtain ⟨j, hj⟩ := stars_ex hw3.heap
          exact ⟨j, hw3.os, hw3.tape, hw3.output, hw3.size, stars_bun hj⟩
        refine ⟨some j, _, run_endLoop (h1.get .z) rfl, ?_⟩
        have h2 := lp_set (rec' := { rec0 with state := .exhausted, pending := some j }) h1
        exact hstop db pre x j hp hh hc _ _ haD (h2.conv fun _ h => stars_cons (fun _ => stars_unmove) (stars_tail h))
theorem own_to {S : Piece} {E z n i : Nat} {u : Value} {cs : List Value} (h : Own E z u n cs S) (hi : i ≤ n) : Own E z (subV u 0 i none z) i (cs.take (i * z)) S := by
  rcases h with ⟨rfl, h2, a, h3⟩ | ⟨b, o, c, l, rfl, h2, h3, h4, h5, h6⟩
  · have : i = 0 := by omega
    subst this; subst h2; subst h3
    exact .inl ⟨rfl, by simp, a, by simp [subV]⟩
  · refine .inr ⟨b, o, c, l, ?_, by omega, h3, h4, h5, ?_⟩
    · simp [subV, add_none]
    · rw [h6, List.take_take, Nat.min_eq_left (Nat.mul_le_mul_right _ hi)]
theorem sl_to {α : Type} {S : Piece} {E z i : Nat} {u : Value} {enc : α → List Value} {xs : List α} (he : EncOk z enc) (h : Sl E z enc u xs S) (hi : i ≤ xs.length) : Sl E z enc (subV u 0 i none z) (xs.take i) S := by
  have := own_to h hi
  unfold Sl
  rw [List.length_take, Nat.min_eq_left hi, ← flat_take he]; exact this
theorem hl_clear {α : Type} {T E z y lo : Nat} {x : Operand} {enc : α → List Value} {u w' : Value} {zs : List Value} {xs : List α} {N : List HP} {K : Value → List HP → Prop} (z0 : α) (hs : slOf P T = some (E, z, y)) (hz : zeroOf P E = some zs) (he : EncOk z enc) (hz0 : enc z0 = zs) (hlo : lo ≤ xs.length) (h0 : 0 < xs.length)
    (hK : K (.tuple #[]) N) (hu : w' = subV u lo xs.length none z := by rfl) (hx : ev Γ x = some w' := by rfl) (hp : Put L (Sl E z enc u xs) (Sl E z enc u (xs.take lo ++ List.replicate (xs.length - lo) z0)) N := by repeat first | exact .z | apply Put.s) {dst : Option Tmp} {t : TypeId} {pos : String} {aft : Array Edge} {gd : Option (Nat × Bool)} : HO P r g ⟨dst, .call ⟨.builtin .clear, #[x], #[T]⟩, t, pos, aft, gd⟩ Γ L K := by
  intro a w Q next ha hw hn
  obtain ⟨R, p1, p2⟩ := hp.picks
  obtain ⟨S1, S2, hd, l1, l2, h1, h2⟩ := p1.to hw.heap
  obtain ⟨b, o, c, l, e1, e2, e3, e4, e5, e6⟩ := own_at h1 h0
  have hw' : Sat g (cl b E l :: R) w := ⟨hw.os, hw.tape, hw.output, hw.size, S1, S2, hd, l1, l2, e6, h2⟩
  have hA : At w' b (o + lo * z) (xs.length - lo) (c - lo) := by
    rw [hu, e1]
    exact (At.lit (b := b) (o := o) e2).sub (lo := lo) (hi := xs.length) (m := c) (z := z) hlo e2 (Nat.le_refl _)
  have hcz : (c - lo) * z = c * z - lo * z := Nat.sub_mul _ _ _
  have hlz : lo * z ≤ c * z := Nat.mul_le_mul_right _ (by omega)
  have hnz : xs.length * z ≤ c * z := Nat.mul_le_mul_right _ e2
  have hnz2 : lo * z ≤ xs.length * z := Nat.mul_le_mul_right _ hlo
  have hnz3 : (xs.length - lo) * z = xs.length * z - lo * z := Nat.sub_mul _ _ _
  have hrl : ((List.replicate (xs.length - lo) zs).flatten).length = (xs.length - lo) * z := by simp [← hz0, he.len]
  refine h_clear (K := fun v M => K v N ∧ M = cl b E (splice l (o + lo * z) (List.replicate (xs.length - lo) zs).flatten) :: R) (L := cl b E l :: R) (l := l) (b := b) (U := E) (N := _ :: R) hs hz hA (by omega) ?_ (by rw [← hz0]; exact he.len z0) (by rw [← hz0]; exact he.one z0) hx .z a w Q next ha hw' ?_
  · exact ⟨hK, rfl⟩
  · rintro v M w2 ⟨hk, rfl⟩ hw2
    refine hn v N w2 hk (hw2.conv fun S hS => p2.back (stars_one_cons (fun S h => ?_) hS))
    unfold Sl
    have hlen : (xs.take lo ++ List.replicate (xs.length - lo) z0).length = xs.length := by simp; omega
    rw [hlen, e1]
    refine at_own (At.lit e2) e3 ?_ ?_ S h
    · rw [splice_len _ _ _ (by rw [hrl]; omega)]; exact e4
    · apply List.ext_getElem?
      intro i
      rw [td_get, splice_get _ _ _ (by rw [hrl]; omega), hrl, List.flatMap_append, List.getElem?_append, flat_len he, List.length_take, Nat.min_eq_left hlo]
      have hi5 : ∀ i, i < xs.length * z → l[o + i]? = (xs.flatMap enc)[i]? := fun i hi => by rw [← e5, td_get, if_pos hi]
      by_cases h1 : i < lo * z
      · rw [if_pos (by omega), if_pos (by omega), if_pos h1, hi5 i (by omega), ← flat_take he, List.getElem?_take, if_pos h1]
      · rw [if_neg h1]
        by_cases h2 : i < xs.length * z
        · rw [if_pos h2, if_neg (by omega), if_pos (by omega), show o + i - (o + lo * z) = i - lo * z by omega, List.flatMap_replicate, hz0]
        · rw [if_neg h2]
          symm; apply List.getElem?_eq_none
          rw [List.flatMap_replicate, hz0, hrl]; omega
where
  stars_one_cons {A B : HP} {R : List HP} {S : Piece} (h : ∀ S, A S → B S) (hs : stars (A :: R) S) : stars (B :: R) S := by
    obtain ⟨S1, S2, a, b, c, d, e⟩ := hs; exact ⟨S1, S2, a, b, c, h _ d, e⟩
theorem e_min32 {dst : Option Tmp} {t : TypeId} {pos : String} {aft : Array Edge} {gd : Option (Nat × Bool)} {x y : Operand} {T U : TypeId} {a b : UInt32} (hx : ev Γ x = some (.int .u32 a.toNat) := by rfl) (hy : ev Γ y = some (.int .u32 b.toNat) := by rfl) : EO P g ⟨dst, .call ⟨.builtin .min, #[x, y], #[T, U]⟩, t, pos, aft, gd⟩ Γ L (.int .u32 (if b < a then b else a).toNat) := by
  have h := e_minI (P := P) (g := g) (L := L) (dst := dst) (t := t) (pos := pos) (aft := aft) (gd := gd) (T := T) (U := U) hx hy
  have e : (if (b.toNat : Int) < a.toNat then (b.toNat : Int) else a.toNat) = ((if b < a then b else a).toNat : Nat) := by
    by_cases h : b < a
    · rw [if_pos h, if_pos (by have := UInt32.lt_iff_toNat_lt.1 h; omega)]
    · rw [if_neg h, if_neg (by intro h'; exact h (UInt32.lt_iff_toNat_lt.2 (by omega)))]
  rw [← e]; exact h
theorem CallV.bun {y v : Value} {args : List Value} {L : List HP} (h : CallV P g y args L fun K R => K v (L ++ R)) : CallV P g y args [SL.bun L] fun K R => K v (SL.bun L :: R) := by
  intro R K w r hw hT
  obtain ⟨d, nx, w', h1, h2, h3⟩ := h R (fun u M => u = v ∧ M = L ++ R) w r (hw.conv fun _ => stars_bun) ⟨rfl, rfl⟩
  have hm : ∀ e w, RetK g (fun u M => u = v ∧ M = L ++ R) e w → RetK g K e w := by
    rintro e w ⟨u, M, rfl, ⟨rfl, rfl⟩, hs⟩
    exact ⟨_, _, rfl, hT, hs.conv fun _ => bun_stars⟩
  refine ⟨d, nx, w', h1, h2, ?_⟩
  cases nx <;> simp only at h3 ⊢ <;> first | exact h3.elim | exact h3.mono hm | exact RoundIn.mono h3 hm
theorem e_mne {κ : Type} [DecidableEq κ] {ek : κ → Value} {kvs : List (κ × Value)} {m : Value} {dst : Option Tmp} {t : TypeId} {pos : String} {aft : Array Edge} {gd : Option (Nat × Bool)} {xt yt kt e : TypeId} {x y : Operand} (hT : P.underlying xt = some (.map kt e)) (hx : ev Γ x = some m := by rfl) (hy : ev Γ y = some (.map none) := by rfl) (hp : Pick L (Mp ek m kvs) M := by repeat first | exact .z | apply Pick.s) :
    EO P g ⟨dst, .binOp .neq xt x y yt, t, pos, aft, gd⟩ Γ L (.bool true) :=
  .of (by simp) fun ρ hρ w hw => by
    have h1 := hρ x m (by simp [Op.operands]) hx
    have h2 := hρ y _ (by simp [Op.operands]) hy
    obtain ⟨b, es, clock, rfl, _⟩ := hw.mp hp
    show ((do pure (Next.value (← (do eqGuard .neq xt x y (ρ x) (ρ y); binOp .neq xt (ρ x) (ρ y) : Sem Value))) : Sem Next)).run P w = _
    rw [h1, h2, eqGuard_at_map]
    show ((do pure (Next.value (← (do pure (.bool (!(← Op.equal xt (.map (some b)) (.map none)))) : Sem Value))) : Sem Next)).run P w = _
    have he : (Op.equal xt (.map (some b)) (.map none)).run P w = .ok false w := by
      unfold Op.equal; rw [show Op.maxDepth = 9999 + 1 from rfl]; unfold Op.equalIn; simp only [Sem.run_bind, run_underlying hT, Result.andThen_ok]; rfl
    simp only [Sem.run_bind, he, Result.andThen_ok, Sem.run_pure]; rfl
theorem MpIt_Mp {κ : Type} {ek : κ → Value} {m it : Value} {kvs left : List (κ × Value)} {cur : Option (κ × Value)} : ∀ S, MpIt ek m it kvs left cur S → Mp ek m kvs S := fun S h => by
  obtain ⟨b, i, es, clock, seen, rfl, _, _, hb, _, h3, h4, h5, _⟩ := h
  exact ⟨b, es, clock, rfl, hb, h3, h4, h5⟩
theorem lit_own {α : Type} {z b n : Nat} {E : TypeId} {enc : α → List Value} (he : EncOk z enc) {l : List Value} (xs : List α) (h : xs.flatMap enc = l) (hn : xs.length = n) (hb : n < 9223372036854775808) : ∀ S, cl b E l S → Sl E z enc (.slice (some ⟨b, 0, none⟩) n n) xs S := fun S hS => by
  unfold Sl
  have hl : l.length = n * z := by rw [← h, flat_len he, hn]
  rw [hn]
  refine at_own (At.lit (Nat.le_refl n)) hb (by omega) ?_ S hS
  rw [List.drop_zero, List.take_of_length_le (by omega), h]
theorem hist_all {α : Type} {c : α → Prop} {xs : List α} (h : Hist (fun _ x => c x) xs) : ∀ x ∈ xs, c x := fun x hx => by
  obtain ⟨A, B, rfl⟩ := List.append_of_mem hx
  exact h A x B rfl
end
end Go.SL
/- The steps of the walk: the end of a slice that is owned; a map that is looked at, or set, while it is gone through. -/
set_option linter.unusedSimpArgs false
set_option linter.unusedVariables false
set_option linter.unusedSectionVars false
namespace Go.SL
open Go
theorem own_from {S : Piece} {E z n i : Nat} {u : Value} {cs : List Value} (h : Own E z u n cs S) (hi : i < n) : Own E z (subV u i n none z) (n - i) (cs.drop (i * z)) S := by
  rcases h with ⟨rfl, _⟩ | ⟨b, o, c, l, rfl, h2, h3, h4, h5, h6⟩
  · omega
  · have e1 : c * z = i * z + (c - i) * z := by rw [← Nat.add_mul]; congr 1; omega
    refine .inr ⟨b, o + i * z, c - i, l, ?_, by omega, by omega, h4, by omega, ?_⟩
    · simp only [subV, Option.getD_none, if_neg (show ¬ c = i by omega), Option.map_some, add_none]
    · rw [h6, List.drop_take, List.drop_drop, ← Nat.sub_mul]
theorem sl_from {α : Type} {S : Piece} {E z i : Nat} {u : Value} {enc : α → List Value} {xs : List α} (he : EncOk z enc) (h : Sl E z enc u xs S) (hi : i < xs.length) : Sl E z enc (subV u i xs.length none z) (xs.drop i) S := by
  have := own_from h hi
  unfold Sl
  rw [List.length_drop, ← flat_drop he]; exact this
theorem own_to3 {S : Piece} {E z n i : Nat} {u : Value} {cs : List Value} (h : Own E z u n cs S) (hi : i ≤ n) : Own E z (subV u 0 i (some i) z) i (cs.take (i * z)) S := by
  rcases h with ⟨rfl, h2, a, h3⟩ | ⟨b, o, c, l, rfl, h2, h3, h4, h5, h6⟩
  · have : i = 0 := by omega
    subst this; subst h2; subst h3
    exact .inl ⟨rfl, by simp, a, by simp [subV]⟩
  · rcases Nat.eq_zero_or_pos i with rfl | h0
    · exact .inl ⟨rfl, by simp, _, by simp [subV]; rfl⟩
    · have e1 : i * z ≤ c * z := Nat.mul_le_mul_right z (by omega)
      refine .inr ⟨b, o, i, l, ?_, Nat.le_refl _, by omega, h4, by omega, ?_⟩
      · simp only [subV, Option.getD_some, if_neg (show ¬ i = 0 by omega), Option.map_some, Nat.zero_mul, add_none, Nat.sub_zero, Nat.add_zero]
      · rw [h6, List.take_take, Nat.min_eq_left (Nat.mul_le_mul_right _ hi)]
theorem sl_to3 {α : Type} {S : Piece} {E z i : Nat} {u : Value} {enc : α → List Value} {xs : List α} (he : EncOk z enc) (h : Sl E z enc u xs S) (hi : i ≤ xs.length) : Sl E z enc (subV u 0 i (some i) z) (xs.take i) S := by
  have := own_to3 h hi
  unfold Sl
  rw [List.length_take, Nat.min_eq_left hi, ← flat_take he]; exact this
/-- In 'A' the map 'm' holds these. -/
def RdM {κ : Type} (A : HP) (ek : κ → Value) (m : Value) (kvs : List (κ × Value)) : Prop := ∀ S, A S → ∃ b es clock, m = .map (some b) ∧ S b = some (.map (List.toArray es) clock) ∧ ents ek es kvs
theorem mp_rdm {κ : Type} {ek : κ → Value} {m : Value} {kvs : List (κ × Value)} : RdM (Mp ek m kvs) ek m kvs := fun _ ⟨b, es, clock, h1, h2, h3, _⟩ => ⟨b, es, clock, h1, h2, h3⟩
theorem mpit_rdm {κ : Type} {ek : κ → Value} {m it : Value} {kvs left : List (κ × Value)} {cur : Option (κ × Value)} : RdM (MpIt ek m it kvs left cur) ek m kvs := fun _ ⟨b, _, es, clock, _, h1, _, _, h2, _, h3, _⟩ => ⟨b, es, clock, h1, h2, h3⟩
section
variable {P : Program} {r : Option Nat} {g : World} {Γ : Env} {L M : List HP} {dst : Option Tmp} {t : TypeId} {pos : String} {aft : Array Edge} {gd : Option (Nat × Bool)}
variable {κ : Type} [DecidableEq κ] {kt : TypeId} {d : TypeDesc} {ek : κ → Value} {kvs : List (κ × Value)} {m : Value} {A : HP}
theorem Sat.rdm {w : World} (h : Sat g L w) (hA : RdM A ek m kvs) (hp : Pick L A M) : ∃ b es clock, m = .map (some b) ∧ w.heap[b]? = some (.map (List.toArray es) clock) ∧ ents ek es kvs := by
  obtain ⟨S1, S2, _, h1, _, h2, _⟩ := hp.to h.heap
  obtain ⟨b, es, clock, e1, e2, e3⟩ := hA _ h2
  exact ⟨b, es, clock, e1, h1 _ _ e2, e3⟩
theorem em_len {x : Operand} {T : TypeId} {e : TypeId} (ht : P.underlying T = some (.map kt e)) (hA : RdM A ek m kvs) (hx : ev Γ x = some m := by rfl) (hp : Pick L A M := by repeat first | exact .z | apply Pick.s) : EO P g ⟨dst, .call ⟨.builtin .len, #[x], #[T]⟩, t, pos, aft, gd⟩ Γ L (.int .i64 kvs.length) :=
  e_call_b (args := [x]) (vs := [m]) (by simp [evs, hx]) fun w cs hw => by
    obtain ⟨b, es, clock, rfl, hb, h3⟩ := hw.rdm hA hp
    simp [builtin, Builtin.len_, run_underlying ht, run_getObj hb, goInt, ents_len h3]
theorem em_lookup {x i : Operand} {T e : TypeId} {k : κ} {z : Value} (ht : P.underlying T = some (.map kt e)) (hk : KeyOk P kt d ek) (hz : (P.info? e).bind (·.zero) = some z) (hA : RdM A ek m kvs) (hx : ev Γ x = some m := by rfl) (hi : ev Γ i = some (ek k) := by rfl) (hp : Pick L A M := by repeat first | exact .z | apply Pick.s) :
    EO P g ⟨dst, .lookup T x i false, t, pos, aft, gd⟩ Γ L ((mget kvs k).getD z) :=
  .of (by simp) fun ρ hρ w hw => by
    obtain ⟨b, es, clock, rfl, hb, h3⟩ := hw.rdm hA hp
    simp only [execOp, hρ x _ (by simp [Op.operands]) hx, hρ i _ (by simp [Op.operands]) hi, Instr.lookup, Sem.run_bind, run_underlying ht, Result.andThen_ok, run_getObj hb (by simp), Sem.run_pure, run_checkKey hk, run_findKey hk k h3]
    cases hm : midx kvs k with
    | none => simp [midx_none.1 hm, run_zeroValue hz]
    | some j => obtain ⟨v, _, h2⟩ := midx_some hm; simp [h2]
theorem em_lookup2 {x i : Operand} {T e : TypeId} {k : κ} {z : Value} (ht : P.underlying T = some (.map kt e)) (hk : KeyOk P kt d ek) (hz : (P.info? e).bind (·.zero) = some z) (hA : RdM A ek m kvs) (hx : ev Γ x = some m := by rfl) (hi : ev Γ i = some (ek k) := by rfl) (hp : Pick L A M := by repeat first | exact .z | apply Pick.s) :
    EO P g ⟨dst, .lookup T x i true, t, pos, aft, gd⟩ Γ L (.tuple #[(mget kvs k).getD z, .bool (mget kvs k).isSome]) :=
  .of (by simp) fun ρ hρ w hw => by
    obtain ⟨b, es, clock, rfl, hb, h3⟩ := hw.rdm hA hp
    simp only [execOp, hρ x _ (by simp [Op.operands]) hx, hρ i _ (by simp [Op.operands]) hi, Instr.lookup, Sem.run_bind, run_underlying ht, Result.andThen_ok, run_getObj hb (by simp), Sem.run_pure, run_checkKey hk, run_findKey hk k h3]
    cases hm : midx kvs k with
    | none => simp [midx_none.1 hm, run_zeroValue hz]
    | some j => obtain ⟨v, _, h2⟩ := midx_some hm; simp [h2]
theorem ek_inj (hk : KeyOk P kt d ek) {a b : κ} (h : ek a = ek b) : a = b := by
  have h1 := hk.same a a
  have h2 := hk.same a b
  rw [← h, h1] at h2
  simpa using h2
/-- The one that has come last is set anew. -/
theorem h_mapUpdateIt {x i v : Operand} {T e : TypeId} {it : Value} {left : List (κ × Value)} {p : κ × Value} {u : Value} {N : List HP} {K : Value → List HP → Prop} (ht : P.underlying T = some (.map kt e)) (hk : KeyOk P kt d ek) (hnd : (kvs.map (·.1)).Nodup) (hK : K (.tuple #[]) N) (hx : ev Γ x = some m := by rfl) (hi : ev Γ i = some (ek p.1) := by rfl) (hv : ev Γ v = some u := by rfl)
    (hp : Put L (MpIt ek m it kvs left (some p)) (MpIt ek m it (mset kvs p.1 u) left none) N := by repeat first | exact .z | apply Put.s) : HO P r g ⟨dst, .mapUpdate T x i v, t, pos, aft, gd⟩ Γ L K :=
  HO.run_skip (by simp) fun a w ha hw => by
    obtain ⟨R, p1, p2⟩ := hp.picks
    obtain ⟨S1, S2, hd, l1, l2, ⟨b, i0, es, clock, seen, rfl, rfl, hbi, hb, hit, h3, h4, h5, h6, h7⟩, hR⟩ := p1.to hw.heap
    have hb' := l1 _ _ hb
    obtain ⟨e0, he0, hs0, hk0, hv0⟩ := h7 p rfl
    have hl : es.length = kvs.length := ents_len h3
    -- where it stands
    obtain ⟨j0, hj0, hje⟩ := List.getElem_of_mem he0
    have hkv0 : ∃ q, kvs[j0]? = some q ∧ e0.key = ek q.1 := by
      have := congrArg (·[j0]?) h3
      simp only [List.getElem?_map, List.getElem?_eq_getElem hj0, List.getElem?_eq_getElem (show j0 < kvs.length by omega)] at this
      simp only [Option.map_some, Option.some.injEq, Prod.mk.injEq] at this
      exact ⟨kvs[j0]'(by omega), List.getElem?_eq_getElem (by omega), by rw [← hje]; exact this.1⟩
    obtain ⟨q, hq, hqk⟩ := hkv0
    have hqp : q.1 = p.1 := ek_inj hk (hqk.symm.trans hk0)
    cases hm : midx kvs p.1 with
    | none =>
      have := List.findIdx?_eq_none_iff.1 hm q (List.mem_of_getElem? hq)
      simp [hqp] at this
    | some j =>
      obtain ⟨v', hj, hg⟩ := midx_some hm
      have hjl : j < es.length := by
        rcases Nat.lt_or_ge j kvs.length with h' | h'
        · omega
        · rw [List.getElem?_eq_none h'] at hj; cases hj
      have hjj : j = j0 := by
        have a1 : (kvs.map (·.1))[j]? = some p.1 := by rw [List.getElem?_map, hj]; rfl
        have a2 : (kvs.map (·.1))[j0]? = some p.1 := by rw [List.getElem?_map, hq]; simp [hqp]
        exact (List.getElem?_inj (i := j) (by rw [List.length_map]; omega) hnd).1 (a1.trans a2.symm)
      subst hjj
      have hkey : ((es.toArray[j]?).map (·.key)).getD (ek p.1) = ek p.1 := by
        simp [List.getElem?_eq_getElem hjl, hje, hk0]
      refine ⟨N, { w with heap := w.heap.setIfInBounds b (.map (es.modify j fun e => { e with key := ek p.1, val := u }).toArray clock) }, ?_, hK, ?_⟩
      · simp only [execOp, ev_ok hx ha, ev_ok hi ha, ev_ok hv ha, Instr.mapUpdate, Sem.run_bind, run_underlying ht, Result.andThen_ok, run_getObj hb' (by simp), run_checkKey hk, run_findKey hk p.1 h3, hm, Option.bind_some, hg, Option.map_some, hkey]
        simp only [Instr.keyThatStays, hk.bits p.1 9999, if_true, Sem.run_pure, Result.andThen_ok, run_setObj hb' (by simp)]
        simp
      · have hborn : (es.modify j fun e => { e with key := ek p.1, val := u }).map (·.born) = es.map (·.born) := by
          apply List.ext_getElem?
          intro i
          simp only [List.getElem?_map, List.getElem?_modify]
          by_cases e : j = i
          · subst e; cases es[j]? <;> simp
          · simp [e]
        refine (Sat.setObj (B := MpIt ek (.map (some b)) (.pointer (some ⟨i0, 0, none⟩)) (mset kvs p.1 u) left none) hw hd l1 l2 hb hR fun S hS hS' => ⟨b, i0, _, clock, seen, rfl, rfl, hbi, hS, by rw [hS' i0 (Ne.symm hbi)]; exact hit, ?_, by rw [hborn]; exact h4, ?_, ?_, by simp⟩).conv fun _ => p2.back
        · simp only [mset, hm]; exact ents_set h3
        · intro e he
          obtain ⟨i, hi', rfl⟩ := List.getElem_of_mem he
          simp only [List.length_modify] at hi'
          have : (es.modify j fun e => { e with key := ek p.1, val := u })[i].born = es[i].born := by
            rw [List.getElem_modify]; split <;> rfl
          rw [this]; exact h5 _ (List.getElem_mem hi')
        · have hseen : seen.contains e0.born = true := by
            have := Array.mem_of_back? hs0
            simpa using this
          have key : ∀ (l : List MapEntry) (j : Nat) (hj : j < l.length), seen.contains (l[j]).born = true → ((l.modify j fun e => { e with key := ek p.1, val := u }).filter fun e => !seen.contains e.born) = l.filter fun e => !seen.contains e.born := by
            intro l
            induction l with
            | nil => intro j hj; simp at hj
            | cons x l ih =>
              intro j hj hs
              cases j with
              | zero =>
                simp only [List.getElem_cons_zero] at hs
                rw [List.modify_zero_cons]
                rw [List.filter_cons_of_neg (by simpa using hs), List.filter_cons_of_neg (by simpa using hs)]
              | succ j =>
                simp only [List.getElem_cons_succ] at hs
                rw [List.modify_succ_cons, List.filter_cons, List.filter_cons, ih j (by simpa using hj) hs]
          rw [key es j hjl (by rw [hje]; exact hseen)]
          exact h6
end
end Go.SL
/- A map whose values are slices that are owned. -/
set_option linter.unusedSimpArgs false
set_option linter.unusedVariables false
set_option linter.unusedSectionVars false
namespace Go.SL
open Go
/-- An entry of a map of slices, and where its slice lies. -/
structure EntV (κ α : Type) where
  key : κ
  sv : SV
  ws : List α
section
variable {κ α : Type} [DecidableEq κ]
def getS (l : List (κ × List α)) (k : κ) : Option (List α) := (l.find? fun p => decide (p.1 = k)).map (·.2)
def setS (l : List (κ × List α)) (k : κ) (ws : List α) : List (κ × List α) := match l.findIdx? (fun p => decide (p.1 = k)) with
  | some i => l.set i (k, ws)
  | none => l ++ [(k, ws)]
def kvE (e : EntV κ α) : κ × Value := (e.key, e.sv.v)
def stE (e : EntV κ α) : κ × List α := (e.key, e.ws)
def findE (es : List (EntV κ α)) (k : κ) : Option (EntV κ α) := es.find? fun e => decide (e.key = k)
def svE (es : List (EntV κ α)) (k : κ) : SV := match findE es k with
  | some e => e.sv
  | none => ⟨none, 0, 0⟩
def wsE (es : List (EntV κ α)) (k : κ) : List α := match findE es k with
  | some e => e.ws
  | none => []
def setE (es : List (EntV κ α)) (k : κ) (sv : SV) (ws : List α) : List (EntV κ α) := match es.findIdx? (fun e => decide (e.key = k)) with
  | some i => es.set i ⟨k, sv, ws⟩
  | none => es ++ [⟨k, sv, ws⟩]
def delE (es : List (EntV κ α)) (k : κ) : List (EntV κ α) := es.eraseP fun e => decide (e.key = k)
theorem mget_kvE (es : List (EntV κ α)) (k : κ) : mget (es.map kvE) k = (findE es k).map fun e => e.sv.v := by
  unfold mget findE
  induction es with
  | nil => rfl
  | cons e es ih =>
    simp only [List.map_cons, List.find?_cons, kvE]
    by_cases h : e.key = k
    · simp [h]
    · simp only [h, decide_false]; exact ih
theorem mget_svE (es : List (EntV κ α)) (k : κ) : (mget (es.map kvE) k).getD (.slice none 0 0) = (svE es k).v := by
  rw [mget_kvE]; unfold svE
  cases findE es k <;> rfl
theorem mset_kvE (es : List (EntV κ α)) (k : κ) (sv : SV) (ws : List α) : mset (es.map kvE) k sv.v = (setE es k sv ws).map kvE := by
  have h : midx (es.map kvE) k = es.findIdx? (fun e => decide (e.key = k)) := by
    unfold midx; rw [List.findIdx?_map]; rfl
  unfold mset setE
  rw [h]
  cases List.findIdx? (fun e : EntV κ α => decide (e.key = k)) es with
  | none => simp [kvE]
  | some i => simp [kvE, List.map_set]
theorem setE_st (es : List (EntV κ α)) (k : κ) (sv : SV) (ws : List α) : (setE es k sv ws).map stE = setS (es.map stE) k ws := by
  have h : (es.map stE).findIdx? (fun p => decide (p.1 = k)) = es.findIdx? (fun e => decide (e.key = k)) := by
    rw [List.findIdx?_map]; rfl
  unfold setS setE
  rw [h]
  cases List.findIdx? (fun e : EntV κ α => decide (e.key = k)) es with
  | none => simp [stE]
  | some i => simp [stE, List.map_set]
theorem getS_st (es : List (EntV κ α)) (k : κ) : getS (es.map stE) k = (findE es k).map (·.ws) := by
  unfold getS findE
  induction es with
  | nil => rfl
  | cons e es ih =>
    simp only [List.map_cons, List.find?_cons, stE]
    by_cases h : e.key = k
    · simp [h]
    · simp only [h, decide_false]; exact ih
theorem wsE_st (es : List (EntV κ α)) (k : κ) : wsE es k = (getS (es.map stE) k).getD [] := by
  rw [getS_st]; unfold wsE
  cases findE es k <;> rfl
theorem keys_st (es : List (EntV κ α)) : es.map (·.key) = (es.map stE).map (·.1) := by simp [stE]
theorem keys_kv (es : List (EntV κ α)) : (es.map kvE).map (·.1) = es.map (·.key) := by simp [kvE]
theorem findE_mem {es : List (EntV κ α)} (hn : (es.map (·.key)).Nodup) {e : EntV κ α} (he : e ∈ es) : findE es e.key = some e := by
  unfold findE
  induction es with
  | nil => cases he
  | cons x es ih =>
    rw [List.map_cons] at hn
    obtain ⟨h1, h2⟩ := List.nodup_cons.1 hn
    rcases List.mem_cons.1 he with rfl | he
    · simp
    · rw [List.find?_cons]
      have : x.key ≠ e.key := fun h => h1 (h ▸ List.mem_map.2 ⟨e, he, rfl⟩)
      simp only [this, decide_false]
      exact ih h2 he
theorem findE_key {es : List (EntV κ α)} {k : κ} {e : EntV κ α} (h : findE es k = some e) : e ∈ es ∧ e.key = k := by
  refine ⟨List.mem_of_find?_eq_some h, ?_⟩
  have := List.find?_some h
  simpa using this
theorem getS_mem {l : List (κ × List α)} (hn : (l.map (·.1)).Nodup) {p : κ × List α} (h : p ∈ l) : getS l p.1 = some p.2 := by
  unfold getS
  induction l with
  | nil => cases h
  | cons x l ih =>
    rw [List.map_cons] at hn
    obtain ⟨h1, h2⟩ := List.nodup_cons.1 hn
    rw [List.find?_cons]
    rcases List.mem_cons.1 h with rfl | h
    · simp
    · have : x.1 ≠ p.1 := fun e => h1 (e ▸ List.mem_map.2 ⟨p, h, rfl⟩)
      simp only [this, decide_false]
      exact ih h2 h
theorem getS_some {l : List (κ × List α)} {k : κ} {ws : List α} (h : getS l k = some ws) : (k, ws) ∈ l := by
  unfold getS at h
  rw [Option.map_eq_some_iff] at h
  obtain ⟨p, h1, rfl⟩ := h
  have h2 := List.find?_some h1
  have h3 := List.mem_of_find?_eq_some h1
  simp at h2; subst h2
  exact h3
theorem getS_none {l : List (κ × List α)} {k : κ} (h : getS l k = none) : ∀ ws, (k, ws) ∉ l := by
  intro ws hm
  unfold getS at h
  rw [Option.map_eq_none_iff, List.find?_eq_none] at h
  have := h _ hm
  simp at this
theorem setS_get (l : List (κ × List α)) (k : κ) (ws : List α) (j : κ) : getS (setS l k ws) j = if j = k then some ws else getS l j := by
  unfold setS getS
  induction l with
  | nil =>
    by_cases h : j = k
    · subst h; simp
    · simp [h, Ne.symm h]
  | cons x l ih =>
    rw [List.findIdx?_cons]
    by_cases hx : x.1 = k
    · simp only [hx, decide_true, if_true, List.set_cons_zero, List.find?_cons]
      by_cases h : j = k
      · subst h; simp
      · have h' : ¬ k = j := fun e => h e.symm
        simp [h, h']
    · simp only [hx, decide_false, Bool.false_eq_true, if_false]
      cases hf : List.findIdx? (fun p : κ × List α => decide (p.1 = k)) l with
      | none =>
        rw [hf] at ih
        simp only [Option.map_none, List.cons_append, List.find?_cons]
        by_cases h : x.1 = j
        · have : j ≠ k := fun e => hx (h.trans e)
          simp [h, this]
        · simp only [h, decide_false]; exact ih
      | some i =>
        rw [hf] at ih
        simp only [Option.map_some, List.set_cons_succ, List.find?_cons]
        by_cases h : x.1 = j
        · have : j ≠ k := fun e => hx (h.trans e)
          simp [h, this]
        · simp only [h, decide_false]; exact ih
theorem setS_keys (l : List (κ × List α)) (k : κ) (ws : List α) : ∀ j, j ∈ (setS l k ws).map (·.1) ↔ j = k ∨ j ∈ l.map (·.1) := by
  intro j
  have key : ∀ (l : List (κ × List α)) (j : κ), j ∈ l.map (·.1) ↔ (getS l j).isSome = true := by
    intro l j
    unfold getS
    rw [Option.isSome_map, List.find?_isSome]
    simp
  rw [key, key, setS_get]
  by_cases h : j = k <;> simp [h]
theorem setS_nodup {l : List (κ × List α)} (hn : (l.map (·.1)).Nodup) (k : κ) (ws : List α) : ((setS l k ws).map (·.1)).Nodup := by
  unfold setS
  split
  · rename_i i hi
    have : (l.set i (k, ws)).map (·.1) = l.map (·.1) := by
      rw [List.map_set]
      apply List.ext_getElem?
      intro j
      rw [List.getElem?_set]
      obtain ⟨h1, h2, _⟩ := List.findIdx?_eq_some_iff_getElem.1 hi
      split
      · rename_i e; subst e
        rw [if_pos (by simpa using h1)]
        simp only [List.getElem?_map, List.getElem?_eq_getElem h1, Option.map_some]
        simp at h2; rw [h2]
      · rfl
    rw [this]; exact hn
  · rename_i hi
    rw [List.map_append, List.nodup_append]
    refine ⟨hn, by simp, ?_⟩
    intro a ha b hb e
    simp at hb; subst hb; subst e
    obtain ⟨p, hp, rfl⟩ := List.mem_map.1 ha
    have := List.findIdx?_eq_none_iff.1 hi p hp
    simp at this
theorem delE_keys {es : List (EntV κ α)} {k : κ} {e : EntV κ α} (h : findE es k = some e) : ∃ A B, es = A ++ e :: B ∧ delE es k = A ++ B ∧ (∀ sv ws, setE es k sv ws = A ++ ⟨k, sv, ws⟩ :: B) := by
  unfold findE at h
  induction es with
  | nil => simp at h
  | cons x es ih =>
    rw [List.find?_cons] at h
    by_cases e1 : x.key = k
    · simp [e1] at h; subst h
      exact ⟨[], es, rfl, by simp [delE, e1], by intro sv ws; simp [setE, List.findIdx?_cons, e1]⟩
    · simp [e1] at h
      obtain ⟨A, B, h2, h3, h4⟩ := ih (by simpa using h)
      refine ⟨x :: A, B, by simp [h2], by simp only [delE, List.eraseP_cons, e1, decide_false, cond_false, List.cons_append] at h3 ⊢; rw [h3], ?_⟩
      intro sv ws
      have := h4 sv ws
      unfold setE at this ⊢
      rw [List.findIdx?_cons]
      simp only [e1, decide_false, Bool.false_eq_true, if_false]
      cases hf : List.findIdx? (fun e : EntV κ α => decide (e.key = k)) es with
      | none => rw [hf] at this; simp only at this; simp [this]
      | some i => rw [hf] at this; simp only at this; simp [this]
theorem delE_none {es : List (EntV κ α)} {k : κ} (h : findE es k = none) : delE es k = es ∧ (∀ sv ws, setE es k sv ws = es ++ [⟨k, sv, ws⟩]) := by
  unfold findE at h
  refine ⟨?_, ?_⟩
  · unfold delE
    rw [List.eraseP_of_forall_not]
    intro x hx
    have := List.find?_eq_none.1 h x hx
    simpa using this
  · intro sv ws
    unfold setE
    rw [List.findIdx?_eq_none_iff.2 (fun x hx => by have := List.find?_eq_none.1 h x hx; simpa using this)]
/-- What lies at the entries. -/
def Ents (E z : Nat) (enc : α → List Value) (es : List (EntV κ α)) : HP := bun (es.map fun e => Sl E z enc e.sv.v e.ws)
variable {E z : Nat} {enc : α → List Value}
theorem Ents_nil {L : List HP} {S : Piece} (h : stars L S) : stars (Ents E z enc ([] : List (EntV κ α)) :: L) S := bun_stars (L := []) h
theorem Ents_out {es A B : List (EntV κ α)} {e : EntV κ α} (h : es = A ++ e :: B) : ∀ S, Ents E z enc es S → ∃ _ : Unit, stars [Sl E z enc e.sv.v e.ws, Ents E z enc (A ++ B)] S := fun S hS => by
  subst h
  refine ⟨(), ?_⟩
  unfold Ents bun at hS
  rw [List.map_append, List.map_cons] at hS
  have h1 := stars_unmove hS
  refine stars_cons (fun S h => ?_) h1
  show stars [bun ((A ++ B).map _)] S
  rw [List.map_append]
  exact bun_stars (M := []) (S := S) (by simpa using h)
theorem Ents_in {A B : List (EntV κ α)} {e : EntV κ α} : ∀ S, stars [Sl E z enc e.sv.v e.ws, Ents E z enc (A ++ B)] S → Ents E z enc (A ++ e :: B) S := fun S hS => by
  unfold Ents bun
  rw [List.map_append, List.map_cons]
  refine stars_move ?_
  refine stars_cons (fun S h => ?_) hS
  have h' : stars (bun ((A ++ B).map _) :: []) S := h
  rw [List.map_append] at h'
  have := stars_bun h'
  simpa using this
/-- The slice of a key, nil if there is none; and what is left. -/
theorem Ents_take (es : List (EntV κ α)) (k : κ) : ∀ S, Ents E z enc es S → ∃ _ : Unit, stars [Sl E z enc (svE es k).v (wsE es k), Ents E z enc (delE es k)] S := fun S hS => by
  cases hf : findE es k with
  | none =>
    refine ⟨(), ?_⟩
    rw [(delE_none hf).1]
    unfold svE wsE
    rw [hf]
    exact nil_sl (stars_one' hS)
  | some e =>
    obtain ⟨A, B, h1, h2, _⟩ := delE_keys hf
    rw [h2]
    unfold svE wsE
    rw [hf]
    exact Ents_out h1 S hS
where
  stars_one' {A : HP} {S : Piece} (h : A S) : stars [A] S := ⟨S, fun _ => none, fun _ => .inr rfl, le_refl _, (fun _ _ h => by cases h), h, trivial⟩
theorem Ents_put (es : List (EntV κ α)) (k : κ) (sv : SV) (ws : List α) : ∀ S, stars [Sl E z enc sv.v ws, Ents E z enc (delE es k)] S → Ents E z enc (setE es k sv ws) S := fun S hS => by
  cases hf : findE es k with
  | none =>
    obtain ⟨h1, h2⟩ := delE_none hf
    rw [h2]; rw [h1] at hS
    have := Ents_in (A := es) (B := []) (e := ⟨k, sv, ws⟩) S (by simpa using hS)
    simpa using this
  | some e =>
    obtain ⟨A, B, _, h2, h3⟩ := delE_keys hf
    rw [h3]; rw [h2] at hS
    exact Ents_in (e := ⟨k, sv, ws⟩) S hS
theorem ents_rl {es : List (EntV κ α)} {e : EntV κ α} (h : e ∈ es) : RL (Ents E z enc es) z enc e.sv.v e.ws := fun S hS => by
  obtain ⟨A, B, rfl⟩ := List.append_of_mem h
  obtain ⟨_, S1, S2, _, h1, _, h2, _⟩ := Ents_out (E := E) (z := z) (enc := enc) rfl S hS
  rcases sl_rl S1 h2 with h | ⟨b, o, c, l, t, a1, a2, a3, a4, a5⟩
  · exact .inl h
  · exact .inr ⟨b, o, c, l, t, a1, a2, h1 _ _ a3, a4, a5⟩
end
end Go.SL
