/- VR NE VL: rules and walks, several texts in one. -/
import Derived.Test.YtdpmpcoekkhceaaGreatQC14
import Derived.Test.YtdpmpcoekkhceaaGreatProg
import Derived.KernelRfl
set_option linter.unusedSimpArgs false
set_option linter.unusedVariables false
namespace Go.SL.VR
open Go Go.Proofs Go.SL
theorem a200 : aggOf Tryz.prog 200 = some none := by kernel_rfl
theorem a205 : aggOf Tryz.prog 205 = some (some 3) := by kernel_rfl
theorem a69 : aggOf Tryz.prog 69 = some (some 2) := by kernel_rfl
theorem a9 : aggOf Tryz.prog 9 = some none := by kernel_rfl
theorem eqgSpan : Tryz.prog.eqGuardType Tryz.prog.depth 69 = false := by kernel_rfl
theorem f202_0 : fldOf Tryz.prog 202 0 = some 0 := by kernel_rfl
theorem f205_0 : fldOf Tryz.prog 205 0 = some 0 := by kernel_rfl
theorem k110 : callable Tryz.prog 110 = true := by kernel_rfl
theorem k63 : callable Tryz.prog 63 = true := by kernel_rfl
theorem p202 : placesOf Tryz.prog 202 = some [(0, 1)] := by kernel_rfl
theorem pt125 : isPtr Tryz.prog 125 = true := by kernel_rfl
theorem sl199 : slOf Tryz.prog 199 = some (205, 3, 40) := by kernel_rfl
theorem stoodSpan : Tryz.prog.stoodInHeld 69 = false := by kernel_rfl
theorem z202 : zeroOf Tryz.prog 202 = some [.map none] := by kernel_rfl
theorem zz199 : (Tryz.prog.info? 199).bind (·.zero) = some (.slice none 0 0) := by kernel_rfl
end Go.SL.VR
namespace Go.SL
open Go Go.Proofs VR
def Lk (p : Nat) (L : LkT) : HP := fun S => ∃ x : Nat × List (EntV UInt32 LockM), stars [pu (List.map stE (x.2) = L), cl p 202 [.map (some x.1)], Mp eU32 (.map (some x.1)) (List.map kvE (x.2)), Ents 205 3 LockM.c (x.2)] S
theorem Lk_op {p : Nat} {L : LkT} : ∀ S, Lk p L S → ∃ x : Nat × List (EntV UInt32 LockM), stars [pu (List.map stE (x.2) = L), cl p 202 [.map (some x.1)], Mp eU32 (.map (some x.1)) (List.map kvE (x.2)), Ents 205 3 LockM.c (x.2)] S := fun _ h => h
theorem LNew_spec {g : World} : Spec Tryz.prog g 81 [] [] fun K R => ∀ p, K (.pointer (some ⟨p, 0, none⟩)) (Lk p [] :: R) := by
  refine Spec.intro Tryz.func81 rfl Tryz.ntmps81 rfl fun R K hK => ?_
  refine WP.seq ?_
  refine WP.reg ?_
  refine WL.e e_assign ?_
  refine WL.next ?_
  refine WP.seq ?_
  refine WP.reg ?_
  refine WL.h (h_makeMapB (ek := eU32) fun m => ?_)
  refine WL.e (e_build z202 p202 (.o (.tmp 1) rfl <| .n)) ?_
  refine WL.h (h_box fun b1 => ?_)
  refine WL.e e_assign ?_
  refine WL.next ?_
  refine WP.ret ?_
  refine PO.conv (fun S h => Ents_nil (κ := UInt32) (E := 205) (z := 3) (enc := LockM.c) h) ?_
  refine PO.conv (fun S h => pu_stars (show List.map stE ([] : List (EntV UInt32 LockM)) = [] from rfl) h) ?_
  refine PO.cls (A := Lk b1 []) (B := [pu (List.map stE ([]) = []), cl b1 202 [.map (some m)], Mp eU32 (.map (some m)) (List.map kvE ([])), Ents 205 3 LockM.c ([])]) (fun S h => ⟨(m, []), h⟩) ?_
  exact PO.fin Tryz.results81 (rv_tmp rv_nil) (hK b1)
theorem Lthere_spec {g : World} {p : Nat} {L : LkT} : Spec Tryz.prog g 110 [.pointer (some ⟨p, 0, none⟩)] [Lk p L] fun K R => K (.bool true) (Lk p L :: R) := by
  refine Spec.intro Tryz.func110 rfl Tryz.ntmps110 rfl fun R K hK => ?_
  refine WP.opn (Lk_op (p := p) (L := L)) fun x => ?_
  obtain ⟨m, es⟩ := x
  dsimp only
  refine WP.pull (φ := List.map stE es = L) (k := fun hes => ?_)
  refine WP.seq ?_
  refine WP.reg ?_
  refine WL.e e_assign ?_
  refine WL.next ?_
  refine WP.seq ?_
  refine WP.reg ?_
  refine WL.e e_move <| WL.e (e_pne pt125) <| WL.e e_move ?_
  refine WL.bool 5 rfl (fun h => ?_) (fun h => ?_)
  · skip
    refine WL.e e_move <| WL.e e_nil <| WL.e (e_fa f202_0) <| WL.e (e_load a200) <| WL.e (e_mne Tryz.underlying200) <| WL.e e_pick_t <| WL.e e_assign ?_
    refine WL.next ?_
    refine WP.ret ?_
    refine PO.conv (fun S h => pu_stars (show List.map stE (es) = L from hes) h) ?_
    refine PO.cls (A := Lk p (L)) (B := [pu (List.map stE (es) = L), cl p 202 [.map (some m)], Mp eU32 (.map (some m)) (List.map kvE (es)), Ents 205 3 LockM.c (es)]) (fun S h => ⟨(m, es), h⟩) ?_
    exact PO.fin Tryz.results110 (rv_tmp rv_nil) hK
  · cases h -- end
theorem Lmay_spec {g : World} (n : UInt32) (s : SpanM) : Spec Tryz.prog g 111 [.int .u32 n.toNat, s.v] [] fun K R => K (.bool (n != 0 && meet s s)) R := by
  refine Spec.intro Tryz.func111 rfl Tryz.ntmps111 rfl fun R K hK => ?_
  refine WP.seq ?_
  refine WP.reg ?_
  refine WL.h (h_box fun b1 => ?_)
  refine WL.e e_assign ?_
  refine WL.next ?_
  refine WP.seq ?_
  refine WP.reg ?_
  refine WL.e e_move <| WL.e (e_neq32 (b := 0)) <| WL.e e_move ?_
  refine WL.bool 7 rfl (fun h => ?_) (fun h => ?_)
  · skip
    refine WL.e (e_loadN a69) <| WL.e (e_loadN a69) ?_
    refine WL.h (h_call (Meet_spec ⟨_, _⟩ ⟨_, _⟩) k63 ?_)
    refine WL.e e_pick_t <| WL.e e_assign ?_
    refine WL.next ?_
    refine WP.ret ?_
    exact PO.finE Tryz.results111 (rv_tmp rv_nil) (by rw [show (n != 0) = true from h]; rfl) hK
  · skip
    refine WL.skip <| WL.skip <| WL.skip <| WL.e e_pick_f <| WL.e e_assign ?_
    refine WL.next ?_
    refine WP.ret ?_
    exact PO.finE Tryz.results111 (rv_tmp rv_nil) (by rw [show (n != 0) = false from h]; rfl) hK
theorem LFree_spec {g : World} {p : Nat} {L : LkT} (n : UInt32) : Spec Tryz.prog g 119 [.pointer (some ⟨p, 0, none⟩), .int .u32 n.toNat] [Lk p L] fun K R => ∀ k : Nat, K (.int .i64 k) (Lk p (freeL L n) :: R) := by
  refine Spec.intro Tryz.func119 rfl Tryz.ntmps119 rfl fun R K hK => ?_
  refine WP.seq ?_
  refine WP.reg ?_
  refine WL.e e_assign ?_
  refine WL.next ?_
  refine WP.seq ?_
  refine WP.seq ?_
  refine WP.reg ?_
  refine WL.e e_move ?_
  refine WL.h (h_call (Lthere_spec) k110 ?_)
  refine WL.e e_not ?_
  refine WL.next ?_
  refine WP.cond_f rfl ?_
  refine WP.opn (Lk_op (p := p) (L := L)) fun x => ?_
  obtain ⟨m, es⟩ := x
  dsimp only
  refine WP.pull (φ := List.map stE es = L) (k := fun hes => ?_)
  refine WP.skip ?_
  refine PO.next ?_
  refine WP.seq ?_
  refine WP.reg ?_
  refine WL.e e_move <| WL.e e_nil <| WL.e (e_fa f202_0) <| WL.e (e_load a200) <| WL.e e_move ?_
  refine WL.e (eu_look (k := n) (es := es) Tryz.underlying200 (key_u32 Tryz.underlying22) zz199) ?_
  refine WL.e (el_len (xs := wsE es n) sl199 (ents_keyU n)) <| WL.e e_assign ?_
  refine WL.next ?_
  refine WP.seq ?_
  refine WP.reg ?_
  refine WL.e e_move <| WL.e e_nil <| WL.e (e_fa f202_0) <| WL.e (e_load a200) <| WL.e e_move ?_
  refine WL.h' (h_delete (k := n) (kvs := List.map kvE es) Tryz.underlying200 (key_u32 Tryz.underlying22) ?_)
  rw [mdel_kvE]
  refine WL.next ?_
  refine WP.seq ?_
  refine WP.reg ?_
  refine WL.e e_move <| WL.e e_assign ?_
  refine WL.next ?_
  refine WP.ret ?_
  refine PO.conv (conv1 (A := Ents 205 3 LockM.c (es)) (B := Ents 205 3 LockM.c (delE es n)) (fun S h => Ents_del h) (by repeat first | exact .z | apply Put.s)) ?_
  refine PO.conv (fun S h => pu_stars (show List.map stE (delE es n) = freeL L n from (by rw [delE_st, hes])) h) ?_
  refine PO.cls (A := Lk p (freeL L n)) (B := [pu (List.map stE (delE es n) = freeL L n), cl p 202 [.map (some m)], Mp eU32 (.map (some m)) (List.map kvE (delE es n)), Ents 205 3 LockM.c (delE es n)]) (fun S h => ⟨(m, delE es n), h⟩) ?_
  exact PO.fin Tryz.results119 (rv_tmp rv_nil) (hK _)
theorem IndexL_spec {g : World} {A B : HP} {u y : Value} {xs : List (LockM)} {p : LockM → Bool} (hA : RL A 3 LockM.c u xs) (hn : xs.length ≤ 68719476736) (hy : ∀ x, CallV Tryz.prog g y [.agg (LockM.c x).toArray] [B] fun K R => K (.bool (p x)) (B :: R)) :
    Spec Tryz.prog g 113 [u, y] [A, B] fun K R => K (.int .i64 (if xs.any p then (xs.findIdx p : Nat) else -1)) (A :: B :: R) := by
  refine Spec.intro Tryz.func113 rfl Tryz.ntmps113 rfl fun R K hK => ?_
  refine WP.seq ?_
  refine WP.reg ?_
  refine WL.e e_assign ?_
  refine WL.next ?_
  refine WP.seq ?_
  refine WP.seq ?_
  refine WP.reg ?_
  refine WL.e e_move ?_
  refine WL.e (el_len sl199 hA) <| WL.e e_move ?_
  refine WL.next ?_
  refine WP.block ?_
  refine WP.loopK (fun (i : Nat) => [(8, .int .i64 i)]) (fun (i : Nat) => A :: B :: R) [(0, _), (1, _), (7, _)] (fun (i : Nat) => i ≤ xs.length ∧ (xs.take i).any p = false) (fun (i : Nat) => xs.length - i) 0 (⟨Nat.zero_le _, by simp⟩) ?_
  rintro i ⟨h1, h2⟩
  refine WP.seq ?_
  refine WP.reg ?_
  refine WL.e e_lss ?_
  refine WL.next ?_
  refine WP.seq ?_
  refine WP.cond rfl (fun h3 => ?_) (fun h3 => ?_)
  · have hlt : i < xs.length := by rw [decide_eq_true_eq] at h3; omega
    obtain ⟨x, hx⟩ : ∃ x, xs[i]? = some x := ⟨_, List.getElem?_eq_getElem hlt⟩
    refine WP.skip ?_
    refine PO.next ?_
    refine WP.seq ?_
    refine WP.block ?_
    refine WP.seq ?_
    refine WP.reg ?_
    refine WL.e e_move <| WL.e e_assign ?_
    refine WL.next ?_
    refine WP.seq ?_
    refine WP.reg ?_
    refine WL.e e_move <| WL.e e_move <| WL.e e_move ?_
    refine WL.e (el_ia sl199 hA hlt) ?_
    refine WL.e (el_loadN (vs := LockM.c x) a205 lockE hA hx (hv := ext_of (lockE.len x))) ?_
    refine WL.h (h_cally (hy x) ?_)
    refine WL.next ?_
    refine WP.cond rfl (fun h4 => ?_) (fun h4 => ?_)
    · skip
      refine WP.seq ?_
      refine WP.reg ?_
      refine WL.e e_move <| WL.e e_assign ?_
      refine WL.next ?_
      refine WP.ret ?_
      refine PO.blockR ?_
      refine PO.past nofun ?_
      refine PO.round nofun ?_
      refine PO.blockR ?_
      refine PO.past nofun ?_
      exact PO.finE Tryz.results113 (rv_tmp rv_nil) (by rw [index_at h2 hx h4]; rfl) hK
    · skip
      refine WP.skip ?_
      refine PO.blockN ?_
      refine PO.next ?_
      refine WP.reg ?_
      refine WL.e (e_add rfl rfl (w_i64 (by omega) (by omega))) <| WL.e e_move ?_
      refine WL.nil ?_
      exact PO.againK (i + 1) ⟨by omega, by rw [take_snoc hx, List.any_append, h2]; simp [h4]⟩ (by omega)
  · have hall : xs.any p = false := by rw [decide_eq_false_iff_not] at h3; rwa [List.take_of_length_le (by omega)] at h2
    refine WP.exit ?_
    refine PO.past nofun ?_
    refine PO.round nofun ?_
    refine PO.blockX ?_
    refine PO.next ?_
    refine WP.seq ?_
    refine WP.reg ?_
    refine WL.e e_assign ?_
    refine WL.next ?_
    refine WP.ret ?_
    exact PO.finE Tryz.results113 (rv_tmp rv_nil) (by rw [hall]; rfl) hK
theorem Ask1_spec {g : World} {q : Nat} (l : LockM) (s : SpanM) : Spec Tryz.prog g 114 [.agg (LockM.c l).toArray, .pointer (some ⟨q, 0, none⟩)] [cl q 69 (SpanM.c s)] fun K R => K (.bool (eqS l.s s)) (cl q 69 (SpanM.c s) :: R) := by
  refine Spec.intro Tryz.func114 rfl Tryz.ntmps114 rfl fun R K hK => ?_
  refine WP.seq ?_
  refine WP.reg ?_
  refine WL.h (h_box fun b1 => ?_)
  refine WL.e e_assign ?_
  refine WL.next ?_
  refine WP.seq ?_
  refine WP.reg ?_
  refine WL.e (e_fa f205_0) <| WL.e (e_loadN a69) <| WL.e (e_loadN a69) ?_
  refine WL.e (e_speql (a := l.s) (b := s) Tryz.underlying69 Tryz.underlying9 a9 stoodSpan eqgSpan rfl rfl) <| WL.e e_assign ?_
  refine WL.next ?_
  refine WP.ret ?_
  exact PO.fin Tryz.results114 (rv_tmp rv_nil) hK
end Go.SL
/- Those that come twice left out, in plain Lean. -/
set_option linter.unusedSimpArgs false
set_option linter.unusedVariables false
set_option linter.unusedSectionVars false
namespace Go.SL
open Go
abbrev SortedU (xs : List UInt32) : Prop := xs.Pairwise fun x y => x ≤ y
abbrev StrictU (xs : List UInt32) : Prop := xs.Pairwise fun x y => x < y
theorem sorted_get {xs : List UInt32} (h : SortedU xs) {i j : Nat} {a b : UInt32} (hij : i ≤ j) (ha : xs[i]? = some a) (hb : xs[j]? = some b) : a ≤ b := by
  rcases Nat.lt_or_ge i j with hlt | hge
  · have h1 := idx_lt ha
    have h2 := idx_lt hb
    have := List.pairwise_iff_getElem.1 h i j h1 h2 hlt
    rw [List.getElem?_eq_getElem h1] at ha
    rw [List.getElem?_eq_getElem h2] at hb
    cases ha; cases hb; exact this
  · obtain rfl : i = j := by omega
    rw [ha] at hb; cases hb; exact UInt32.le_refl _
structure CmpI (xs ds : List UInt32) (i c : Nat) : Prop where
  len : ds.length = xs.length
  i1 : 1 ≤ i
  ic : i ≤ c
  cn : c ≤ xs.length
  str : StrictU (ds.take i)
  mem : ∀ x, x ∈ ds.take i ↔ x ∈ xs.take c
  rest : ∀ j, c - 1 ≤ j → ds[j]? = xs[j]?
  last : ds[i - 1]? = xs[c - 1]?
theorem CmpI.start {xs : List UInt32} {i : Nat} (h : StrictU (xs.take i)) (h1 : 1 ≤ i) {a : UInt32} (ha : xs[i]? = some a) (hb : xs[i - 1]? = some a) : CmpI xs xs i (i + 1) := by
  have := idx_lt ha
  refine ⟨rfl, h1, Nat.le_succ _, by omega, h, fun x => ?_, fun _ _ => rfl, by rw [hb, Nat.add_sub_cancel, ha]⟩
  rw [take_snoc ha, List.mem_append]
  constructor
  · exact .inl
  · rintro (h | h)
    · exact h
    · simp at h; subst h
      exact List.mem_of_getElem? (i := i - 1) (by rw [List.getElem?_take_of_lt (by omega)]; exact hb)
theorem CmpI.same {xs ds : List UInt32} {i c : Nat} (h : CmpI xs ds i c) {a : UInt32} (ha : xs[c]? = some a) (hb : xs[c - 1]? = some a) : CmpI xs ds i (c + 1) := by
  have := idx_lt ha
  have := h.i1; have := h.ic
  refine ⟨h.len, h.i1, by omega, by omega, h.str, fun x => ?_, fun j hj => h.rest j (by omega), by rw [h.last, hb, Nat.add_sub_cancel, ha]⟩
  rw [h.mem, take_snoc ha, List.mem_append]
  constructor
  · exact .inl
  · rintro (h2 | h2)
    · exact h2
    · simp at h2; subst h2
      exact List.mem_of_getElem? (i := c - 1) (by rw [List.getElem?_take_of_lt (by omega)]; exact hb)
theorem CmpI.put {xs ds : List UInt32} (hs : SortedU xs) {i c : Nat} (h : CmpI xs ds i c) {a b : UInt32} (ha : xs[c]? = some a) (hb : xs[c - 1]? = some b) (hne : a ≠ b) : CmpI xs (ds.set i a) (i + 1) (c + 1) := by
  have hc := idx_lt ha
  have h1 := h.i1; have h2 := h.ic; have h3 := h.len
  have hba : b < a := UInt32.lt_of_le_of_ne (sorted_get hs (Nat.sub_le _ _) hb ha) (fun e => hne e.symm)
  have ht : (ds.set i a).take (i + 1) = ds.take i ++ [a] := by
    rw [take_snoc (List.getElem?_set_self (by omega)), List.take_set_of_le (Nat.le_refl _)]
  refine ⟨by rw [List.length_set]; exact h3, by omega, by omega, by omega, ?_, fun x => ?_, fun j hj => ?_, ?_⟩
  · rw [ht, StrictU, List.pairwise_append]
    refine ⟨h.str, by simp, fun x hx y hy => ?_⟩
    simp at hy; subst hy
    have hx2 := (h.mem x).1 hx
    obtain ⟨j, hj⟩ := List.mem_iff_getElem?.1 hx2
    have hjc : j < c := by have := idx_lt hj; simp at this; omega
    rw [List.getElem?_take_of_lt hjc] at hj
    have := sorted_get hs (show j ≤ c - 1 by omega) hj hb
    exact UInt32.lt_of_le_of_lt this hba
  · rw [ht, take_snoc ha, List.mem_append, List.mem_append, h.mem]
  · by_cases e : i = j
    · subst e
      have : i = c := by omega
      subst this
      rw [List.getElem?_set_self (by omega), ha]
    · rw [List.getElem?_set_ne e]; exact h.rest j (by omega)
  · rw [Nat.add_sub_cancel, Nat.add_sub_cancel, List.getElem?_set_self (by omega), ha]
theorem strict_step {xs : List UInt32} (hs : SortedU xs) {i : Nat} (h : StrictU (xs.take i)) (h1 : 1 ≤ i) {a b : UInt32} (ha : xs[i]? = some a) (hb : xs[i - 1]? = some b) (hne : a ≠ b) : StrictU (xs.take (i + 1)) := by
  have hba : b < a := UInt32.lt_of_le_of_ne (sorted_get hs (Nat.sub_le _ _) hb ha) (fun e => hne e.symm)
  rw [take_snoc ha, StrictU, List.pairwise_append]
  refine ⟨h, by simp, fun x hx y hy => ?_⟩
  simp at hy; subst hy
  obtain ⟨j, hj⟩ := List.mem_iff_getElem?.1 hx
  have hjc : j < i := by have := idx_lt hj; simp at this; omega
  rw [List.getElem?_take_of_lt hjc] at hj
  exact UInt32.lt_of_le_of_lt (sorted_get hs (show j ≤ i - 1 by omega) hj hb) hba
def blkL (n : UInt32) (e : EntV UInt32 LockM) (k : Nat) : List (UInt32 × LockM) := if e.key = n then [] else (e.ws.take k).map fun l => (e.key, l)
def lkC (x : UInt32 × LockM) : List Value := [.int .u32 x.1.toNat, .agg (LockM.c x.2).toArray]
theorem blk_all (n : UInt32) (e : EntV UInt32 LockM) : blkL n e e.ws.length = if e.key = n then [] else e.ws.map fun l => (e.key, l) := by unfold blkL; rw [List.take_length]
theorem blk_step {n : UInt32} {e : EntV UInt32 LockM} (hne : e.key ≠ n) {k : Nat} {l : LockM} (hl : e.ws[k]? = some l) : blkL n e (k + 1) = blkL n e k ++ [(e.key, l)] := by
  unfold blkL; rw [if_neg hne, if_neg hne, take_snoc hl, List.map_append]; rfl
theorem blk_same {n : UInt32} {e : EntV UInt32 LockM} (he : e.key = n) (k j : Nat) : blkL n e k = blkL n e j := by unfold blkL; rw [if_pos he, if_pos he]
theorem others_take {n : UInt32} {es A B : List (EntV UInt32 LockM)} {e : EntV UInt32 LockM} {pre : List (UInt32 × LockM)} {left : List (EntV UInt32 LockM)} (h : (pre ++ othersL n left).Perm (othersL n es)) (hl : left = A ++ e :: B) : (pre ++ (blkL n e e.ws.length ++ othersL n (A ++ B))).Perm (othersL n es) := by
  refine List.Perm.trans ?_ h
  rw [hl, others_mid, others_app, blk_all]
  exact List.Perm.append_left _ (List.perm_append_comm_assoc _ _ _)
theorem others_pfx {n : UInt32} {e : EntV UInt32 LockM} (hne : e.key ≠ n) {pre Z W : List (UInt32 × LockM)} (h : (pre ++ (blkL n e e.ws.length ++ Z)).Perm W) {k : Nat} {l : LockM} (hl : e.ws[k]? = some l) : ∃ r, (pre ++ blkL n e k ++ [(e.key, l)] ++ r).Perm W := by
  refine ⟨((e.ws.drop (k + 1)).map fun l => (e.key, l)) ++ Z, ?_⟩
  refine List.Perm.trans (List.Perm.of_eq ?_) h
  have h1 : e.ws = e.ws.take (k + 1) ++ e.ws.drop (k + 1) := (List.take_append_drop _ _).symm
  have h2 : blkL n e e.ws.length = blkL n e (k + 1) ++ (e.ws.drop (k + 1)).map fun l => (e.key, l) := by
    unfold blkL; rw [if_neg hne, if_neg hne, List.take_length, ← List.map_append, List.take_append_drop]
  rw [h2, blk_step hne hl]
  simp [List.append_assoc]
def inW (w : Bool) (p : SpanM) (x : UInt32 × LockM) : Bool := (w || x.2.alone) && meet x.2.s p
theorem way_is {L : LkT} (hk : (L.map (·.1)).Nodup) {n : UInt32} {p : SpanM} {w : Bool} {es : List (EntV UInt32 LockM)} (hes : es.map stE = L) {xs : List (UInt32 × LockM)} (hx : xs.Perm (othersL n es)) {ys zs : List UInt32} (hy : ys.Perm ((xs.filter (inW w p)).map (·.1))) (hz : StrictU zs) (hm : ∀ x, x ∈ zs ↔ x ∈ ys) : zs = wayL L n p w := by
  refine strict_eq hz (way_sorted hk n p w) fun k => ?_
  rw [hm, hy.mem_iff, mem_way, List.mem_map]
  constructor
  · rintro ⟨⟨k', l⟩, h, rfl⟩
    obtain ⟨h1, h2⟩ := List.mem_filter.1 h
    obtain ⟨h3, ls, h4, h5⟩ := mem_others.1 (hx.mem_iff.1 h1)
    rw [hes] at h4
    simp only [inW, Bool.and_eq_true] at h2
    exact ⟨h3, ls, h4, l, h5, h2.1, h2.2⟩
  · rintro ⟨h1, ls, h2, l, h3, h4, h5⟩
    exact ⟨(k, l), List.mem_filter.2 ⟨hx.mem_iff.2 (mem_others.2 ⟨h1, ls, by rw [hes]; exact h2, h3⟩), by simp only [inW, Bool.and_eq_true]; exact ⟨h4, h5⟩⟩, rfl⟩
theorem inW_snoc {w : Bool} {p : SpanM} {pre : List (UInt32 × LockM)} {x : UInt32 × LockM} (h : inW w p x = true) : ((pre ++ [x]).filter (inW w p)).map (·.1) = (pre.filter (inW w p)).map (·.1) ++ [x.1] := by
  rw [List.filter_append, List.map_append]; simp [h]
theorem inW_skip {w : Bool} {p : SpanM} {pre : List (UInt32 × LockM)} {x : UInt32 × LockM} (h : inW w p x = false) : ((pre ++ [x]).filter (inW w p)).map (·.1) = (pre.filter (inW w p)).map (·.1) := by
  rw [List.filter_append, List.map_append]; simp [h]
theorem ask_no {ws : List LockM} {p : SpanM} {w : Bool} (h : ws.any (fun l => eqS l.s p) = false) : askL ws p w = ws ++ [⟨p, w⟩] := by
  unfold askL
  rw [List.findIdx?_eq_none_iff.2 (fun x hx => by have := List.any_eq_false.1 h x hx; simpa using this)]
theorem ask_yes {ws : List LockM} {p : SpanM} {w : Bool} (h : ws.any (fun l => eqS l.s p) = true) : ∃ i l, ws.findIdx (fun l => eqS l.s p) = i ∧ ws[i]? = some l ∧ l.s = p ∧ askL ws p w = ws.set i ⟨p, l.alone || w⟩ := by
  have hlt : ws.findIdx (fun l => eqS l.s p) < ws.length := by
    obtain ⟨x, h1, h2⟩ := List.any_eq_true.1 h
    exact List.findIdx_lt_length_of_exists ⟨x, h1, h2⟩
  have hi : ws.findIdx? (fun l => eqS l.s p) = some (ws.findIdx fun l => eqS l.s p) := List.findIdx?_eq_some_of_exists (by
    obtain ⟨x, h1, h2⟩ := List.any_eq_true.1 h
    exact ⟨x, h1, h2⟩)
  obtain ⟨l, hl, hs⟩ := askL_idx hi
  refine ⟨_, l, rfl, hl, hs, ?_⟩
  unfold askL
  rw [hi]
  simp only [hl]
theorem lockS_st {L : LkT} {es : List (EntV UInt32 LockM)} (hes : es.map stE = L) (n : UInt32) (p : SpanM) (w : Bool) (sv : SV) : (setE es n sv (askL (wsE es n) p w)).map stE = lockS L n p w := by
  rw [setE_st, hes, lockS, wsE_st, hes]
theorem setE_kv {es : List (EntV UInt32 LockM)} {n : UInt32} {i : Nat} {l : LockM} (h : (wsE es n)[i]? = some l) (ws : List LockM) : es.map kvE = (setE es n (svE es n) ws).map kvE := by
  cases hf : findE es n with
  | none => rw [findE_ws hf] at h; cases h
  | some e =>
    obtain ⟨A, B, h1, _, h2⟩ := delE_keys hf
    have hk := (findE_key hf).2
    have hsv : svE es n = e.sv := by unfold svE; rw [hf]
    rw [h2, hsv]
    conv => lhs; rw [h1]
    simp only [List.map_append, List.map_cons, kvE, hk]
/-! who waits for whom -/
def edC (x : UInt32 × UInt32) : List Value := [.int .u32 x.1.toNat, .int .u32 x.2.toNat]
theorem edE : EncOk 2 edC := ⟨fun _ => rfl, fun _ => rfl⟩
def edT (ts : List TxT) (n : UInt32) (t : TxT) (k : Nat) : List (UInt32 × UInt32) := if t.id = n then [] else ((t.x.waits.take k).filter fun w => (findU ts w).isSome).map fun w => (t.id, w)
def edW (ts : List TxT) (n : UInt32) (left : List TxT) : List (UInt32 × UInt32) := left.flatMap fun t => edT ts n t t.x.waits.length
theorem edW_all (ts : List TxT) (n : UInt32) : edW ts n ts = edgesA ts n := by
  unfold edW edgesA edT
  simp only [List.take_length]
theorem edW_len {ts : List TxT} {n : UInt32} {b : Nat} : ∀ {left : List TxT}, (∀ t ∈ left, t.x.waits.length ≤ b) → (edW ts n left).length ≤ left.length * b
  | [], _ => by simp [edW]
  | t :: left, h => by
    have ih := edW_len (ts := ts) (n := n) (left := left) fun t ht => h t (by simp [ht])
    have h1 := h t (by simp)
    have h2 : (edT ts n t t.x.waits.length).length ≤ t.x.waits.length := by
      unfold edT
      split
      · simp
      · rw [List.length_map]; exact Nat.le_trans (List.length_filter_le _ _) (by simp)
    unfold edW at ih ⊢
    rw [List.flatMap_cons, List.length_append, List.length_cons, Nat.add_mul, Nat.one_mul]; omega
theorem edW_take {ts A B left : List TxT} {n : UInt32} {t : TxT} {l : List (UInt32 × UInt32)} {W : List (UInt32 × UInt32)} (h : (l ++ edW ts n left).Perm W) (hl : left = A ++ t :: B) : (l ++ (edT ts n t t.x.waits.length ++ edW ts n (A ++ B))).Perm W := by
  refine List.Perm.trans ?_ h
  rw [hl]
  unfold edW
  rw [List.flatMap_append, List.flatMap_append, List.flatMap_cons]
  exact List.Perm.append_left _ (List.perm_append_comm_assoc _ _ _)
theorem edT_yes {ts : List TxT} {n : UInt32} {t : TxT} (hne : t.id ≠ n) {k : Nat} {w : UInt32} (hw : t.x.waits[k]? = some w) (hs : (findU ts w).isSome = true) : edT ts n t (k + 1) = edT ts n t k ++ [(t.id, w)] := by
  unfold edT
  rw [if_neg hne, if_neg hne, take_snoc hw, List.filter_append, List.map_append]
  simp [hs]
theorem edT_no {ts : List TxT} {n : UInt32} {t : TxT} {k : Nat} {w : UInt32} (hw : t.x.waits[k]? = some w) (hs : t.id = n ∨ (findU ts w).isSome = false) : edT ts n t (k + 1) = edT ts n t k := by
  unfold edT
  split
  · rfl
  · rename_i hne
    have hs := hs.resolve_left hne
    rw [take_snoc hw, List.filter_append, List.map_append]
    simp [hs]
theorem ed_len {ts A B : List TxT} {n : UInt32} {t : TxT} {l W : List (UInt32 × UInt32)} {k : Nat} (h : (l ++ (edT ts n t t.x.waits.length ++ edW ts n (A ++ B))).Perm W) : (l ++ edT ts n t k).length ≤ W.length := by
  rw [← h.length_eq]
  have : (edT ts n t k).length ≤ (edT ts n t t.x.waits.length).length := by
    unfold edT
    split
    · simp
    · rw [List.length_map, List.length_map, List.take_length]
      exact (List.Sublist.filter _ (List.take_sublist _ _)).length_le
  simp only [List.length_append]; omega
theorem reach_ed {l W : List (UInt32 × UInt32)} (h : l.Perm W) (a b : UInt32) : Reach (EdgeL (l.map (·.1)) (l.map (·.2)) (l.map (·.1)).length) a b ↔ Reach (fun x y => (x, y) ∈ W) a b := by
  have hR : ∀ x y, EdgeL (l.map (·.1)) (l.map (·.2)) (l.map (·.1)).length x y ↔ (x, y) ∈ W := fun x y => by
    rw [← h.mem_iff]
    constructor
    · rintro ⟨j, _, h1, h2⟩
      rw [List.getElem?_map, Option.map_eq_some_iff] at h1 h2
      obtain ⟨p, h3, rfl⟩ := h1
      obtain ⟨q, h4, rfl⟩ := h2
      rw [h3] at h4; cases h4
      exact List.mem_of_getElem? h3
    · intro h1
      obtain ⟨j, hj⟩ := List.mem_iff_getElem?.1 h1
      exact ⟨j, by rw [List.length_map]; exact idx_lt hj, by rw [List.getElem?_map, hj]; rfl, by rw [List.getElem?_map, hj]; rfl⟩
  constructor
  · intro h1
    induction h1 with
    | refl => exact .refl
    | tail _ h2 ih => exact ih.tail ((hR _ _).1 h2)
  · intro h1
    induction h1 with
    | refl => exact .refl
    | tail _ h2 ih => exact ih.tail ((hR _ _).2 h2)
open Classical in
theorem ring_any {ts : List TxT} {n : UInt32} {way : List UInt32} {p : UInt32 → Bool} (h : ∀ w, p w = true ↔ Reach (fun x y => (x, y) ∈ edgesA ts n) w n) : way.any p = ringB ts n way := by
  unfold ringB
  rw [Bool.eq_iff_iff, List.any_eq_true, decide_eq_true_iff]
  constructor
  · rintro ⟨w, h1, h2⟩; exact ⟨w, h1, (h w).1 h2⟩
  · rintro ⟨w, h1, h2⟩; exact ⟨w, h1, (h w).2 h2⟩
section
variable {P : Program} {r : Option Nat} {g : World} {Γ : Env} {L M : List HP} {dst : Option Tmp} {t : TypeId} {pos : String} {aft : Array Edge} {gd : Option (Nat × Bool)}
theorem e_lookIt {σ : Type} {x i : Operand} {T e kt : TypeId} {d : TypeDesc} {n : UInt32} {ts : List (TxU UInt32 σ)} {m : Value} {it : Value} {left : List (UInt32 × Value)} {cur : Option (UInt32 × Value)} (ht : P.underlying T = some (.map kt e)) (hk : KeyOk P kt d eU32) (hz : (P.info? e).bind (·.zero) = some (.pointer none)) (hx : ev Γ x = some m := by rfl) (hi : ev Γ i = some (.int .u32 n.toNat) := by rfl) (hp : Pick L (MpIt eU32 m it (List.map kvU ts) left cur) M := by repeat first | exact .z | apply Pick.s) :
    EO P g ⟨dst, .lookup T x i false, t, pos, aft, gd⟩ Γ L (.pointer ((findU ts n).map fun t => ⟨t.q, 0, none⟩)) := by
  have h := em_lookup (g := g) (L := L) (dst := dst) (t := t) (pos := pos) (aft := aft) (gd := gd) (x := x) (i := i) (k := n) ht hk hz mpit_rdm hx hi hp
  rw [mget_kvU] at h
  cases hf : findU ts n with
  | none => rw [hf] at h; exact h
  | some t => rw [hf] at h; exact h
end
end Go.SL
set_option linter.unusedSimpArgs false
set_option linter.unusedVariables false
namespace Go.SL.VL
open Go Go.Proofs Go.SL
theorem a22 : aggOf Tryz.prog 22 = some none := by kernel_rfl
theorem a3 : aggOf Tryz.prog 3 = some none := by kernel_rfl
theorem k195 : callable Tryz.prog 195 = true := by kernel_rfl
theorem k216 : callable Tryz.prog 216 = true := by kernel_rfl
theorem k217 : callable Tryz.prog 217 = true := by kernel_rfl
theorem k218 : callable Tryz.prog 218 = true := by kernel_rfl
theorem k219 : callable Tryz.prog 219 = true := by kernel_rfl
theorem k226 : callable Tryz.prog 226 = true := by kernel_rfl
theorem mixedOk : Tryz.prog.follows .mixedOrders = true := by kernel_rfl
theorem s22 : szOf Tryz.prog 22 = some 1 := by kernel_rfl
theorem s3 : szOf Tryz.prog 3 = some 1 := by kernel_rfl
theorem sl82 : slOf Tryz.prog 82 = some (22, 1, 4) := by kernel_rfl
theorem z3 : zeroOf Tryz.prog 3 = some [.int .i64 0] := by kernel_rfl
end Go.SL.VL
namespace Go.SL
open Go Go.Proofs VL
open Go.Sort
theorem isNaN32_spec {g : World} (x : UInt32) : Spec Tryz.prog g 219 [.int .u32 x.toNat] [] fun K R => K (.bool false) R := by
  refine Spec.intro Tryz.func219 rfl Tryz.ntmps219 rfl fun R K hK => ?_
  refine WP.seq ?_
  refine WP.reg ?_
  refine WL.e e_assign ?_
  refine WL.next ?_
  refine WP.seq ?_
  refine WP.reg ?_
  refine WL.e e_move <| WL.e e_move <| WL.e (e_neq32) <| WL.e e_assign ?_
  refine WL.next ?_
  refine WP.ret ?_
  exact PO.finE Tryz.results219 (rv_tmp rv_nil) (by simp) hK
theorem Less32_spec {g : World} (x y : UInt32) : Spec Tryz.prog g 195 [.int .u32 x.toNat, .int .u32 y.toNat] [] fun K R => K (.bool (lt32 x y)) R := by
  refine Spec.intro Tryz.func195 rfl Tryz.ntmps195 rfl fun R K hK => ?_
  refine WP.seq ?_
  refine WP.reg ?_
  refine WL.e e_assign ?_
  refine WL.next ?_
  refine WP.seq ?_
  refine WP.reg ?_
  refine WL.e e_move ?_
  refine WL.h (h_call (isNaN32_spec _) k219 ?_)
  refine WL.e e_move ?_
  refine WL.bool 7 rfl (fun h => ?_) (fun h => ?_)
  · cases h -- end
  · skip
    refine WL.skip <| WL.skip <| WL.skip <| WL.e e_pick_f <| WL.e e_move <| WL.e e_move <| WL.e e_move <| WL.e (e_lss32) <| WL.e e_pick_f <| WL.e e_assign ?_
    refine WL.next ?_
    refine WP.ret ?_
    exact PO.fin Tryz.results195 (rv_tmp rv_nil) hK
theorem Ins32_spec {g : World} {u : Value} (d : Array UInt32) (a b : Nat) (hb : b ≤ d.size) (ha : a ≤ d.size) (hn : d.size ≤ 68719476736) : Spec Tryz.prog g 189 [u, .int .i64 a, .int .i64 b] [Sl 22 1 u32C u (d).toList] fun K R => K (.tuple #[]) (Sl 22 1 u32C u (insertionSort lt32 d a b).toList :: R) := by
  refine Spec.intro Tryz.func189 rfl Tryz.ntmps189 rfl fun R K hK => ?_
  refine WP.seq ?_
  refine WP.reg ?_
  refine WL.e e_move <| WL.e (e_addN (b := 1)) <| WL.e e_assign ?_
  refine WL.next ?_
  refine WP.block ?_
  refine WP.loopK (fun (x : Nat × Array UInt32) => [(6, .int .i64 x.1)]) (fun (x : Nat × Array UInt32) => Sl 22 1 u32C u (x.2).toList :: R) [(0, _), (1, _), (2, _)] (fun (x : Nat × Array UInt32) => x.2.size = d.size ∧ a < x.1 ∧ (x.1 ≤ a + 1 ∨ x.1 ≤ b) ∧ insOuter lt32 a b x.1 x.2 = insertionSort lt32 d a b) (fun (x : Nat × Array UInt32) => b - x.1) (a + 1, d) (⟨rfl, by simp only; omega, by simp only; omega, rfl⟩) ?_
  rintro ⟨i, d1⟩ ⟨hs, hi1, hi2, he⟩
  simp only at hs hi1 hi2 he
  dsimp only
  refine WP.seq ?_
  refine WP.seq ?_
  refine WP.reg ?_
  refine WL.e e_move <| WL.e e_move <| WL.e e_lss ?_
  refine WL.next ?_
  refine WP.cond rfl (fun h1 => ?_) (fun h1 => ?_)
  · replace h1 : i < b := by rw [decide_eq_true_eq] at h1; omega
    refine WP.skip ?_
    refine PO.next ?_
    refine WP.seq ?_
    refine WP.block ?_
    refine WP.seq ?_
    refine WP.reg ?_
    refine WL.e e_move <| WL.e e_assign ?_
    refine WL.next ?_
    refine WP.block ?_
    refine WP.loopK (fun (x : Nat × Array UInt32) => [(7, .int .i64 x.1)]) (fun (x : Nat × Array UInt32) => Sl 22 1 u32C u (x.2).toList :: R) [(0, _), (1, _), (2, _), (6, _), (10, _), (11, _), (12, _), (15, _)] (fun (x : Nat × Array UInt32) => x.2.size = d.size ∧ a ≤ x.1 ∧ x.1 ≤ i ∧ insInner lt32 a x.1 x.2 = insInner lt32 a i d1) (fun (x : Nat × Array UInt32) => x.1) (i, d1) (⟨hs, by simp only; omega, Nat.le_refl _, rfl⟩) ?_
    rintro ⟨j, d2⟩ ⟨hs2, hj1, hj2, he2⟩
    simp only at hs2 hj1 hj2 he2
    dsimp only
    refine WP.seq ?_
    refine WP.seq ?_
    refine WP.draws mixedOk 15 ?_
    refine RW.e 0 rfl e_move <| RW.e 1 rfl e_move <| RW.e 2 rfl e_gtr <| RW.e 3 rfl e_move ?_
    refine RW.bool 19 rfl (fun g => ?_) (fun g => ?_)
    · have hgj : a < j := by rw [decide_eq_true_eq] at g; omega
      refine RW.e 4 rfl e_move <| RW.e 5 rfl e_move <| RW.e 6 rfl (ea_ia sl82) <| RW.e 7 rfl (ea_load a22) <| RW.e 8 rfl e_move <| RW.e 9 rfl e_move <| RW.e 10 rfl (e_subN (b := 1)) <| RW.e 11 rfl (ea_ia sl82) <| RW.e 12 rfl (ea_load a22) ?_
      refine RW.any (is := [13]) rfl ⟨?_, trivial⟩
      refine RWat.h rfl rfl rfl ?_
      refine (h_call (Less32_spec _ _) k195 ?_)
      refine ⟨trivial, ?_⟩
      refine RW.e 14 rfl e_pick_t ?_
      refine RW.done ?_
      refine PO.next ?_
      refine WP.cond rfl (fun h3 => ?_) (fun h3 => ?_)
      · skip
        refine WP.skip ?_
        refine PO.next ?_
        refine WP.seq ?_
        refine WP.block ?_
        refine WP.draws mixedOk 18 ?_
        refine RW.e 0 rfl e_move <| RW.e 1 rfl e_move <| RW.e 2 rfl e_move <| RW.e 3 rfl e_move <| RW.e 4 rfl (e_subN (b := 1)) <| RW.e 5 rfl e_move <| RW.e 6 rfl e_move <| RW.e 7 rfl (e_subN (b := 1)) <| RW.e 8 rfl (ea_ia sl82) <| RW.e 9 rfl (ea_load a22) <| RW.e 10 rfl e_move <| RW.e 11 rfl e_move ?_
        refine RW.e 12 rfl (ea_ia sl82) <| RW.e 13 rfl (ea_load a22) <| RW.e 14 rfl (ea_ia sl82) ?_
        refine RW.any (is := [15]) rfl ⟨?_, trivial⟩
        refine RWat.h' rfl rfl rfl ?_
        refine (ha_store s22 ?_)
        refine ⟨⟨⟨_, rfl, .inl ⟨rfl, (e_subN (b := 1))⟩⟩, ⟨_, rfl, .inl ⟨rfl, e_move⟩⟩, ⟨_, rfl, .inl ⟨rfl, e_move⟩⟩, trivial⟩, ?_⟩
        refine RW.e 16 rfl (ea_ia sl82) ?_
        refine RW.any (is := [17]) rfl ⟨?_, trivial⟩
        refine RWat.h' rfl rfl rfl ?_
        refine (ha_store s22 ?_)
        refine ⟨trivial, ?_⟩
        refine RW.done ?_
        refine PO.blockN ?_
        refine PO.next ?_
        refine WP.reg ?_
        refine WL.e e_move <| WL.e (e_subN (b := 1)) <| WL.e e_assign ?_
        refine WL.nil ?_
        exact PO.againK (j - 1, swp d2 j (j - 1)) ⟨by simp only [swp_size]; omega, by simp only; omega, by simp only; omega, by simp only; rw [← he2, ins_step hgj h3]⟩ (by simp only; omega)
      · skip
        refine WP.exit ?_
        refine PO.past nofun ?_
        refine PO.round nofun ?_
        refine PO.blockX ?_
        refine PO.blockN ?_
        refine PO.next ?_
        refine WP.reg ?_
        refine WL.e e_move <| WL.e (e_addN (b := 1)) <| WL.e e_assign ?_
        refine WL.nil ?_
        exact PO.againK (i + 1, d2) ⟨by simp only; omega, by simp only; omega, by simp only; omega, by simp only; rw [← he, insO_step h1, ← he2, ins_stop (fun _ => h3)]⟩ (by simp only; omega)
    · have hgj : ¬ a < j := by rw [decide_eq_false_iff_not] at g; omega
      refine RW.skip 4 rfl <| RW.skip 5 rfl <| RW.skip 6 rfl <| RW.skip 7 rfl <| RW.skip 8 rfl <| RW.skip 9 rfl <| RW.skip 10 rfl <| RW.skip 11 rfl <| RW.skip 12 rfl <| RW.skip 13 rfl <| RW.e 14 rfl e_pick_f ?_
      refine RW.done ?_
      refine PO.next ?_
      refine WP.cond_f rfl ?_
      refine WP.exit ?_
      refine PO.past nofun ?_
      refine PO.round nofun ?_
      refine PO.blockX ?_
      refine PO.blockN ?_
      refine PO.next ?_
      refine WP.reg ?_
      refine WL.e e_move <| WL.e (e_addN (b := 1)) <| WL.e e_assign ?_
      refine WL.nil ?_
      exact PO.againK (i + 1, d2) ⟨by simp only; omega, by simp only; omega, by simp only; omega, by simp only; rw [← he, insO_step h1, ← he2, ins_stop (fun hh => absurd hh (by omega))]⟩ (by simp only; omega)
  · replace h1 : ¬ i < b := by rw [decide_eq_false_iff_not] at h1; omega
    refine WP.exit ?_
    refine PO.past nofun ?_
    refine PO.round nofun ?_
    refine PO.blockX ?_
    rw [insO_stop h1] at he
    rw [← he] at hK
    exact PO.fin Tryz.results189 rv_nil hK
set_option maxHeartbeats 1000000 in
theorem Sift32_spec {g : World} {u : Value} (d : Array UInt32) (root hi fs : Nat) (hb : fs + hi ≤ d.size) (hr : root ≤ d.size) (hn : d.size ≤ 68719476736) : Spec Tryz.prog g 216 [u, .int .i64 root, .int .i64 hi, .int .i64 fs] [Sl 22 1 u32C u (d).toList] fun K R => K (.tuple #[]) (Sl 22 1 u32C u (siftDown lt32 hi fs root d).toList :: R) := by
  refine Spec.intro Tryz.func216 rfl Tryz.ntmps216 rfl fun R K hK => ?_
  refine WP.seq ?_
  refine WP.reg ?_
  refine WL.e e_move <| WL.e e_assign ?_
  refine WL.next ?_
  refine WP.block ?_
  refine WP.loopK (fun (x : Nat × Array UInt32) => [(8, .int .i64 x.1)]) (fun (x : Nat × Array UInt32) => Sl 22 1 u32C u (x.2).toList :: R) [(0, _), (2, _), (3, _)] (fun (x : Nat × Array UInt32) => x.2.size = d.size ∧ x.1 ≤ d.size ∧ siftDown lt32 hi fs x.1 x.2 = siftDown lt32 hi fs root d) (fun (x : Nat × Array UInt32) => hi - x.1) (root, d) (⟨rfl, hr, rfl⟩) ?_
  rintro ⟨rt, d1⟩ ⟨hs, hr1, he⟩
  simp only at hs hr1 he
  dsimp only
  refine WP.block ?_
  refine WP.seq ?_
  refine WP.reg ?_
  refine WL.e e_move <| WL.e (e_mulN (a := 2)) <| WL.e (e_addN (b := 1)) <| WL.e e_assign ?_
  refine WL.next ?_
  refine WP.seq ?_
  refine WP.seq ?_
  refine WP.reg ?_
  refine WL.e e_move <| WL.e e_move <| WL.e e_geq ?_
  refine WL.next ?_
  refine WP.cond rfl (fun h1 => ?_) (fun h1 => ?_)
  · replace h1 : 2 * rt + 1 ≥ hi := by rw [decide_eq_true_eq] at h1; omega
    refine WP.exit ?_
    refine PO.past nofun ?_
    refine PO.blockY rfl ?_
    refine PO.round nofun ?_
    refine PO.blockX ?_
    rw [sd_stop h1] at he
    rw [← he] at hK
    exact PO.fin Tryz.results216 rv_nil hK
  · replace h1 : ¬ (2 * rt + 1 ≥ hi) := by rw [decide_eq_false_iff_not] at h1; omega
    refine WP.skip ?_
    refine PO.next ?_
    refine WP.seq ?_
    refine WP.seq ?_
    refine WP.draws mixedOk 20 ?_
    refine RW.e 0 rfl e_move <| RW.e 1 rfl (e_addN (b := 1)) <| RW.e 2 rfl e_move <| RW.e 3 rfl e_lss <| RW.e 4 rfl e_move ?_
    refine RW.bool 21 rfl (fun g => ?_) (fun g => ?_)
    · replace g : 2 * rt + 1 + 1 < hi := by rw [decide_eq_true_eq] at g; omega
      refine RW.e 5 rfl e_move <| RW.e 6 rfl e_move <| RW.e 7 rfl e_move <| RW.e 8 rfl (e_addN) <| RW.e 9 rfl (ea_ia sl82) <| RW.e 10 rfl (ea_load a22) <| RW.e 11 rfl e_move <| RW.e 12 rfl e_move <| RW.e 13 rfl e_move <| RW.e 14 rfl (e_addN) <| RW.e 15 rfl (e_addN (b := 1)) <| RW.e 16 rfl (ea_ia sl82) ?_
      refine RW.e 17 rfl (ea_load a22) ?_
      refine RW.any (is := [18]) rfl ⟨?_, trivial⟩
      refine RWat.h rfl rfl rfl ?_
      refine (h_call (Less32_spec _ _) k195 ?_)
      refine ⟨trivial, ?_⟩
      refine RW.e 19 rfl e_pick_t ?_
      refine RW.done ?_
      refine PO.next ?_
      refine WP.cond rfl (fun h3 => ?_) (fun h3 => ?_)
      · have hst := sd_r h1 g h3
        refine WP.reg ?_
        refine WL.e e_move <| WL.e (e_addN (b := 1)) <| WL.e e_assign ?_
        refine WL.next ?_
        refine WP.seq ?_
        refine WP.seq ?_
        refine WP.draws mixedOk 14 ?_
        refine RW.e 0 rfl e_move <| RW.e 1 rfl e_move <| RW.e 2 rfl e_move <| RW.e 3 rfl (e_addN) <| RW.e 4 rfl (ea_ia sl82) <| RW.e 5 rfl (ea_load a22) <| RW.e 6 rfl e_move <| RW.e 7 rfl e_move <| RW.e 8 rfl e_move <| RW.e 9 rfl (e_addN) <| RW.e 10 rfl (ea_ia sl82) <| RW.e 11 rfl (ea_load a22) ?_
        refine RW.any (is := [12]) rfl ⟨?_, trivial⟩
        refine RWat.h rfl rfl rfl ?_
        refine (h_call (Less32_spec _ _) k195 ?_)
        refine ⟨trivial, ?_⟩
        refine RW.e 13 rfl e_not ?_
        refine RW.done ?_
        refine PO.next ?_
        refine WP.cond rfl (fun h4 => ?_) (fun h4 => ?_)
        · replace h4 := nt h4
          refine WP.ret ?_
          refine PO.past nofun ?_
          refine PO.blockR ?_
          refine PO.round nofun ?_
          refine PO.blockR ?_
          rw [show siftDown lt32 hi fs root d = d1 by rw [← he, hst, if_neg (by rw [h4]; simp)]] at hK
          exact PO.fin Tryz.results216 rv_nil hK
        · replace h4 := nf h4
          refine WP.skip ?_
          refine PO.next ?_
          refine WP.seq ?_
          refine WP.draws mixedOk 24 ?_
          refine RW.e 0 rfl e_move <| RW.e 1 rfl e_move <| RW.e 2 rfl e_move <| RW.e 3 rfl (e_addN) <| RW.e 4 rfl e_move <| RW.e 5 rfl e_move <| RW.e 6 rfl e_move <| RW.e 7 rfl (e_addN) <| RW.e 8 rfl e_move <| RW.e 9 rfl e_move <| RW.e 10 rfl e_move <| RW.e 11 rfl (e_addN) ?_
          refine RW.e 12 rfl (ea_ia sl82) <| RW.e 13 rfl (ea_load a22) <| RW.e 14 rfl e_move <| RW.e 15 rfl e_move <| RW.e 16 rfl e_move <| RW.e 17 rfl (e_addN) <| RW.e 18 rfl (ea_ia sl82) <| RW.e 19 rfl (ea_load a22) <| RW.e 20 rfl (ea_ia sl82) ?_
          refine RW.any (is := [21]) rfl ⟨?_, trivial⟩
          refine RWat.h' rfl rfl rfl ?_
          refine (ha_store s22 ?_)
          refine ⟨⟨⟨_, rfl, .inl ⟨rfl, (e_addN)⟩⟩, ⟨_, rfl, .inl ⟨rfl, e_move⟩⟩, ⟨_, rfl, .inl ⟨rfl, e_move⟩⟩, ⟨_, rfl, .inl ⟨rfl, e_move⟩⟩, trivial⟩, ?_⟩
          refine RW.e 22 rfl (ea_ia sl82) ?_
          refine RW.any (is := [23]) rfl ⟨?_, trivial⟩
          refine RWat.h' rfl rfl rfl ?_
          refine (ha_store s22 ?_)
          refine ⟨trivial, ?_⟩
          refine RW.done ?_
          refine PO.next ?_
          refine WP.reg ?_
          refine WL.e e_move <| WL.e e_assign ?_
          refine WL.nil ?_
          refine PO.blockN ?_
          exact PO.againK ((2 * rt + 1 + 1), swp d1 (fs + rt) (fs + (2 * rt + 1 + 1))) ⟨by simp only [swp_size]; omega, by simp only; omega, by simp only; rw [← he, hst, if_pos h4]⟩ (by simp only; omega)
      · have hst := sd_l h1 (fun _ => h3)
        refine WP.skip ?_
        refine PO.next ?_
        refine WP.seq ?_
        refine WP.seq ?_
        refine WP.draws mixedOk 14 ?_
        refine RW.e 0 rfl e_move <| RW.e 1 rfl e_move <| RW.e 2 rfl e_move <| RW.e 3 rfl (e_addN) <| RW.e 4 rfl (ea_ia sl82) <| RW.e 5 rfl (ea_load a22) <| RW.e 6 rfl e_move <| RW.e 7 rfl e_move <| RW.e 8 rfl e_move <| RW.e 9 rfl (e_addN) <| RW.e 10 rfl (ea_ia sl82) <| RW.e 11 rfl (ea_load a22) ?_
        refine RW.any (is := [12]) rfl ⟨?_, trivial⟩
        refine RWat.h rfl rfl rfl ?_
        refine (h_call (Less32_spec _ _) k195 ?_)
        refine ⟨trivial, ?_⟩
        refine RW.e 13 rfl e_not ?_
        refine RW.done ?_
        refine PO.next ?_
        refine WP.cond rfl (fun h4 => ?_) (fun h4 => ?_)
        · replace h4 := nt h4
          refine WP.ret ?_
          refine PO.past nofun ?_
          refine PO.blockR ?_
          refine PO.round nofun ?_
          refine PO.blockR ?_
          rw [show siftDown lt32 hi fs root d = d1 by rw [← he, hst, if_neg (by rw [h4]; simp)]] at hK
          exact PO.fin Tryz.results216 rv_nil hK
        · replace h4 := nf h4
          refine WP.skip ?_
          refine PO.next ?_
          refine WP.seq ?_
          refine WP.draws mixedOk 24 ?_
          refine RW.e 0 rfl e_move <| RW.e 1 rfl e_move <| RW.e 2 rfl e_move <| RW.e 3 rfl (e_addN) <| RW.e 4 rfl e_move <| RW.e 5 rfl e_move <| RW.e 6 rfl e_move <| RW.e 7 rfl (e_addN) <| RW.e 8 rfl e_move <| RW.e 9 rfl e_move <| RW.e 10 rfl e_move <| RW.e 11 rfl (e_addN) ?_
          refine RW.e 12 rfl (ea_ia sl82) <| RW.e 13 rfl (ea_load a22) <| RW.e 14 rfl e_move <| RW.e 15 rfl e_move <| RW.e 16 rfl e_move <| RW.e 17 rfl (e_addN) <| RW.e 18 rfl (ea_ia sl82) <| RW.e 19 rfl (ea_load a22) <| RW.e 20 rfl (ea_ia sl82) ?_
          refine RW.any (is := [21]) rfl ⟨?_, trivial⟩
          refine RWat.h' rfl rfl rfl ?_
          refine (ha_store s22 ?_)
          refine ⟨⟨⟨_, rfl, .inl ⟨rfl, (e_addN)⟩⟩, ⟨_, rfl, .inl ⟨rfl, e_move⟩⟩, ⟨_, rfl, .inl ⟨rfl, e_move⟩⟩, ⟨_, rfl, .inl ⟨rfl, e_move⟩⟩, trivial⟩, ?_⟩
          refine RW.e 22 rfl (ea_ia sl82) ?_
          refine RW.any (is := [23]) rfl ⟨?_, trivial⟩
          refine RWat.h' rfl rfl rfl ?_
          refine (ha_store s22 ?_)
          refine ⟨trivial, ?_⟩
          refine RW.done ?_
          refine PO.next ?_
          refine WP.reg ?_
          refine WL.e e_move <| WL.e e_assign ?_
          refine WL.nil ?_
          refine PO.blockN ?_
          exact PO.againK ((2 * rt + 1), swp d1 (fs + rt) (fs + (2 * rt + 1))) ⟨by simp only [swp_size]; omega, by simp only; omega, by simp only; rw [← he, hst, if_pos h4]⟩ (by simp only; omega)
    · replace g : ¬ (2 * rt + 1 + 1 < hi) := by rw [decide_eq_false_iff_not] at g; omega
      refine RW.skip 5 rfl <| RW.skip 6 rfl <| RW.skip 7 rfl <| RW.skip 8 rfl <| RW.skip 9 rfl <| RW.skip 10 rfl <| RW.skip 11 rfl <| RW.skip 12 rfl <| RW.skip 13 rfl <| RW.skip 14 rfl <| RW.skip 15 rfl <| RW.skip 16 rfl ?_
      refine RW.skip 17 rfl <| RW.skip 18 rfl <| RW.e 19 rfl e_pick_f ?_
      refine RW.done ?_
      refine PO.next ?_
      refine WP.cond_f rfl ?_
      refine WP.skip ?_
      refine PO.next ?_
      refine WP.seq ?_
      refine WP.seq ?_
      refine WP.draws mixedOk 14 ?_
      refine RW.e 0 rfl e_move <| RW.e 1 rfl e_move <| RW.e 2 rfl e_move <| RW.e 3 rfl (e_addN) <| RW.e 4 rfl (ea_ia sl82) <| RW.e 5 rfl (ea_load a22) <| RW.e 6 rfl e_move <| RW.e 7 rfl e_move <| RW.e 8 rfl e_move <| RW.e 9 rfl (e_addN) <| RW.e 10 rfl (ea_ia sl82) <| RW.e 11 rfl (ea_load a22) ?_
      refine RW.any (is := [12]) rfl ⟨?_, trivial⟩
      refine RWat.h rfl rfl rfl ?_
      refine (h_call (Less32_spec _ _) k195 ?_)
      refine ⟨trivial, ?_⟩
      refine RW.e 13 rfl e_not ?_
      refine RW.done ?_
      refine PO.next ?_
      refine WP.cond rfl (fun h4 => ?_) (fun h4 => ?_)
      · have hst := sd_l (d := d1) (first := fs) h1 (fun h => absurd h g)
        replace h4 := nt h4
        refine WP.ret ?_
        refine PO.past nofun ?_
        refine PO.blockR ?_
        refine PO.round nofun ?_
        refine PO.blockR ?_
        rw [show siftDown lt32 hi fs root d = d1 by rw [← he, hst, if_neg (by rw [h4]; simp)]] at hK
        exact PO.fin Tryz.results216 rv_nil hK
      · have hst := sd_l (d := d1) (first := fs) h1 (fun h => absurd h g)
        replace h4 := nf h4
        refine WP.skip ?_
        refine PO.next ?_
        refine WP.seq ?_
        refine WP.draws mixedOk 24 ?_
        refine RW.e 0 rfl e_move <| RW.e 1 rfl e_move <| RW.e 2 rfl e_move <| RW.e 3 rfl (e_addN) <| RW.e 4 rfl e_move <| RW.e 5 rfl e_move <| RW.e 6 rfl e_move <| RW.e 7 rfl (e_addN) <| RW.e 8 rfl e_move <| RW.e 9 rfl e_move <| RW.e 10 rfl e_move <| RW.e 11 rfl (e_addN) ?_
        refine RW.e 12 rfl (ea_ia sl82) <| RW.e 13 rfl (ea_load a22) <| RW.e 14 rfl e_move <| RW.e 15 rfl e_move <| RW.e 16 rfl e_move <| RW.e 17 rfl (e_addN) <| RW.e 18 rfl (ea_ia sl82) <| RW.e 19 rfl (ea_load a22) <| RW.e 20 rfl (ea_ia sl82) ?_
        refine RW.any (is := [21]) rfl ⟨?_, trivial⟩
        refine RWat.h' rfl rfl rfl ?_
        refine (ha_store s22 ?_)
        refine ⟨⟨⟨_, rfl, .inl ⟨rfl, (e_addN)⟩⟩, ⟨_, rfl, .inl ⟨rfl, e_move⟩⟩, ⟨_, rfl, .inl ⟨rfl, e_move⟩⟩, ⟨_, rfl, .inl ⟨rfl, e_move⟩⟩, trivial⟩, ?_⟩
        refine RW.e 22 rfl (ea_ia sl82) ?_
        refine RW.any (is := [23]) rfl ⟨?_, trivial⟩
        refine RWat.h' rfl rfl rfl ?_
        refine (ha_store s22 ?_)
        refine ⟨trivial, ?_⟩
        refine RW.done ?_
        refine PO.next ?_
        refine WP.reg ?_
        refine WL.e e_move <| WL.e e_assign ?_
        refine WL.nil ?_
        refine PO.blockN ?_
        exact PO.againK ((2 * rt + 1), swp d1 (fs + rt) (fs + (2 * rt + 1))) ⟨by simp only [swp_size]; omega, by simp only; omega, by simp only; rw [← he, hst, if_pos h4]⟩ (by simp only; omega)
set_option maxHeartbeats 1000000 in
theorem Heap32_spec {g : World} {u : Value} (d : Array UInt32) (a b : Nat) (hab : a < b) (hb : b ≤ d.size) (hn : d.size ≤ 68719476736) : Spec Tryz.prog g 190 [u, .int .i64 a, .int .i64 b] [Sl 22 1 u32C u (d).toList] fun K R => K (.tuple #[]) (Sl 22 1 u32C u (heapSort lt32 d a b).toList :: R) := by
  refine Spec.intro Tryz.func190 rfl Tryz.ntmps190 rfl fun R K hK => ?_
  refine WP.seq ?_
  refine WP.reg ?_
  refine WL.e e_move <| WL.e e_assign ?_
  refine WL.next ?_
  refine WP.seq ?_
  refine WP.reg ?_
  refine WL.e e_assign ?_
  refine WL.next ?_
  refine WP.seq ?_
  refine WP.reg ?_
  refine WL.e e_move <| WL.e e_move <| WL.e (e_subN) <| WL.e e_assign ?_
  refine WL.next ?_
  refine WP.seq ?_
  refine WP.seq ?_
  refine WP.reg ?_
  refine WL.e e_move <| WL.e (e_subN (b := 1)) <| WL.e (e_quo (c := (((b - a - 1) / 2 + 1 : Nat) : Int) - 1) rfl rfl (by decide) (by rw [Int.tdiv_eq_ediv_of_nonneg (by omega), w_i64 (by omega) (by omega)]; omega)) <| WL.e e_assign ?_
  refine WL.next ?_
  refine WP.block ?_
  refine WP.loopK (fun (x : Nat × Array UInt32) => [(9, .int .i64 ((x.1 : Int) - 1))]) (fun (x : Nat × Array UInt32) => Sl 22 1 u32C u (x.2).toList :: R) [(0, _), (6, _), (7, _), (8, _)] (fun (x : Nat × Array UInt32) => x.2.size = d.size ∧ x.1 ≤ (b - a - 1) / 2 + 1 ∧ heapBuild lt32 (b - a) a x.1 x.2 = heapBuild lt32 (b - a) a ((b - a - 1) / 2 + 1) d) (fun (x : Nat × Array UInt32) => x.1) ((b - a - 1) / 2 + 1, d) (⟨rfl, Nat.le_refl _, rfl⟩) ?_
  rintro ⟨k, d1⟩ ⟨hs, hk, he⟩
  simp only at hs hk he
  dsimp only
  refine WP.seq ?_
  refine WP.seq ?_
  refine WP.reg ?_
  refine WL.e e_move <| WL.e e_geq ?_
  refine WL.next ?_
  refine WP.cond rfl (fun h1 => ?_) (fun h1 => ?_)
  · replace h1 : 0 < k := by rw [decide_eq_true_eq] at h1; omega
    rw [show ((k : Int) - 1) = ((k - 1 : Nat) : Int) by omega]
    refine WP.skip ?_
    refine PO.next ?_
    refine WP.seq ?_
    refine WP.block ?_
    refine WP.reg ?_
    refine WL.e e_move <| WL.e e_move <| WL.e e_move <| WL.e e_move ?_
    refine WL.h (h_call (Sift32_spec d1 (k - 1) (b - a) a (by omega) (by omega) (by omega)) k216 ?_)
    refine WL.nil ?_
    refine PO.blockN ?_
    refine PO.next ?_
    refine WP.reg ?_
    refine WL.e e_move <| WL.e (e_sub (c := ((k - 1 : Nat) : Int) - 1) rfl rfl (w_i64 (by omega) (by omega))) <| WL.e e_assign ?_
    refine WL.nil ?_
    exact PO.againK (k - 1, siftDown lt32 (b - a) a (k - 1) d1) ⟨by simp only [sdn_size]; omega, by simp only; omega, by simp only; rw [← he]; obtain ⟨m, rfl⟩ : ∃ m, k = m + 1 := ⟨k - 1, by omega⟩; rw [Nat.add_sub_cancel, heapBuild]⟩ (by simp only; omega)
  · replace h1 : k = 0 := by rw [decide_eq_false_iff_not] at h1; omega
    subst h1
    obtain ⟨d0, hd0⟩ : ∃ d0, d0 = heapBuild lt32 (b - a) a ((b - a - 1) / 2 + 1) d := ⟨_, rfl⟩
    rw [← hd0, heapBuild] at he
    subst he
    refine WP.exit ?_
    refine PO.past nofun ?_
    refine PO.round nofun ?_
    refine PO.blockX ?_
    refine PO.next ?_
    refine WP.seq ?_
    refine WP.reg ?_
    refine WL.e e_move <| WL.e (e_sub (c := ((b - a : Nat) : Int) - 1) rfl rfl (w_i64 (by omega) (by omega))) <| WL.e e_assign ?_
    refine WL.next ?_
    refine WP.block ?_
    refine WP.loopK (fun (x : Nat × Array UInt32) => [(10, .int .i64 ((x.1 : Int) - 1))]) (fun (x : Nat × Array UInt32) => Sl 22 1 u32C u (x.2).toList :: R) [(0, _), (6, _), (7, _)] (fun (x : Nat × Array UInt32) => x.2.size = d.size ∧ x.1 ≤ b - a ∧ heapPop lt32 a x.1 x.2 = heapPop lt32 a (b - a) d1) (fun (x : Nat × Array UInt32) => x.1) (b - a, d1) (⟨hs, Nat.le_refl _, rfl⟩) ?_
    rintro ⟨k, d2⟩ ⟨hs2, hk2, he2⟩
    simp only at hs2 hk2 he2
    dsimp only
    refine WP.seq ?_
    refine WP.seq ?_
    refine WP.reg ?_
    refine WL.e e_move <| WL.e e_geq ?_
    refine WL.next ?_
    refine WP.cond rfl (fun h2 => ?_) (fun h2 => ?_)
    · replace h2 : 0 < k := by rw [decide_eq_true_eq] at h2; omega
      rw [show ((k : Int) - 1) = ((k - 1 : Nat) : Int) by omega]
      refine WP.skip ?_
      refine PO.next ?_
      refine WP.seq ?_
      refine WP.block ?_
      refine WP.seq ?_
      refine WP.draws mixedOk 20 ?_
      refine RW.e 0 rfl e_move <| RW.e 1 rfl e_move <| RW.e 2 rfl e_move <| RW.e 3 rfl e_move <| RW.e 4 rfl e_move <| RW.e 5 rfl (e_addN) <| RW.e 6 rfl e_move <| RW.e 7 rfl e_move <| RW.e 8 rfl e_move <| RW.e 9 rfl (e_addN) <| RW.e 10 rfl (ea_ia sl82) <| RW.e 11 rfl (ea_load a22) ?_
      refine RW.e 12 rfl e_move <| RW.e 13 rfl e_move <| RW.e 14 rfl (ea_ia sl82) <| RW.e 15 rfl (ea_load a22) <| RW.e 16 rfl (ea_ia sl82) ?_
      refine RW.any (is := [17]) rfl ⟨?_, trivial⟩
      refine RWat.h' rfl rfl rfl ?_
      refine (ha_store s22 ?_)
      refine ⟨⟨⟨_, rfl, .inl ⟨rfl, (e_addN)⟩⟩, ⟨_, rfl, .inl ⟨rfl, e_move⟩⟩, ⟨_, rfl, .inl ⟨rfl, e_move⟩⟩, ⟨_, rfl, .inl ⟨rfl, e_move⟩⟩, trivial⟩, ?_⟩
      refine RW.e 18 rfl (ea_ia sl82) ?_
      refine RW.any (is := [19]) rfl ⟨?_, trivial⟩
      refine RWat.h' rfl rfl rfl ?_
      refine (ha_store s22 ?_)
      refine ⟨trivial, ?_⟩
      refine RW.done ?_
      refine PO.next ?_
      refine WP.reg ?_
      refine WL.e e_move <| WL.e e_move <| WL.e e_move <| WL.e e_move ?_
      refine WL.h (h_call (Sift32_spec (swp d2 a (a + (k - 1))) 0 (k - 1) a (by rw [swp_size]; omega) (Nat.zero_le _) (by rw [swp_size]; omega)) k216 ?_)
      refine WL.nil ?_
      refine PO.blockN ?_
      refine PO.next ?_
      refine WP.reg ?_
      refine WL.e e_move <| WL.e (e_sub (c := ((k - 1 : Nat) : Int) - 1) rfl rfl (w_i64 (by omega) (by omega))) <| WL.e e_assign ?_
      refine WL.nil ?_
      exact PO.againK (k - 1, siftDown lt32 (k - 1) a 0 (swp d2 a (a + (k - 1)))) ⟨by simp only [sdn_size, swp_size]; omega, by simp only; omega, by simp only; rw [← he2]; obtain ⟨m, rfl⟩ : ∃ m, k = m + 1 := ⟨k - 1, by omega⟩; rw [Nat.add_sub_cancel, heapPop]⟩ (by simp only; omega)
    · replace h2 : k = 0 := by rw [decide_eq_false_iff_not] at h2; omega
      subst h2
      rw [heapPop] at he2
      refine WP.exit ?_
      refine PO.past nofun ?_
      refine PO.round nofun ?_
      refine PO.blockX ?_
      rw [show heapSort lt32 d a b = d2 by rw [he2, hd0]; rfl] at hK
      exact PO.fin Tryz.results190 rv_nil hK
theorem Rev32_spec {g : World} {u : Value} (d : Array UInt32) (a b : Nat) (hab : a < b) (hb : b ≤ d.size) (hn : d.size ≤ 68719476736) : Spec Tryz.prog g 193 [u, .int .i64 a, .int .i64 b] [Sl 22 1 u32C u (d).toList] fun K R => K (.tuple #[]) (Sl 22 1 u32C u (reverseRange d a b).toList :: R) := by
  refine Spec.intro Tryz.func193 rfl Tryz.ntmps193 rfl fun R K hK => ?_
  refine WP.seq ?_
  refine WP.reg ?_
  refine WL.e e_move <| WL.e e_assign ?_
  refine WL.next ?_
  refine WP.seq ?_
  refine WP.reg ?_
  refine WL.e e_move <| WL.e (e_subN (b := 1)) <| WL.e e_assign ?_
  refine WL.next ?_
  refine WP.block ?_
  refine WP.loopK (fun (x : Nat × Nat × Array UInt32) => [(6, .int .i64 x.1), (7, .int .i64 x.2.1)]) (fun (x : Nat × Nat × Array UInt32) => Sl 22 1 u32C u (x.2.2).toList :: R) [(0, _)] (fun (x : Nat × Nat × Array UInt32) => x.2.2.size = d.size ∧ x.1 ≤ b ∧ x.2.1 < b ∧ reverseLoop x.1 x.2.1 x.2.2 = reverseLoop a (b - 1) d) (fun (x : Nat × Nat × Array UInt32) => x.2.1 + 1 - x.1) (a, b - 1, d) (⟨rfl, by simp only; omega, by simp only; omega, rfl⟩) ?_
  rintro ⟨i, j, d1⟩ ⟨hs, hi, hj, he⟩
  simp only at hs hi hj he
  dsimp only
  refine WP.seq ?_
  refine WP.seq ?_
  refine WP.reg ?_
  refine WL.e e_move <| WL.e e_move <| WL.e e_lss ?_
  refine WL.next ?_
  refine WP.cond rfl (fun h1 => ?_) (fun h1 => ?_)
  · replace h1 : i < j := by rw [decide_eq_true_eq] at h1; omega
    refine WP.skip ?_
    refine PO.next ?_
    refine WP.block ?_
    refine WP.seq ?_
    refine WP.draws mixedOk 16 ?_
    refine RW.e 0 rfl e_move <| RW.e 1 rfl e_move <| RW.e 2 rfl e_move <| RW.e 3 rfl e_move <| RW.e 4 rfl e_move <| RW.e 5 rfl e_move <| RW.e 6 rfl (ea_ia sl82) <| RW.e 7 rfl (ea_load a22) <| RW.e 8 rfl e_move <| RW.e 9 rfl e_move <| RW.e 10 rfl (ea_ia sl82) <| RW.e 11 rfl (ea_load a22) ?_
    refine RW.e 12 rfl (ea_ia sl82) ?_
    refine RW.any (is := [13]) rfl ⟨?_, trivial⟩
    refine RWat.h' rfl rfl rfl ?_
    refine (ha_store s22 ?_)
    refine ⟨⟨⟨_, rfl, .inl ⟨rfl, e_move⟩⟩, ⟨_, rfl, .inl ⟨rfl, e_move⟩⟩, trivial⟩, ?_⟩
    refine RW.e 14 rfl (ea_ia sl82) ?_
    refine RW.any (is := [15]) rfl ⟨?_, trivial⟩
    refine RWat.h' rfl rfl rfl ?_
    refine (ha_store s22 ?_)
    refine ⟨trivial, ?_⟩
    refine RW.done ?_
    refine PO.next ?_
    refine WP.seq ?_
    refine WP.reg ?_
    refine WL.e e_move <| WL.e (e_addN (b := 1)) <| WL.e e_assign ?_
    refine WL.next ?_
    refine WP.reg ?_
    refine WL.e e_move <| WL.e (e_subN (b := 1)) <| WL.e e_assign ?_
    refine WL.nil ?_
    refine PO.blockN ?_
    exact PO.againK (i + 1, j - 1, swp d1 i j) ⟨by simp only [swp_size]; omega, by simp only; omega, by simp only; omega, by simp only; rw [← he, rev_step h1]⟩ (by simp only; omega)
  · replace h1 : ¬ (i < j) := by rw [decide_eq_false_iff_not] at h1; omega
    refine WP.exit ?_
    refine PO.past nofun ?_
    refine PO.round nofun ?_
    refine PO.blockX ?_
    rw [rev_stop h1] at he
    rw [show reverseRange d a b = d1 from he.symm] at hK
    exact PO.fin Tryz.results193 rv_nil hK
theorem Ord32_spec {g : World} {u : Value} {q : Nat} (d : Array UInt32) (a b sw : Nat) (ha : a < d.size) (hb : b < d.size) (hs : sw ≤ 1000000) : Spec Tryz.prog g 226 [u, .int .i64 a, .int .i64 b, .pointer (some ⟨q, 0, none⟩)] [Sl 22 1 u32C u (d).toList, cl q 3 [.int .i64 ((sw : Nat) : Int)]] fun K R => K (.tuple #[.int .i64 ((order2 lt32 d a b sw).1 : Nat), .int .i64 ((order2 lt32 d a b sw).2.1 : Nat)]) (Sl 22 1 u32C u (d).toList :: cl q 3 [.int .i64 (((order2 lt32 d a b sw).2.2 : Nat) : Int)] :: R) := by
  refine Spec.intro Tryz.func226 rfl Tryz.ntmps226 rfl fun R K hK => ?_
  refine WP.seq ?_
  refine WP.reg ?_
  refine WL.e e_assign <| WL.e e_assign ?_
  refine WL.next ?_
  refine WP.seq ?_
  refine WP.seq ?_
  refine WP.draws mixedOk 9 ?_
  refine RW.e 0 rfl e_move <| RW.e 1 rfl e_move <| RW.e 2 rfl (ea_ia sl82) <| RW.e 3 rfl (ea_load a22) <| RW.e 4 rfl e_move <| RW.e 5 rfl e_move <| RW.e 6 rfl (ea_ia sl82) <| RW.e 7 rfl (ea_load a22) ?_
  refine RW.any (is := [8]) rfl ⟨?_, trivial⟩
  refine RWat.h rfl rfl rfl ?_
  refine (h_call (Less32_spec _ _) k195 ?_)
  refine ⟨trivial, ?_⟩
  refine RW.done ?_
  refine PO.next ?_
  refine WP.cond rfl (fun h1 => ?_) (fun h1 => ?_)
  · rw [ord_t h1] at hK
    refine WP.seq ?_
    refine WP.reg ?_
    refine WL.e e_move <| WL.e e_nil <| WL.e (e_load a3) <| WL.e (e_addN (b := 1)) <| WL.e e_nil ?_
    refine WL.h' (h_store s3 ?_)
    refine WL.next ?_
    refine WP.seq ?_
    refine WP.reg ?_
    refine WL.e e_move <| WL.e e_move <| WL.e e_assign <| WL.e e_assign ?_
    refine WL.next ?_
    refine WP.ret ?_
    refine PO.past nofun ?_
    exact PO.fin Tryz.results226 (rv_tmp (rv_tmp rv_nil)) hK
  · rw [ord_f h1] at hK
    refine WP.skip ?_
    refine PO.next ?_
    refine WP.seq ?_
    refine WP.reg ?_
    refine WL.e e_move <| WL.e e_move <| WL.e e_assign <| WL.e e_assign ?_
    refine WL.next ?_
    refine WP.ret ?_
    exact PO.fin Tryz.results226 (rv_tmp (rv_tmp rv_nil)) hK
theorem Med32_spec {g : World} {u : Value} {q : Nat} (d : Array UInt32) (a b c sw : Nat) (ha : a < d.size) (hb : b < d.size) (hc : c < d.size) (hs : sw ≤ 1000) : Spec Tryz.prog g 218 [u, .int .i64 a, .int .i64 b, .int .i64 c, .pointer (some ⟨q, 0, none⟩)] [Sl 22 1 u32C u (d).toList, cl q 3 [.int .i64 ((sw : Nat) : Int)]] fun K R => K (.int .i64 ((median lt32 d a b c sw).1 : Nat)) (Sl 22 1 u32C u (d).toList :: cl q 3 [.int .i64 (((median lt32 d a b c sw).2 : Nat) : Int)] :: R) := by
  refine Spec.intro Tryz.func218 rfl Tryz.ntmps218 rfl fun R K hK => ?_
  refine WP.seq ?_
  refine WP.reg ?_
  refine WL.e e_assign ?_
  refine WL.next ?_
  refine WP.seq ?_
  refine WP.reg ?_
  refine WL.e e_move <| WL.e e_move <| WL.e e_move <| WL.e e_move ?_
  refine WL.h (h_call (Ord32_spec d a b sw ha hb (by omega)) k226 ?_)
  obtain ⟨p1, p2, p3⟩ := ord_lt (d := d) (sw := sw) ha hb
  obtain ⟨r1, hr1⟩ : ∃ r, r = order2 lt32 d a b sw := ⟨_, rfl⟩
  rw [← hr1] at p1 p2 p3 ⊢
  refine WL.e e_move <| WL.e e_extract <| WL.e e_extract <| WL.e e_assign <| WL.e e_assign ?_
  refine WL.next ?_
  refine WP.seq ?_
  refine WP.reg ?_
  refine WL.e e_move <| WL.e e_move <| WL.e e_move <| WL.e e_move ?_
  refine WL.h (h_call (Ord32_spec d r1.2.1 c r1.2.2 p2 hc (by omega)) k226 ?_)
  obtain ⟨p4, p5, p6⟩ := ord_lt (d := d) (sw := r1.2.2) p2 hc
  obtain ⟨r2, hr2⟩ : ∃ r, r = order2 lt32 d r1.2.1 c r1.2.2 := ⟨_, rfl⟩
  rw [← hr2] at p4 p5 p6 ⊢
  refine WL.e e_move <| WL.e e_extract <| WL.e e_extract <| WL.e e_assign <| WL.e e_assign ?_
  refine WL.next ?_
  refine WP.seq ?_
  refine WP.reg ?_
  refine WL.e e_move <| WL.e e_move <| WL.e e_move <| WL.e e_move ?_
  refine WL.h (h_call (Ord32_spec d r1.1 r2.1 r2.2.2 p1 p4 (by omega)) k226 ?_)
  rw [show median lt32 d a b c sw = ((order2 lt32 d r1.1 r2.1 r2.2.2).2.1, (order2 lt32 d r1.1 r2.1 r2.2.2).2.2) by rw [hr2, hr1]; rfl] at hK
  refine WL.e e_move <| WL.e e_extract <| WL.e e_extract <| WL.e e_assign <| WL.e e_assign ?_
  refine WL.next ?_
  refine WP.seq ?_
  refine WP.reg ?_
  refine WL.e e_move <| WL.e e_assign ?_
  refine WL.next ?_
  refine WP.ret ?_
  exact PO.fin Tryz.results218 (rv_tmp rv_nil) hK
theorem MedA32_spec {g : World} {u : Value} {q : Nat} (d : Array UInt32) (a sw : Nat) (h1 : 1 ≤ a) (ha : a + 1 < d.size) (hn : d.size ≤ 68719476736) (hs : sw ≤ 1000) : Spec Tryz.prog g 217 [u, .int .i64 a, .pointer (some ⟨q, 0, none⟩)] [Sl 22 1 u32C u (d).toList, cl q 3 [.int .i64 ((sw : Nat) : Int)]] fun K R => K (.int .i64 ((medianAdjacent lt32 d a sw).1 : Nat)) (Sl 22 1 u32C u (d).toList :: cl q 3 [.int .i64 (((medianAdjacent lt32 d a sw).2 : Nat) : Int)] :: R) := by
  refine Spec.intro Tryz.func217 rfl Tryz.ntmps217 rfl fun R K hK => ?_
  refine WP.seq ?_
  refine WP.reg ?_
  refine WL.e e_assign ?_
  refine WL.next ?_
  refine WP.seq ?_
  refine WP.reg ?_
  refine WL.e e_move <| WL.e e_move <| WL.e (e_subN (b := 1)) <| WL.e e_move <| WL.e e_move <| WL.e (e_addN (b := 1)) <| WL.e e_move ?_
  refine WL.h (h_call (Med32_spec d (a - 1) a (a + 1) sw (by omega) (by omega) ha hs) k218 ?_)
  refine WL.e e_assign ?_
  refine WL.next ?_
  refine WP.ret ?_
  exact PO.fin Tryz.results217 (rv_tmp rv_nil) hK
set_option maxHeartbeats 1000000 in
theorem Piv32_spec {g : World} {u : Value} (d : Array UInt32) (a b : Nat) (hab : a < b) (hb : b ≤ d.size) (hn : d.size ≤ 68719476736) : Spec Tryz.prog g 192 [u, .int .i64 a, .int .i64 b] [Sl 22 1 u32C u (d).toList] fun K R => K (.tuple #[.int .i64 ((choosePivot lt32 d a b).1 : Nat), .int .i64 (hv (choosePivot lt32 d a b).2 : Nat)]) (Sl 22 1 u32C u (d).toList :: R) := by
  refine Spec.intro Tryz.func192 rfl Tryz.ntmps192 rfl fun R K hK => ?_
  refine WP.seq ?_
  refine WP.reg ?_
  refine WL.e e_assign <| WL.e e_assign ?_
  refine WL.next ?_
  refine WP.seq ?_
  refine WP.reg ?_
  refine WL.e e_move <| WL.e e_move <| WL.e (e_subN) <| WL.e e_assign ?_
  refine WL.next ?_
  refine WP.seq ?_
  refine WP.reg ?_
  refine WL.h (h_alloc z3 fun b1 => ?_)
  refine WL.next ?_
  refine WP.seq ?_
  refine WP.reg ?_
  refine WL.e e_move <| WL.e e_move <| WL.e (e_quoN (b := 4)) <| WL.e (e_mulN (b := 1)) <| WL.e (e_addN) <| WL.e e_assign ?_
  refine WL.next ?_
  refine WP.seq ?_
  refine WP.reg ?_
  refine WL.e e_move <| WL.e e_move <| WL.e (e_quoN (b := 4)) <| WL.e (e_mulN (b := 2)) <| WL.e (e_addN) <| WL.e e_assign ?_
  refine WL.next ?_
  refine WP.seq ?_
  refine WP.reg ?_
  refine WL.e e_move <| WL.e e_move <| WL.e (e_quoN (b := 4)) <| WL.e (e_mulN (b := 3)) <| WL.e (e_addN) <| WL.e e_assign ?_
  refine WL.next ?_
  refine WP.seq ?_
  refine WP.seq ?_
  refine WP.reg ?_
  refine WL.e e_move <| WL.e e_geq ?_
  refine WL.next ?_
  refine WP.cond rfl (fun h8 => ?_) (fun h8 => ?_)
  · replace h8 : b - a ≥ 8 := by rw [decide_eq_true_eq] at h8; omega
    refine WP.seq ?_
    refine WP.seq ?_
    refine WP.reg ?_
    refine WL.e e_move <| WL.e e_geq ?_
    refine WL.next ?_
    refine WP.cond rfl (fun h50 => ?_) (fun h50 => ?_)
    · replace h50 : b - a ≥ 50 := by rw [decide_eq_true_eq] at h50; omega
      refine WP.seq ?_
      refine WP.reg ?_
      refine WL.e e_move <| WL.e e_move ?_
      refine WL.h (h_call (MedA32_spec d (a + (b - a) / 4 * 1) 0 (by omega) (by omega) (by omega) (by omega)) k217 ?_)
      obtain ⟨r1, e1⟩ : ∃ r, medianAdjacent lt32 d (a + (b - a) / 4 * 1) 0 = r := ⟨_, rfl⟩
      obtain ⟨p1, p2⟩ : r1.1 < d.size ∧ r1.2 ≤ 3 := by rw [← e1]; exact med_lt (by omega) (by omega) (by omega)
      rw [e1]
      refine WL.e e_assign ?_
      refine WL.next ?_
      refine WP.seq ?_
      refine WP.reg ?_
      refine WL.e e_move <| WL.e e_move ?_
      refine WL.h (h_call (MedA32_spec d (a + (b - a) / 4 * 2) r1.2 (by omega) (by omega) (by omega) (by omega)) k217 ?_)
      obtain ⟨r2, e2⟩ : ∃ r, medianAdjacent lt32 d (a + (b - a) / 4 * 2) r1.2 = r := ⟨_, rfl⟩
      obtain ⟨p3, p4⟩ : r2.1 < d.size ∧ r2.2 ≤ r1.2 + 3 := by rw [← e2]; exact med_lt (by omega) (by omega) (by omega)
      rw [e2]
      refine WL.e e_assign ?_
      refine WL.next ?_
      refine WP.reg ?_
      refine WL.e e_move <| WL.e e_move ?_
      refine WL.h (h_call (MedA32_spec d (a + (b - a) / 4 * 3) r2.2 (by omega) (by omega) (by omega) (by omega)) k217 ?_)
      obtain ⟨r3, e3⟩ : ∃ r, medianAdjacent lt32 d (a + (b - a) / 4 * 3) r2.2 = r := ⟨_, rfl⟩
      obtain ⟨p5, p6⟩ : r3.1 < d.size ∧ r3.2 ≤ r2.2 + 3 := by rw [← e3]; exact med_lt (by omega) (by omega) (by omega)
      rw [e3]
      refine WL.e e_assign ?_
      refine WL.next ?_
      refine WP.reg ?_
      refine WL.e e_move <| WL.e e_move <| WL.e e_move <| WL.e e_move ?_
      refine WL.h (h_call (Med32_spec d r1.1 r2.1 r3.1 r3.2 p1 p3 p5 (by omega)) k218 ?_)
      obtain ⟨r4, e4⟩ : ∃ r, median lt32 d r1.1 r2.1 r3.1 r3.2 = r := ⟨_, rfl⟩
      rw [e4]
      rw [cp3 h8 h50 e1 e2 e3 e4] at hK
      clear e1
      refine WL.e e_assign ?_
      refine WL.next ?_
      refine WP.seq ?_
      refine WP.reg ?_
      refine WL.e (e_load a3) ?_
      refine WL.next ?_
      refine WP.block ?_
      refine WP.seq ?_
      refine WP.reg ?_
      refine WL.e e_eql <| WL.e e_assign ?_
      refine WL.next ?_
      refine WP.cond rfl (fun e0 => ?_) (fun e0 => ?_)
      · replace e0 : r4.2 = 0 := by simpa using e0
        rw [cpH, if_pos e0] at hK
        refine WP.seq ?_
        refine WP.reg ?_
        refine WL.e e_move <| WL.e e_assign <| WL.e e_assign ?_
        refine WL.next ?_
        refine WP.ret ?_
        refine PO.blockR ?_
        exact PO.fin Tryz.results192 (rv_tmp (rv_tmp rv_nil)) hK
      · replace e0 : ¬ r4.2 = 0 := by simpa using e0
        refine WP.seq ?_
        refine WP.reg ?_
        refine WL.e e_eql <| WL.e e_assign ?_
        refine WL.next ?_
        refine WP.cond rfl (fun e1 => ?_) (fun e1 => ?_)
        · replace e1 : r4.2 = 12 := by have := eq_of_beq e1; omega
          rw [cpH, if_neg e0, if_pos e1] at hK
          refine WP.seq ?_
          refine WP.reg ?_
          refine WL.e e_move <| WL.e e_assign <| WL.e e_assign ?_
          refine WL.next ?_
          refine WP.ret ?_
          refine PO.blockR ?_
          exact PO.fin Tryz.results192 (rv_tmp (rv_tmp rv_nil)) hK
        · replace e1 : ¬ r4.2 = 12 := fun h => by rw [h] at e1; exact absurd e1 (by decide)
          rw [cpH, if_neg e0, if_neg e1] at hK
          refine WP.seq ?_
          refine WP.reg ?_
          refine WL.e e_move <| WL.e e_assign <| WL.e e_assign ?_
          refine WL.next ?_
          refine WP.ret ?_
          refine PO.blockR ?_
          exact PO.fin Tryz.results192 (rv_tmp (rv_tmp rv_nil)) hK
    · replace h50 : ¬ (b - a ≥ 50) := by rw [decide_eq_false_iff_not] at h50; omega
      refine WP.skip ?_
      refine PO.next ?_
      refine WP.reg ?_
      refine WL.e e_move <| WL.e e_move <| WL.e e_move <| WL.e e_move ?_
      refine WL.h (h_call (Med32_spec d (a + (b - a) / 4 * 1) (a + (b - a) / 4 * 2) (a + (b - a) / 4 * 3) 0 (by omega) (by omega) (by omega) (by omega)) k218 ?_)
      rw [cp2 h8 h50] at hK
      obtain ⟨r4, e4⟩ : ∃ r, median lt32 d (a + (b - a) / 4 * 1) (a + (b - a) / 4 * 2) (a + (b - a) / 4 * 3) 0 = r := ⟨_, rfl⟩
      rw [e4] at hK ⊢
      refine WL.e e_assign ?_
      refine WL.next ?_
      refine WP.seq ?_
      refine WP.reg ?_
      refine WL.e (e_load a3) ?_
      refine WL.next ?_
      refine WP.block ?_
      refine WP.seq ?_
      refine WP.reg ?_
      refine WL.e e_eql <| WL.e e_assign ?_
      refine WL.next ?_
      refine WP.cond rfl (fun e0 => ?_) (fun e0 => ?_)
      · replace e0 : r4.2 = 0 := by simpa using e0
        rw [cpH, if_pos e0] at hK
        refine WP.seq ?_
        refine WP.reg ?_
        refine WL.e e_move <| WL.e e_assign <| WL.e e_assign ?_
        refine WL.next ?_
        refine WP.ret ?_
        refine PO.blockR ?_
        exact PO.fin Tryz.results192 (rv_tmp (rv_tmp rv_nil)) hK
      · replace e0 : ¬ r4.2 = 0 := by simpa using e0
        refine WP.seq ?_
        refine WP.reg ?_
        refine WL.e e_eql <| WL.e e_assign ?_
        refine WL.next ?_
        refine WP.cond rfl (fun e1 => ?_) (fun e1 => ?_)
        · replace e1 : r4.2 = 12 := by have := eq_of_beq e1; omega
          rw [cpH, if_neg e0, if_pos e1] at hK
          refine WP.seq ?_
          refine WP.reg ?_
          refine WL.e e_move <| WL.e e_assign <| WL.e e_assign ?_
          refine WL.next ?_
          refine WP.ret ?_
          refine PO.blockR ?_
          exact PO.fin Tryz.results192 (rv_tmp (rv_tmp rv_nil)) hK
        · replace e1 : ¬ r4.2 = 12 := fun h => by rw [h] at e1; exact absurd e1 (by decide)
          rw [cpH, if_neg e0, if_neg e1] at hK
          refine WP.seq ?_
          refine WP.reg ?_
          refine WL.e e_move <| WL.e e_assign <| WL.e e_assign ?_
          refine WL.next ?_
          refine WP.ret ?_
          refine PO.blockR ?_
          exact PO.fin Tryz.results192 (rv_tmp (rv_tmp rv_nil)) hK
  · replace h8 : ¬ (b - a ≥ 8) := by rw [decide_eq_false_iff_not] at h8; omega
    refine WP.skip ?_
    refine PO.next ?_
    refine WP.seq ?_
    refine WP.reg ?_
    refine WL.e (e_load a3) ?_
    refine WL.next ?_
    refine WP.block ?_
    refine WP.seq ?_
    refine WP.reg ?_
    refine WL.e e_eql <| WL.e e_assign ?_
    refine WL.next ?_
    refine WP.cond rfl (fun e0 => ?_) (fun e0 => ?_)
    · rw [cp1 h8] at hK
      refine WP.seq ?_
      refine WP.reg ?_
      refine WL.e e_move <| WL.e e_assign <| WL.e e_assign ?_
      refine WL.next ?_
      refine WP.ret ?_
      refine PO.blockR ?_
      exact PO.fin Tryz.results192 (rv_tmp (rv_tmp rv_nil)) hK
    · exact absurd e0 (by decide)
end Go.SL
