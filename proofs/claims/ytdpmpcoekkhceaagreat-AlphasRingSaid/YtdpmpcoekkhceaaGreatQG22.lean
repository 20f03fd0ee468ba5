/- UB NH NI SLA UG SLv: rules and walks, several texts in one. -/
import Derived.Test.YtdpmpcoekkhceaaGreatQG21
import Derived.Test.YtdpmpcoekkhceaaGreatProg
import Derived.KernelRfl
import Derived.WideLaws
import Derived.Laws.DeepStrings4
import Derived.Deep.Slices
import Derived.ChangeSame
import Derived.SizedLaws
set_option linter.unusedSimpArgs false
set_option linter.unusedVariables false
namespace Go.SL.UB
open Go Go.Proofs Go.SL
theorem a29 : aggOf Tryz.prog 29 = some none := by kernel_rfl
theorem f31_0 : fldOf Tryz.prog 31 0 = some 0 := by kernel_rfl
theorem k22 : callable Tryz.prog 22 = true := by kernel_rfl
theorem k23 : callable Tryz.prog 23 = true := by kernel_rfl
theorem k24 : callable Tryz.prog 24 = true := by kernel_rfl
theorem k25 : callable Tryz.prog 25 = true := by kernel_rfl
theorem k26 : callable Tryz.prog 26 = true := by kernel_rfl
theorem k27 : callable Tryz.prog 27 = true := by kernel_rfl
theorem k28 : callable Tryz.prog 28 = true := by kernel_rfl
theorem k37 : callable Tryz.prog 37 = true := by kernel_rfl
theorem pt48 : isPtr Tryz.prog 48 = true := by kernel_rfl
theorem s31 : szOf Tryz.prog 31 = some 1 := by kernel_rfl
theorem sl29 : slOf Tryz.prog 29 = some (40, 2, 24) := by kernel_rfl
theorem z31 : zeroOf Tryz.prog 31 = some [.slice none 0 0] := by kernel_rfl
end Go.SL.UB
namespace Go.SL
open Go Go.Proofs UB
set_option maxHeartbeats 4000000 in
theorem lives_spec {g : World} : Spec Tryz.prog g 29 [] [] fun K R => K (.bool true) R := by
  refine Spec.intro Tryz.func29 rfl Tryz.ntmps29 rfl fun R K hK => ?_
  refine WP.seq ?_
  refine WP.reg ?_
  refine WL.e e_assign ?_
  refine WL.next ?_
  refine WP.seq ?_
  refine WP.reg ?_
  refine WL.h (h_call (opened_spec) k22 ?_)
  intro dp p
  have h0 := AtA.first
  refine WL.e e_move <| WL.e e_extract <| WL.e e_extract <| WL.e e_assign <| WL.e e_assign ?_
  refine WL.next ?_
  refine WP.seq ?_
  refine WP.seq ?_
  refine WP.reg ?_
  refine WL.e e_move <| WL.e (e_peq pt48) <| WL.e e_move ?_
  refine WL.bool 22 rfl (fun hg => ?_) (fun hg => ?_)
  · cases hg -- end
  · skip
    refine WL.e e_move ?_
    refine WL.h (h_call (ABegin_spec (s := stF) 1) k23 ?_)
    intro q1
    obtain ⟨e0, h1⟩ := h0.beg 1 q1 (by decide) (by rfl) (by simp)
    rw [e0]
    generalize begS stF 1 q1 = s1 at h1 ⊢
    simp only [List.nil_append, List.cons_append] at h1
    refine WL.e e_neq <| WL.e e_pick_f <| WL.e e_move ?_
    refine WL.bool 27 rfl (fun hg2 => ?_) (fun hg2 => ?_)
    · exact absurd hg2 (by decide) -- end
    · skip
      refine WL.e e_move ?_
      refine WL.h (h_call (ABegin_spec (s := s1) 2) k23 ?_)
      intro q2
      obtain ⟨e0, h2⟩ := h1.beg 2 q2 (by decide) (by rfl) (by simp)
      rw [e0]
      generalize begS s1 2 q2 = s2 at h2 ⊢
      simp only [List.nil_append, List.cons_append] at h2
      refine WL.e e_neq <| WL.e e_pick_f ?_
      refine WL.next ?_
      refine WP.cond_f rfl ?_
      refine WP.skip ?_
      refine PO.next ?_
      refine WP.seq ?_
      refine WP.reg ?_
      refine WL.e e_move ?_
      refine WL.h (h_call (lput_spec kA 5) k25 ?_)
      refine WL.h (h_call (ADo_spec (s := s2) 1 (opPut kA 5) h2.ok) k24 ?_)
      obtain ⟨s3, e0, h3⟩ := h2.put (n := 1) rfl (x := opPut kA 5) (by rw [put_ok]; exact keyA) (in_one _) rfl way_1 (by decide)
      rw [e0]
      try simp only [setU, List.map_cons, List.map_nil, List.nil_append, List.cons_append] at h3
      try simp (config := { decide := true }) only [if_true, if_false] at h3
      rw [show lockS [] 1 (spanOf (opPut kA 5)) true = lA from lock_1] at h3
      refine WL.e e_move <| WL.e e_extract <| WL.e e_extract ?_
      refine WL.h (h_alloc z31 fun b1 => ?_)
      refine WL.h' (h_store s31 ?_)
      refine WL.e e_assign ?_
      refine WL.next ?_
      refine WP.seq ?_
      refine WP.reg ?_
      refine WL.e e_move ?_
      refine WL.h (h_call (lput_spec kB 1) k25 ?_)
      refine WL.h (h_call (ADo_spec (s := s3) 2 (opPut kB 1) h3.ok) k24 ?_)
      obtain ⟨s4, e0, h4⟩ := h3.put (n := 2) rfl (x := opPut kB 1) (by rw [put_ok]; exact keyB) (in_one _) rfl way_2 (by decide)
      rw [e0]
      try simp only [setU, List.map_cons, List.map_nil, List.nil_append, List.cons_append] at h4
      try simp (config := { decide := true }) only [if_true, if_false] at h4
      rw [show lockS lA 2 (spanOf (opPut kB 1)) true = lAB from lock_2] at h4
      refine WL.e e_move <| WL.e e_extract <| WL.e e_extract ?_
      refine WL.h (h_alloc z31 fun b2 => ?_)
      refine WL.h' (h_store s31 ?_)
      refine WL.e e_assign ?_
      refine WL.next ?_
      refine WP.seq ?_
      refine WP.reg ?_
      refine WL.e e_move ?_
      refine WL.h (h_call (lget_spec kB) k27 ?_)
      refine WL.h (h_call (ADo_spec (s := s4) 1 (opGet kB) h4.ok) k24 ?_)
      obtain ⟨s5, e0, h5⟩ := h4.wait (n := 1) rfl (x := opGet kB) (by rw [get_ok]; exact keyB) (in_one _) (by rw [show wayL lAB 1 (spanOf (opGet kB)) (writes (opGet kB)) = [2] from way_3]; decide) (by rw [show wayL lAB 1 (spanOf (opGet kB)) (writes (opGet kB)) = [2] from way_3]; exact ring_3 (by simp [edgesA, setU]) (by decide))
      rw [e0]
      try simp only [setU, List.map_cons, List.map_nil, List.nil_append, List.cons_append] at h5
      try simp (config := { decide := true }) only [if_true, if_false] at h5
      rw [show wayL lAB 1 (spanOf (opGet kB)) (writes (opGet kB)) = [2] from way_3] at h5
      refine WL.e e_move <| WL.e e_extract <| WL.e e_extract ?_
      refine WL.h (h_alloc z31 fun b3 => ?_)
      refine WL.h' (h_store s31 ?_)
      refine WL.e e_assign ?_
      refine WL.next ?_
      refine WP.seq ?_
      refine WP.reg ?_
      refine WL.e e_move ?_
      refine WL.h (h_call (lget_spec kA) k27 ?_)
      refine WL.h (h_call (ADo_spec (s := s5) 2 (opGet kA) h5.ok) k24 ?_)
      obtain ⟨s6, e0, h6⟩ := h5.ring (n := 2) rfl (x := opGet kA) (by rw [get_ok]; exact keyA) (in_one _) (by rw [show wayL lAB 2 (spanOf (opGet kA)) (writes (opGet kA)) = [1] from way_4]; decide) (by rw [show wayL lAB 2 (spanOf (opGet kA)) (writes (opGet kA)) = [1] from way_4]; exact ring_4 (w := 1) (by simp [edgesA, setU, findU]) (by decide))
      rw [e0]
      try simp only [setU, List.map_cons, List.map_nil, List.nil_append, List.cons_append] at h6
      try simp (config := { decide := true }) only [if_true, if_false] at h6
      rw [free_4] at h6
      refine WL.e e_move <| WL.e e_extract <| WL.e e_extract ?_
      refine WL.h (h_alloc z31 fun b4 => ?_)
      refine WL.h' (h_store s31 ?_)
      refine WL.e e_assign ?_
      refine WL.next ?_
      refine WP.seq ?_
      refine WP.reg ?_
      refine WL.e e_move ?_
      refine WL.h (h_call (lget_spec kB) k27 ?_)
      refine WL.h (h_call (ADo_spec (s := s6) 1 (opGet kB) h6.ok) k24 ?_)
      obtain ⟨s7, e0, h7⟩ := h6.get (n := 1) rfl (x := opGet kB) (by rw [get_ok]; exact keyB) (in_one _) rfl way_5 (by decide)
      have hz : scanR (changeR (rowsN ([] : List (List ChgM)) 0) [⟨kA, 5, false⟩]) (one kB) 256 = ([] : List RowM) := List.length_eq_zero_iff.1 (by decide +kernel)
      rw [e0.trans (congrArg (DoS.look s7) hz)]
      try simp only [setU, List.map_cons, List.map_nil, List.nil_append, List.cons_append] at h7
      try simp (config := { decide := true }) only [if_true, if_false] at h7
      intro a1 m1 c1
      refine WL.e e_move <| WL.e e_extract <| WL.e e_extract ?_
      refine WL.h (h_alloc z31 fun b5 => ?_)
      refine WL.h' (h_store s31 ?_)
      refine WL.e e_assign ?_
      refine WL.next ?_
      refine WP.seq ?_
      refine WP.reg ?_
      refine WL.e e_move ?_
      refine WL.h (h_call (ACommit_spec (s := s7) 1 h7.ok (by decide)) k26 ?_)
      obtain ⟨e0, e1, h8⟩ := h7.com (n := 1) rfl (by simp) (by simp) (by decide)
      rw [e0, e1]
      generalize comS alphaI s7 1 = s8 at h8 ⊢
      refine WL.e e_move <| WL.e e_extract <| WL.e e_extract <| WL.e e_assign <| WL.e e_assign ?_
      refine WL.next ?_
      refine WP.seq ?_
      refine WP.reg ?_
      refine WL.e e_assign ?_
      refine WL.next ?_
      refine WP.seq ?_
      refine WP.reg ?_
      refine WL.e e_move <| WL.e e_eql <| WL.e e_move ?_
      refine WL.bool 69 rfl (fun y1 => ?_) (fun y1 => ?_)
      · skip
        refine WL.e e_move <| WL.e e_eql <| WL.e e_pick_t <| WL.e e_move ?_
        refine WL.bool 73 rfl (fun y2 => ?_) (fun y2 => ?_)
        · skip
          refine WL.e e_move <| WL.e e_eql <| WL.e e_pick_t <| WL.e e_move ?_
          refine WL.bool 77 rfl (fun y3 => ?_) (fun y3 => ?_)
          · skip
            refine WL.e e_move <| WL.e e_eql <| WL.e e_pick_t <| WL.e e_move ?_
            refine WL.bool 81 rfl (fun y4 => ?_) (fun y4 => ?_)
            · skip
              refine WL.e e_move <| WL.e e_eql <| WL.e e_pick_t <| WL.e e_move ?_
              refine WL.bool 85 rfl (fun y5 => ?_) (fun y5 => ?_)
              · skip
                refine WL.e (e_fa f31_0) <| WL.e (e_load a29) ?_
                refine WL.e (el_len (xs := ([] : List RowM)) sl29 sl_rl) <| WL.e e_eql <| WL.e e_pick_t <| WL.e e_move ?_
                refine WL.bool 91 rfl (fun y6 => ?_) (fun y6 => ?_)
                · skip
                  refine WL.e e_move <| WL.e (e_eql32 (b := 1)) <| WL.e e_pick_t <| WL.e e_move ?_
                  refine WL.bool 95 rfl (fun y7 => ?_) (fun y7 => ?_)
                  · skip
                    refine WL.e e_move <| WL.e e_eql <| WL.e e_pick_t <| WL.e e_move ?_
                    refine WL.bool 99 rfl (fun y8 => ?_) (fun y8 => ?_)
                    · skip
                      refine WL.e e_move ?_
                      refine WL.h (h_call (ARows_spec (s := s8) h8.ok) k37 ?_)
                      intro a9 m9 c9
                      rw [show s8.rows = [(⟨kA, 5⟩ : RowM)] from h8.rows]
                      refine WL.e (el_len (xs := [(⟨kA, 5⟩ : RowM)]) sl29 sl_rl) <| WL.e e_eql <| WL.e e_pick_t <| WL.e e_move ?_
                      refine WL.bool 105 rfl (fun y9 => ?_) (fun y9 => ?_)
                      · skip
                        refine WL.e e_move ?_
                        refine WL.h (h_call (ABegin_spec (s := s8) 0) k23 ?_)
                        intro q9
                        rw [(beg_zero s8 q9).1, (beg_zero s8 q9).2]
                        refine WL.e e_eql <| WL.e e_pick_t <| WL.e e_move ?_
                        refine WL.bool 110 rfl (fun y10 => ?_) (fun y10 => ?_)
                        · skip
                          refine WL.e e_move ?_
                          refine WL.h (h_call (AAbort_spec (s := s8) 9 h8.ok) k28 ?_)
                          obtain ⟨e0, e1⟩ := h8.abo0 (n := 9) rfl
                          rw [e0, e1]
                          refine WL.e e_eql <| WL.e e_pick_t <| WL.e e_move ?_
                          refine WL.bool 115 rfl (fun y11 => ?_) (fun y11 => ?_)
                          · skip
                            refine WL.e e_move ?_
                            refine WL.h (h_call (Begin_nil 1) k23 ?_)
                            refine WL.e e_eql <| WL.e e_pick_t <| WL.e e_assign ?_
                            refine WL.next ?_
                            refine WP.ret ?_
                            exact PO.finE Tryz.results29 (rv_tmp rv_nil) rfl hK
                          · exact absurd y11 (by decide) -- end
                        · exact absurd y10 (by decide) -- end
                      · exact absurd y9 (by decide) -- end
                    · exact absurd y8 (by decide) -- end
                  · exact absurd y7 (by decide) -- end
                · exact absurd y6 (by decide) -- end
              · exact absurd y5 (by decide) -- end
            · exact absurd y4 (by decide) -- end
          · exact absurd y3 (by decide) -- end
        · exact absurd y2 (by decide) -- end
      · exact absurd y1 (by decide) -- end
end Go.SL
/- A store that locks, in plain Lean: what one changed others wait for. -/
set_option linter.unusedSimpArgs false
set_option linter.unusedVariables false
set_option linter.unusedSectionVars false
namespace Go.SL
open Go
section
variable {s : StV} {ts : List TxT} {H : List (List ChgM)} {L : LkT} {b : Nat}
theorem AtA.comA (h : AtA s ts H L b) {n : UInt32} {t : TxT} (hf : findU ts n = some t) (hl : t.x.own.length ≤ 80) (hH : H.length ≤ 40) (hb : b ≤ 1000) :
    comE alphaI s n = 0 ∧ comN alphaI s n = UInt32.ofNat H.length + 1 ∧ AtA (comS alphaI s n) (delU ts n) (H ++ [t.x.own]) (freeL L n) (b + 1) := by
  obtain ⟨e0, e1, h2⟩ := h.com hf hl hH hb
  refine ⟨e0, e1, h2, ?_⟩
  have hf' : findU s.txs n = some t := by rw [h.at_.txs]; exact hf
  have hfit : fitsS s t.x := by
    by_cases hfit : fitsS s t.x
    · exact hfit
    · simp [comE, hf', hfit, alphaI] at e0
  have hS2 : comS alphaI s n = addS (alphaI.ends s n) t.x.own := by simp [comS, hf', hfit, show alphaI.chk s t.x = false from rfl]
  rw [hS2]
  show freeL s.locks n = _
  rw [h.lk]
end
/-- What is asked with: the row, or a change of it. -/
structure AskK (v : UInt32) (wr : Bool) (x : OpM) : Prop where
  ok : opOk x = true
  sp : spanOf x = one kK
  wr : writes x = wr
theorem AskK.meet {v : UInt32} {wr : Bool} {x : OpM} (h : AskK v wr x) : Go.SL.meet (spanOf x) (spanOf x) = true := by rw [h.sp]; exact in_one _
end Go.SL
/- A store that locks, in plain Lean: a ring of those that wait. -/
set_option linter.unusedSimpArgs false
set_option linter.unusedVariables false
set_option linter.unusedSectionVars false
namespace Go.SL
open Go
def kL (j : Nat) : ByteArray := ⟨#[UInt8.ofNat (97 + j)]⟩
def letters : ByteArray := ⟨#[97, 98, 99, 100, 101, 102, 103, 104, 105, 106, 107, 108, 109, 110, 111, 112, 113, 114, 115, 116, 117, 118, 119, 120, 121, 122]⟩
theorem letters_cut : ∀ j : Fin 26, (letters.extract j.1 (j.1 + 1)).data = (kL j.1).data := by decide +kernel
theorem letter_cut {j : Nat} (h : j < 26) : letters.extract j (j + 1) = kL j := ByteArray.ext (letters_cut ⟨j, h⟩)
theorem kL_oks : ∀ j : Fin 26, keyOk (kL j.1) = true := by decide +kernel
theorem kL_ok {j : Nat} (h : j < 26) : keyOk (kL j) = true := kL_oks ⟨j, h⟩
theorem kL_lts : ∀ i j : Fin 26, sLt (kL i.1) (kL j.1) = decide (i.1 < j.1) := by decide +kernel
theorem kL_lt {i j : Nat} (hi : i < 26) (hj : j < 26) : sLt (kL i) (kL j) = decide (i < j) := kL_lts ⟨i, hi⟩ ⟨j, hj⟩
theorem kL_in {i j : Nat} (hi : i < 26) (hj : j < 26) : inSpan (one (kL i)) (kL j) = decide (i = j) := by
  rw [Bool.eq_iff_iff, decide_eq_true_iff]
  unfold inSpan one
  rw [sIn_iff, kL_lt hj hi, kL_lt hi hj]
  simp; omega
theorem kL_meet {i j : Nat} (hi : i < 26) (hj : j < 26) : meet (one (kL i)) (one (kL j)) = decide (i = j) := by
  rw [meet_one, kL_in hj hi, Bool.eq_iff_iff]; simp [eq_comm]
theorem setR_front {l : List RowM} {k : ByteArray} {v : UInt32} (h : ∀ r ∈ l, sLt k r.key = true) : setR l k v = ⟨k, v⟩ :: l := by
  have h1 : lowI l k = 0 := by
    unfold lowI
    cases l with
    | nil => rfl
    | cons x l =>
      have : sLt x.key k = false := by
        cases e : sLt x.key k with
        | false => rfl
        | true => have := sLt_trans e (h x (by simp)); rw [sLt_irrefl] at this; cases this
      simp [this]
  have h2 : hasI l k = false := by
    unfold hasI; rw [h1]
    cases l with
    | nil => rfl
    | cons x l =>
      have := sLt_ne (h x (by simp))
      simp only [List.getElem?_cons_zero]
      cases e : sEq x.key k with
      | false => rfl
      | true => exact absurd (sEq_iff.1 e).symm this
  simp [setR, h1, h2]
def rgRows (m c : Nat) : List RowM := (List.range c).map fun j => ⟨kL (m + j), UInt32.ofNat (m + j + 1)⟩
theorem rgRows_len (m c : Nat) : (rgRows m c).length = c := by simp [rgRows]
theorem rgRows_cons (m c : Nat) : rgRows m (c + 1) = ⟨kL m, UInt32.ofNat (m + 1)⟩ :: rgRows (m + 1) c := by
  unfold rgRows
  rw [List.range_succ_eq_map, List.map_cons, List.map_map]
  congr 1
  refine List.map_congr_left fun j _ => ?_
  show (⟨kL (m + (j + 1)), _⟩ : RowM) = _
  rw [show m + (j + 1) = m + 1 + j by omega]
theorem rgRows_key {m c : Nat} {r : RowM} (h : r ∈ rgRows m c) : ∃ j, m ≤ j ∧ j < m + c ∧ r = ⟨kL j, UInt32.ofNat (j + 1)⟩ := by
  unfold rgRows at h
  obtain ⟨j, hj, rfl⟩ := List.mem_map.1 h
  exact ⟨m + j, Nat.le_add_right _ _, by have := List.mem_range.1 hj; omega, rfl⟩
theorem rgRows_set {m c : Nat} (h : m + c ≤ 24) : setR (rgRows (m + 1) c) (kL m) (UInt32.ofNat (m + 1)) = rgRows m (c + 1) := by
  rw [rgRows_cons, setR_front]
  intro r hr
  obtain ⟨j, h1, h2, rfl⟩ := rgRows_key hr
  rw [kL_lt (by omega) (by omega)]; simp; omega
theorem rgRows_scan {m c : Nat} (h : m + c ≤ 24) : scanR (rgRows m c) (one (kL m)) 256 = if c = 0 then [] else [⟨kL m, UInt32.ofNat (m + 1)⟩] := by
  cases c with
  | zero => rfl
  | succ c =>
    rw [if_neg (Nat.succ_ne_zero c), rgRows_cons]
    unfold scanR
    rw [List.filter_cons]
    simp only [kL_in (show m < 26 by omega) (show m < 26 by omega), decide_true, if_true]
    have : (rgRows (m + 1) c).filter (fun r => inSpan (one (kL m)) r.key) = [] := by
      rw [List.filter_eq_nil_iff]
      intro r hr
      obtain ⟨j, h1, h2, rfl⟩ := rgRows_key hr
      simp only
      rw [kL_in (by omega) (by omega)]; simp; omega
    rw [this]; rfl
/-- The m transactions that are open: each put its row; the first w of them wait, each for the next one; c of those above have ended. -/
structure RgI (s : StV) (m w c b : Nat) : Prop where
  ok : AlphaOk s b
  len : s.txs.length ≤ m
  has : ∀ k : UInt32, (∃ t ∈ s.txs, t.id = k) ↔ 1 ≤ k.toNat ∧ k.toNat ≤ m
  own : ∀ t ∈ s.txs, t.x.own = [⟨kL (t.id.toNat - 1), t.id, false⟩]
  wt : ∀ t ∈ s.txs, t.x.waits = if t.id.toNat ≤ w then [t.id + 1] else []
  lk : ∀ k : UInt32, getS s.locks k = if 1 ≤ k.toNat ∧ k.toNat ≤ m then some [⟨one (kL (k.toNat - 1)), true⟩] else none
  his : s.H.length = c
  at_ : s.at_ ≤ 82 * c
  rows : s.rows = rgRows m c
section
variable {s : StV} {n m w c b : Nat}
theorem RgI.at (h : RgI s m w c b) : AtA s s.txs s.H s.locks b := ⟨⟨h.ok, rfl, rfl, by rw [h.his]; exact h.at_⟩, rfl⟩
theorem RgI.first : RgI stF 0 0 0 0 := by
  refine ⟨alp_first, by simp [stF, st0], fun k => ?_, by simp [stF, st0], by simp [stF, st0], fun k => ?_, rfl, Nat.zero_le _, rfl⟩
  · simp [stF, st0]; omega
  · rw [if_neg (by omega)]; rfl
theorem nat_u32 {m : Nat} (h : m < 4294967296) : (UInt32.ofNat m).toNat = m := by simp; omega
theorem u32_add1 {m : Nat} (h : m < 4294967295) : UInt32.ofNat m + 1 = UInt32.ofNat (m + 1) := by
  rw [← UInt32.toNat_inj, nat_u32 (by omega), UInt32.toNat_add, nat_u32 (by omega)]
  show (m + 1) % 4294967296 = m + 1; omega
theorem u32_lt {a b : Nat} (h : a < b) (hb : b < 1000) : UInt32.ofNat a < UInt32.ofNat b := UInt32.lt_iff_toNat_lt.2 (by rw [nat_u32 (by omega), nat_u32 (by omega)]; exact h)
theorem u32_nlt {a b : Nat} (h : b ≤ a) (ha : a < 1000) : ¬ UInt32.ofNat a < UInt32.ofNat b := fun e => by
  have := UInt32.lt_iff_toNat_lt.1 e
  rw [nat_u32 (by omega), nat_u32 (by omega)] at this; omega
theorem u32_bne {a b : Nat} (h : a ≠ b) (ha : a < 1000) (hb : b < 1000) : (UInt32.ofNat a == UInt32.ofNat b) = false := by
  rw [beq_eq_false_iff_ne]
  intro e
  have := congrArg UInt32.toNat e
  rw [nat_u32 (by omega), nat_u32 (by omega)] at this; omega
theorem u32_of {k : UInt32} {m : Nat} (h : k.toNat = m) : k = UInt32.ofNat m := by rw [← h]; simp
theorem RgI.find (h : RgI s m w c b) {i : Nat} (h1 : 1 ≤ i) (h2 : i ≤ m) (h3 : m < 30) : ∃ t, findU s.txs (UInt32.ofNat i) = some t ∧ t.id = UInt32.ofNat i ∧ t ∈ s.txs := by
  obtain ⟨t, ht, e⟩ := (h.has (UInt32.ofNat i)).2 (by rw [nat_u32 (by omega)]; omega)
  exact ⟨t, by rw [← e]; exact findU_of h.ok.st.ids ht, e, ht⟩
theorem RgI.way (h : RgI s m w c b) {i j : Nat} (hi : i < 30) (hj : j < 26) (hm : m < 26) : wayL s.locks (UInt32.ofNat i) (one (kL j)) false = if j + 1 ≤ m ∧ j + 1 ≠ i then [UInt32.ofNat (j + 1)] else [] := by
  refine strict_eq (way_sorted h.ok.keys _ _ _) (by split <;> simp) fun k => ?_
  rw [mem_way]
  have hR : k ∈ (if j + 1 ≤ m ∧ j + 1 ≠ i then [UInt32.ofNat (j + 1)] else []) ↔ (j + 1 ≤ m ∧ j + 1 ≠ i) ∧ k = UInt32.ofNat (j + 1) := by
    split
    · rename_i hc
      rw [List.mem_singleton]; exact ⟨fun e => ⟨hc, e⟩, fun h => h.2⟩
    · rename_i hc
      simp only [List.not_mem_nil, false_iff]; exact fun h => hc h.1
  rw [hR]
  constructor
  · rintro ⟨h1, ls, h2, l, h3, h4, h5⟩
    have hg := getS_mem h.ok.keys h2
    rw [h.lk] at hg
    simp only at hg
    split at hg
    · rename_i hk
      cases hg
      simp only [List.mem_singleton] at h3; subst h3
      rw [kL_meet (by omega) hj, decide_eq_true_eq] at h5
      have hkj : k.toNat = j + 1 := by omega
      refine ⟨⟨by omega, fun e => h1 ?_⟩, u32_of hkj⟩
      rw [u32_of hkj, e]
    · cases hg
  · rintro ⟨⟨h1, h2⟩, rfl⟩
    have hn : (UInt32.ofNat (j + 1)).toNat = j + 1 := nat_u32 (by omega)
    have hg := h.lk (UInt32.ofNat (j + 1))
    rw [hn, if_pos ⟨by omega, h1⟩] at hg
    refine ⟨fun e => h2 ?_, _, getS_some hg, _, List.mem_singleton.2 rfl, rfl, ?_⟩
    · rw [← hn, e, nat_u32 (by omega)]
    · rw [kL_meet (by omega) hj]; simp
theorem RgI.wayP (h : RgI s m w c b) (hm : m < 26) : wayL s.locks (UInt32.ofNat (m + 1)) (one (kL m)) true = [] := by
  rw [List.eq_nil_iff_forall_not_mem]
  intro k hk
  obtain ⟨h1, ls, h2, l, h3, h4, h5⟩ := mem_way.1 hk
  have hg := getS_mem h.ok.keys h2
  rw [h.lk] at hg
  simp only at hg
  split at hg
  · cases hg
    simp only [List.mem_singleton] at h3; subst h3
    rw [kL_meet (by omega) (by omega), decide_eq_true_eq] at h5
    omega
  · cases hg
/-- One begins, and puts its row. -/
theorem RgI.begs (h : RgI s m 0 0 b) (hm : m < 22) (hb : b ≤ 100) (q : Nat) : begE s (UInt32.ofNat (m + 1)) = 0 ∧ AlphaOk (begS s (UInt32.ofNat (m + 1)) q) b ∧
    ∃ s', doA (begS s (UInt32.ofNat (m + 1)) q) (UInt32.ofNat (m + 1)) (opPut (kL m) (UInt32.ofNat (m + 1))) = .put s' ∧ RgI s' (m + 1) 0 0 (b + 1) := by
  have hn : (UInt32.ofNat (m + 1)).toNat = m + 1 := nat_u32 (by omega)
  have hno : findU s.txs (UInt32.ofNat (m + 1)) = none := by
    cases hf : findU s.txs (UInt32.ofNat (m + 1)) with
    | none => rfl
    | some t =>
      have := (h.has (UInt32.ofNat (m + 1))).1 ⟨t, findU_mem hf, (findU_mid hf).1⟩
      rw [hn] at this; omega
  have h0 : UInt32.ofNat (m + 1) ≠ 0 := fun e => by rw [e] at hn; simp at hn
  obtain ⟨e0, h1⟩ := h.at.beg (UInt32.ofNat (m + 1)) q h0 hno (by have := h.len; omega)
  refine ⟨e0, h1.ok, ?_⟩
  have hf1 : findU (s.txs ++ [⟨UInt32.ofNat (m + 1), q, ⟨UInt32.ofNat s.H.length, [], [], []⟩⟩]) (UInt32.ofNat (m + 1)) = some ⟨UInt32.ofNat (m + 1), q, ⟨UInt32.ofNat s.H.length, [], [], []⟩⟩ := by
    unfold findU at hno ⊢
    rw [List.find?_append, hno]; simp
  obtain ⟨s', e1, h2⟩ := h1.put hf1 (x := opPut (kL m) (UInt32.ofNat (m + 1))) (by rw [put_ok]; exact kL_ok (by omega)) (in_one _) rfl (h.wayP (by omega)) (by omega)
  refine ⟨s', e1, ?_⟩
  have hts : s'.txs = _ := h2.at_.txs
  have hmem : ∀ t, t ∈ s'.txs → t ∈ s.txs ∨ t = ⟨UInt32.ofNat (m + 1), q, ⟨UInt32.ofNat s.H.length, [], [⟨kL m, UInt32.ofNat (m + 1), false⟩], []⟩⟩ := fun t ht => by
    rw [hts] at ht
    rcases setU_mem ht with ⟨u, hu, hui, rfl⟩ | ⟨hu, hne⟩
    · rcases List.mem_append.1 hu with hu | hu
      · exact absurd hui (findU_no hno u hu)
      · obtain rfl := List.mem_singleton.1 hu; exact .inr rfl
    · rcases List.mem_append.1 hu with hu | hu
      · exact .inl hu
      · obtain rfl := List.mem_singleton.1 hu; exact absurd rfl hne
  refine ⟨h2.ok, ?_, fun k => ?_, fun t ht => ?_, fun t ht => ?_, fun k => ?_, by rw [h2.at_.his]; exact h.his, by have := h2.at_.at_; rw [h.his] at this; exact this, ?_⟩
  · rw [hts]; simp only [setU, List.length_map, List.length_append, List.length_singleton]; have := h.len; omega
  · have e : (∃ t ∈ s'.txs, t.id = k) ↔ k ∈ s'.txs.map (·.id) := by rw [List.mem_map]
    rw [e, hts, setU_ids, List.map_append, List.mem_append, List.mem_map, h.has]
    simp only [List.map_cons, List.map_nil, List.mem_singleton]
    constructor
    · rintro (⟨h3, h4⟩ | rfl)
      · omega
      · rw [hn]; omega
    · rintro ⟨h3, h4⟩
      rcases Nat.lt_or_ge m k.toNat with h5 | h5
      · exact .inr (u32_of (by omega))
      · exact .inl ⟨h3, h5⟩
  · rcases hmem t ht with ht | rfl
    · exact h.own t ht
    · show _ = [(⟨kL ((UInt32.ofNat (m + 1)).toNat - 1), _, false⟩ : ChgM)]; rw [hn]; rfl
  · rcases hmem t ht with ht | rfl
    · exact h.wt t ht
    · show [] = if (UInt32.ofNat (m + 1)).toNat ≤ 0 then _ else _
      rw [hn, if_neg (by omega)]
  · rw [h2.lk, lockS, setS_get, h.lk, hn, if_neg (by omega : ¬ (1 ≤ m + 1 ∧ m + 1 ≤ m)), h.lk]
    by_cases e : k = UInt32.ofNat (m + 1)
    · subst e
      rw [if_pos rfl, hn, if_pos ⟨by omega, Nat.le_refl _⟩]
      rfl
    · rw [if_neg e]
      have : k.toNat ≠ m + 1 := fun e2 => e (u32_of e2)
      by_cases e3 : 1 ≤ k.toNat ∧ k.toNat ≤ m
      · rw [if_pos e3, if_pos (by omega)]
      · rw [if_neg e3, if_neg (by omega)]
  · rw [h2.at_.rows, show s.H = [] from List.length_eq_zero_iff.1 h.his]; rfl
theorem RgI.edge (h : RgI s m w c b) {n x y : UInt32} {x0 : TX} (he : (x, y) ∈ edgesA (setU s.txs n x0) n) : x ≠ n ∧ x.toNat ≤ w ∧ y = x + 1 := by
  unfold edgesA at he
  obtain ⟨t, ht, he⟩ := List.mem_flatMap.1 he
  split at he
  · cases he
  · rename_i hne
    obtain ⟨y', hy, e⟩ := List.mem_map.1 he
    cases e
    rcases setU_mem ht with ⟨u, hu, hui, rfl⟩ | ⟨hu, _⟩
    · exact absurd hui hne
    · have hw := (List.mem_filter.1 hy).1
      rw [h.wt t hu] at hw
      split at hw
      · rename_i hle
        exact ⟨hne, hle, List.mem_singleton.1 hw⟩
      · cases hw
theorem RgI.del (h : RgI s (m + 1) w c b) (hm : m < 22) {t : TxT} (ht : findU s.txs (UInt32.ofNat (m + 1)) = some t) : (delU s.txs (UInt32.ofNat (m + 1))).length ≤ m ∧ (∀ k : UInt32, (∃ t ∈ delU s.txs (UInt32.ofNat (m + 1)), t.id = k) ↔ 1 ≤ k.toNat ∧ k.toNat ≤ m) := by
  have hn : (UInt32.ofNat (m + 1)).toNat = m + 1 := nat_u32 (by omega)
  have hno := delU_no h.ok.st.ids (UInt32.ofNat (m + 1))
  obtain ⟨hid, A, B, h1, h2, h3⟩ := findU_mid ht
  have hl := h.len
  have hh := h.has
  rw [h2] at hno ⊢
  rw [h1] at hl hh
  refine ⟨by simp only [List.length_append, List.length_cons] at hl ⊢; omega, fun k => ?_⟩
  constructor
  · rintro ⟨u, hu, e⟩
    have h4 := (hh k).1 ⟨u, by simp only [List.mem_append, List.mem_cons] at hu ⊢; rcases hu with hu | hu <;> simp [hu], e⟩
    have h5 := hno u hu
    have : k.toNat ≠ m + 1 := fun e2 => h5 (e.trans (u32_of e2))
    omega
  · rintro ⟨h4, h5⟩
    obtain ⟨u, hu, e⟩ := (hh k).2 ⟨h4, by omega⟩
    refine ⟨u, ?_, e⟩
    simp only [List.mem_append, List.mem_cons] at hu ⊢
    rcases hu with hu | rfl | hu
    · exact .inl hu
    · rw [hid] at e; rw [← e, hn] at h5; omega
    · exact .inr hu
theorem RgI.waits (h : RgI s n w 0 b) {i : Nat} (hi : i = w + 1) (hlt : i < n) (hn : n ≤ 22) : ∃ s', doA s (UInt32.ofNat i) (opGet (kL i)) = .err s' 8 ∧ RgI s' n i 0 b := by
  obtain ⟨t, hf, hid, ht⟩ := h.find (i := i) (by omega) (by omega) (by omega)
  have hwy : wayL s.locks (UInt32.ofNat i) (spanOf (opGet (kL i))) (writes (opGet (kL i))) = [UInt32.ofNat (i + 1)] := by
    rw [span_get, w_get, h.way (by omega) (by omega) (by omega), if_pos ⟨by omega, by omega⟩]
  have hni : (UInt32.ofNat i).toNat = i := nat_u32 (by omega)
  have hnj : (UInt32.ofNat (i + 1)).toNat = i + 1 := nat_u32 (by omega)
  have hr : ringB (setU s.txs (UInt32.ofNat i) { t.x with waits := [] }) (UInt32.ofNat i) (wayL s.locks (UInt32.ofNat i) (spanOf (opGet (kL i))) (writes (opGet (kL i)))) = false := by
    rw [hwy]
    unfold ringB
    rw [decide_eq_false_iff_not]
    rintro ⟨x, hx, hr⟩
    obtain rfl := List.mem_singleton.1 hx
    have : ∀ y, Reach (fun a b => (a, b) ∈ edgesA (setU s.txs (UInt32.ofNat i) { t.x with waits := [] }) (UInt32.ofNat i)) (UInt32.ofNat (i + 1)) y → y = UInt32.ofNat (i + 1) := by
      intro y hy
      induction hy with
      | refl => rfl
      | tail _ h2 ih =>
        subst ih
        have := (h.edge h2).2.1
        rw [hnj] at this; omega
    have := this _ hr
    rw [← UInt32.toNat_inj, hni, hnj] at this; omega
  obtain ⟨s', e, h2⟩ := h.at.wait hf (x := opGet (kL i)) (by rw [get_ok]; exact kL_ok (by omega)) (in_one _) (by rw [hwy]; simp) hr
  rw [hwy] at h2
  refine ⟨s', e, ?_⟩
  have hts : s'.txs = _ := h2.at_.txs
  have hH : s'.H = s.H := h2.at_.his
  have h0 := h.own t ht
  have hmem : ∀ u ∈ s'.txs, (u.id = UInt32.ofNat i ∧ u.x.own = t.x.own ∧ u.x.waits = [UInt32.ofNat (i + 1)]) ∨ (u ∈ s.txs ∧ u.id ≠ UInt32.ofNat i) := fun u hu => by
    rw [hts] at hu
    rcases setU_mem hu with ⟨v, hv, hvi, rfl⟩ | h3
    · exact .inl ⟨hvi, rfl, rfl⟩
    · exact .inr h3
  refine ⟨h2.ok, by rw [hts]; simp only [setU, List.length_map]; exact h.len, fun k => ?_, fun u hu => ?_, fun u hu => ?_, fun k => by rw [h2.lk]; exact h.lk k, by rw [hH]; exact h.his, by have := h2.at_.at_; rw [h.his] at this; exact this, by rw [StV.rows, hH]; exact h.rows⟩
  · have e : (∃ t ∈ s'.txs, t.id = k) ↔ k ∈ s'.txs.map (·.id) := by rw [List.mem_map]
    rw [e, hts, setU_ids, List.mem_map]; exact h.has k
  · rcases hmem u hu with ⟨h3, h4, _⟩ | ⟨h3, _⟩
    · rw [h4, h0, hid, h3]
    · exact h.own u h3
  · rcases hmem u hu with ⟨h3, _, h4⟩ | ⟨h3, h4⟩
    · rw [h4, h3, hni, if_pos (Nat.le_refl _), u32_add1 (by omega)]
    · rw [h.wt u h3]
      have : u.id.toNat ≠ i := fun e => h4 (u32_of e)
      by_cases e : u.id.toNat ≤ w
      · rw [if_pos e, if_pos (by omega)]
      · rw [if_neg e, if_neg (by omega)]
open Classical in
theorem RgI.ring (h : RgI s (m + 1) m 0 b) (h1 : 1 ≤ m) (hm : m < 22) : ∃ s', doA s (UInt32.ofNat (m + 1)) (opGet (kL 0)) = .err s' 9 ∧ RgI s' m m 0 b := by
  obtain ⟨t, hf, hid, ht⟩ := h.find (i := m + 1) (by omega) (by omega) (by omega)
  have hwy : wayL s.locks (UInt32.ofNat (m + 1)) (spanOf (opGet (kL 0))) (writes (opGet (kL 0))) = [1] := by
    rw [span_get, w_get, h.way (by omega) (by omega) (by omega), if_pos ⟨by omega, by omega⟩]; rfl
  have hni : (UInt32.ofNat (m + 1)).toNat = m + 1 := nat_u32 (by omega)
  have hr : ringB (setU s.txs (UInt32.ofNat (m + 1)) { t.x with waits := [] }) (UInt32.ofNat (m + 1)) (wayL s.locks (UInt32.ofNat (m + 1)) (spanOf (opGet (kL 0))) (writes (opGet (kL 0)))) = true := by
    rw [hwy]
    unfold ringB
    rw [decide_eq_true_iff]
    refine ⟨1, List.mem_singleton.2 rfl, ?_⟩
    have hall : ∀ k, k ≤ m → Reach (fun a b => (a, b) ∈ edgesA (setU s.txs (UInt32.ofNat (m + 1)) { t.x with waits := [] }) (UInt32.ofNat (m + 1))) 1 (UInt32.ofNat (k + 1)) := by
      intro k
      induction k with
      | zero => intro _; exact .refl
      | succ k ih =>
        intro hk
        refine (ih (by omega)).tail ?_
        have hnk : (UInt32.ofNat (k + 1)).toNat = k + 1 := nat_u32 (by omega)
        obtain ⟨u, huf, hui, hu⟩ := h.find (i := k + 1) (by omega) (by omega) (by omega)
        obtain ⟨v, hvf, hvi, hv⟩ := h.find (i := k + 2) (by omega) (by omega) (by omega)
        have hne : u.id ≠ UInt32.ofNat (m + 1) := fun e => by rw [hui, ← UInt32.toNat_inj, hnk, hni] at e; omega
        unfold edgesA
        refine List.mem_flatMap.2 ⟨u, ?_, ?_⟩
        · refine findU_mem (n := UInt32.ofNat (k + 1)) ?_
          rw [setU_find, huf, Option.map_some, if_neg hne]
        · rw [if_neg hne, List.mem_map]
          refine ⟨UInt32.ofNat (k + 2), List.mem_filter.2 ⟨?_, ?_⟩, by rw [hui]⟩
          · rw [h.wt u hu, hui, hnk, if_pos (by omega), u32_add1 (by omega)]; exact List.mem_singleton.2 rfl
          · rw [setU_find, hvf]; rfl
    exact hall m (Nat.le_refl _)
  obtain ⟨s', e, h2⟩ := h.at.ring hf (x := opGet (kL 0)) (by rw [get_ok]; exact kL_ok (by omega)) (in_one _) (by rw [hwy]; decide) hr
  refine ⟨s', e, ?_⟩
  have hts : s'.txs = _ := h2.at_.txs
  rw [setU_del h.ok.st.ids hf] at hts
  have hH : s'.H = s.H := h2.at_.his
  obtain ⟨hd1, hd2⟩ := h.del hm hf
  refine ⟨h2.ok, by rw [hts]; exact hd1, by rw [hts]; exact hd2, fun u hu => h.own u (delU_sub.mem (hts ▸ hu)), fun u hu => h.wt u (delU_sub.mem (hts ▸ hu)), fun k => ?_, by rw [hH]; exact h.his, by have := h2.at_.at_; rw [h.his] at this; exact this, ?_⟩
  · rw [h2.lk, freeL_get h.ok.keys, h.lk]
    by_cases e : k = UInt32.ofNat (m + 1)
    · subst e; rw [if_pos rfl, hni, if_neg (by omega)]
    · rw [if_neg e]
      have : k.toNat ≠ m + 1 := fun e2 => e (u32_of e2)
      by_cases e3 : 1 ≤ k.toNat ∧ k.toNat ≤ m
      · rw [if_pos e3, if_pos (by omega)]
      · rw [if_neg e3, if_neg (by omega)]
  · rw [StV.rows, hH]; exact h.rows
theorem RgI.looks {k : Nat} (h : RgI s (k + 1) w c b) (hw : k + 1 ≤ w) (hm : k + 1 + c ≤ 22) (hb : b ≤ 100) : ∃ s', doA s (UInt32.ofNat (k + 1)) (opGet (kL (k + 1))) = .look s' (if c = 0 then [] else [⟨kL (k + 1), UInt32.ofNat (k + 2)⟩]) ∧ AlphaOk s' (b + 1) ∧ comE alphaI s' (UInt32.ofNat (k + 1)) = 0 ∧ RgI (comS alphaI s' (UInt32.ofNat (k + 1))) k w (c + 1) (b + 2) := by
  obtain ⟨t, hf, hid, ht⟩ := h.find (i := k + 1) (by omega) (by omega) (by omega)
  have hni : (UInt32.ofNat (k + 1)).toNat = k + 1 := nat_u32 (by omega)
  have hwy : wayL s.locks (UInt32.ofNat (k + 1)) (spanOf (opGet (kL (k + 1)))) false = [] := by
    rw [span_get, h.way (by omega) (by omega) (by omega), if_neg (by omega)]
  have hown : t.x.own = [⟨kL k, UInt32.ofNat (k + 1), false⟩] := by rw [h.own t ht, hid, hni]; rfl
  have hrw : rowsN s.H s.H.length = rgRows (k + 1) c := h.rows
  have hch : changeR (rowsN s.H s.H.length) t.x.own = rgRows k (c + 1) := by
    rw [hown, hrw, ← rgRows_set (by omega)]; rfl
  obtain ⟨s', e, h2⟩ := h.at.get hf (x := opGet (kL (k + 1))) (by rw [get_ok]; exact kL_ok (by omega)) (in_one _) rfl hwy (by omega)
  have hsc : scanR (rgRows k (c + 1)) (one (kL (k + 1))) 256 = if c = 0 then [] else [⟨kL (k + 1), UInt32.ofNat (k + 2)⟩] := by
    rw [← rgRows_scan (m := k + 1) (c := c) (by omega), rgRows_cons]
    unfold scanR
    rw [List.filter_cons]
    simp only [kL_in (show k + 1 < 26 by omega) (show k < 26 by omega)]
    rw [if_neg (by simp)]
  rw [hch, span_get, hsc] at e
  have hf2 : findU (setU s.txs (UInt32.ofNat (k + 1)) { t.x with waits := [] }) (UInt32.ofNat (k + 1)) = some { t with x := { t.x with waits := [] } } := by
    rw [setU_find, hf, Option.map_some, if_pos hid]
  obtain ⟨e2, _, h3⟩ := h2.comA hf2 (by simp [hown]) (by rw [h.his]; omega) (by omega)
  refine ⟨s', e, h2.ok, e2, ?_⟩
  have hts := h3.at_.txs
  rw [setU_del h.ok.st.ids hf] at hts
  obtain ⟨hd1, hd2⟩ := h.del (by omega) hf
  refine ⟨h3.ok, by rw [hts]; exact hd1, by rw [hts]; exact hd2, fun u hu => h.own u (delU_sub.mem (hts ▸ hu)), fun u hu => h.wt u (delU_sub.mem (hts ▸ hu)), fun j => ?_, by rw [h3.at_.his, List.length_append, h.his]; rfl, by have := h3.at_.at_; rw [List.length_append, h.his] at this; exact this, ?_⟩
  · have hk2 : ((lockS s.locks (UInt32.ofNat (k + 1)) (spanOf (opGet (kL (k + 1)))) false).map (·.1)).Nodup := setS_nodup h.ok.keys _ _
    rw [h3.lk, freeL_get hk2, lockS, setS_get, h.lk]
    by_cases e : j = UInt32.ofNat (k + 1)
    · subst e; rw [if_pos rfl, hni, if_neg (by omega)]
    · rw [if_neg e, if_neg e, h.lk]
      have : j.toNat ≠ k + 1 := fun e2 => e (u32_of e2)
      by_cases e3 : 1 ≤ j.toNat ∧ j.toNat ≤ k
      · rw [if_pos e3, if_pos (by omega)]
      · rw [if_neg e3, if_neg (by omega)]
  · rw [h3.at_.rows, List.length_append, List.length_singleton, rowsN_new]; exact hch
theorem RgI.none (h : RgI s 0 w c b) : s.txs = [] := List.length_eq_zero_iff.1 (Nat.le_zero.1 h.len)
end
end Go.SL
/- The steps of the walk: interfaces. -/
set_option linter.unusedSimpArgs false
set_option linter.unusedVariables false
set_option linter.unusedSectionVars false
namespace Go.SL
open Go
section
variable {P : Program} {r : Option Nat} {g : World} {Γ : Env} {L M : List HP} {dst : Option Tmp} {t : TypeId} {pos : String} {aft : Array Edge} {gd : Option (Nat × Bool)}
/-- A part of a text. -/
theorem e_slice_str {T : TypeId} {x i j : Operand} {k k' : IntKind} {s : ByteArray} {lo hi : Nat} (hT : P.underlying T = some .string) (h1 : lo ≤ hi) (h2 : hi ≤ s.size) (hx : ev Γ x = some (.string s) := by rfl) (hi' : ev Γ i = some (.int k lo) := by rfl) (hj : ev Γ j = some (.int k' hi) := by rfl) : EO P g ⟨dst, .slice T x (some i) (some j) none, t, pos, aft, gd⟩ Γ L (.string (s.extract lo hi)) :=
  .of (by simp) fun ρ hρ w _ => by
    have e1 := hρ x _ (by simp [Op.operands]) hx
    have e2 := hρ i _ (by simp [Op.operands]) hi'
    have e3 := hρ j _ (by simp [Op.operands]) hj
    show ((do pure (Next.value (← Instr.sliceAt T (ρ x) (some (ρ i)) (some (ρ j)) none)) : Sem Next)).run P w = _
    rw [e1, e2, e3]
    have e4 : (Instr.sliceAt T (.string s) (some (.int k lo)) (some (.int k' hi)) none).run P w = .ok (.string (s.extract lo hi)) w := by
      unfold Instr.sliceAt
      simp only [Sem.run_bind, run_underlying hT, Result.andThen_ok]
      rw [run_slice_string_if w T s k k' lo hi hT, if_pos ⟨by omega, by omega⟩, if_pos ⟨by omega, by omega⟩]
      simp
    rw [Sem.run_bind, e4]; rfl
end
end Go.SL
set_option linter.unusedSimpArgs false
set_option linter.unusedVariables false
namespace Go.SL.UG
open Go Go.Proofs Go.SL
theorem a22 : aggOf Tryz.prog 22 = some none := by kernel_rfl
theorem a29 : aggOf Tryz.prog 29 = some none := by kernel_rfl
theorem f31_0 : fldOf Tryz.prog 31 0 = some 0 := by kernel_rfl
theorem f40_1 : fldOf Tryz.prog 40 1 = some 1 := by kernel_rfl
theorem k22 : callable Tryz.prog 22 = true := by kernel_rfl
theorem k23 : callable Tryz.prog 23 = true := by kernel_rfl
theorem k24 : callable Tryz.prog 24 = true := by kernel_rfl
theorem k25 : callable Tryz.prog 25 = true := by kernel_rfl
theorem k26 : callable Tryz.prog 26 = true := by kernel_rfl
theorem k27 : callable Tryz.prog 27 = true := by kernel_rfl
theorem k29 : callable Tryz.prog 29 = true := by kernel_rfl
theorem k37 : callable Tryz.prog 37 = true := by kernel_rfl
theorem k38 : callable Tryz.prog 38 = true := by kernel_rfl
theorem k39 : callable Tryz.prog 39 = true := by kernel_rfl
theorem mixedOk : Tryz.prog.follows .mixedOrders = true := by kernel_rfl
theorem pt48 : isPtr Tryz.prog 48 = true := by kernel_rfl
theorem s31 : szOf Tryz.prog 31 = some 1 := by kernel_rfl
theorem sl29 : slOf Tryz.prog 29 = some (40, 2, 24) := by kernel_rfl
theorem sl82 : slOf Tryz.prog 82 = some (22, 1, 4) := by kernel_rfl
theorem z31 : zeroOf Tryz.prog 31 = some [.slice none 0 0] := by kernel_rfl
end Go.SL.UG
namespace Go.SL
open Go Go.Proofs UG
theorem ringKey_spec {g : World} {i N : Nat} (hi : 1 ≤ i) (hi2 : i ≤ 40) (hN : 1 ≤ N) (hN2 : N ≤ 26) : Spec Tryz.prog g 38 [.int .u32 (UInt32.ofNat (i)).toNat, .int .u32 (UInt32.ofNat (N)).toNat] [] fun K R => K (.string (kL ((i - 1) % N))) R := by
  refine Spec.intro Tryz.func38 rfl Tryz.ntmps38 rfl fun R K hK => ?_
  refine WP.seq ?_
  refine WP.reg ?_
  refine WL.e e_assign ?_
  refine WL.next ?_
  refine WP.seq ?_
  refine WP.draws mixedOk 11 ?_
  refine RW.e 0 rfl e_move <| RW.e 1 rfl (e_sub (c := ((i - 1 : Nat) : Int)) rfl rfl (by rw [nat_u32 (m := i) (by omega), w_u32 (by omega) (by omega)]; omega)) <| RW.e 2 rfl e_move <| RW.e 3 rfl (e_rem (c := (((i - 1) % N : Nat) : Int)) rfl rfl (by rw [nat_u32 (m := N) (by omega)]; omega) (by rw [nat_u32 (m := N) (by omega), Int.tmod_eq_emod_of_nonneg (by omega)]; omega)) <| RW.e 4 rfl e_move <| RW.e 5 rfl (e_sub (c := ((i - 1 : Nat) : Int)) rfl rfl (by rw [nat_u32 (m := i) (by omega), w_u32 (by omega) (by omega)]; omega)) <| RW.e 6 rfl e_move <| RW.e 7 rfl (e_rem (c := (((i - 1) % N : Nat) : Int)) rfl rfl (by rw [nat_u32 (m := N) (by omega)]; omega) (by rw [nat_u32 (m := N) (by omega), Int.tmod_eq_emod_of_nonneg (by omega)]; omega)) <| RW.e 8 rfl (e_add (c := (((i - 1) % N + 1 : Nat) : Int)) rfl rfl (by have := Nat.mod_lt (i - 1) (show 0 < N by omega); rw [w_u32 (by omega) (by omega)]; omega)) <| RW.e 9 rfl (e_slice_str (s := letters) (lo := (i - 1) % N) (hi := (i - 1) % N + 1) Tryz.underlying9 (Nat.le_succ _) (by have := Nat.mod_lt (i - 1) (show 0 < N by omega); show _ ≤ 26; omega)) <| RW.e 10 rfl e_assign ?_
  refine RW.done ?_
  refine PO.next ?_
  refine WP.ret ?_
  exact PO.finE Tryz.results38 (rv_tmp rv_nil) (congrArg Value.string (letter_cut (by have := Nat.mod_lt (i - 1) (show 0 < N by omega); omega))) hK
set_option maxHeartbeats 4000000 in
theorem Ring_spec {g : World} (many : UInt8) : Spec Tryz.prog g 10 [.int .u8 many.toNat] [] fun K R => K (.bool true) R := by
  refine Spec.intro Tryz.func10 rfl Tryz.ntmps10 rfl fun R K hK => ?_
  refine WP.seq ?_
  refine WP.reg ?_
  refine WL.e e_assign ?_
  refine WL.next ?_
  refine WP.seq ?_
  refine WP.reg ?_
  refine WL.e e_move <| WL.e (e_conv (by rw [Tryz.underlying5]; rfl) Tryz.underlying22 rfl rfl) <| WL.e (e_rem (c := ((many.toNat % 20 : Nat) : Int)) rfl rfl (by decide) (by rw [w_u32 (by omega) (by have := many.toNat_lt; omega), Int.tmod_eq_emod_of_nonneg (by omega)]; omega)) <| WL.e (e_add (c := ((UInt32.ofNat (2 + many.toNat % 20)).toNat : Int)) rfl rfl (by rw [w_u32 (by omega) (by omega), nat_u32 (by omega)]; omega)) <| WL.e e_assign ?_
  refine WL.next ?_
  refine WP.seq ?_
  refine WP.reg ?_
  refine WL.h (h_call (opened_spec) k22 ?_)
  intro dp p
  obtain ⟨N, hN, hN1, hN2⟩ : ∃ N, N = 2 + many.toNat % 20 ∧ 2 ≤ N ∧ N ≤ 21 := ⟨_, rfl, by omega, by omega⟩
  rw [← hN]
  refine WL.e e_move <| WL.e e_extract <| WL.e e_extract <| WL.e e_assign <| WL.e e_assign ?_
  refine WL.next ?_
  refine WP.seq ?_
  refine WP.seq ?_
  refine WP.reg ?_
  refine WL.e e_move <| WL.e (e_peq pt48) ?_
  refine WL.next ?_
  refine WP.cond_f rfl ?_
  refine WP.skip ?_
  refine PO.next ?_
  refine WP.seq ?_
  refine WP.seq ?_
  refine WP.reg ?_
  refine WL.e e_assign ?_
  refine WL.next ?_
  refine WP.block ?_
  refine WP.loopK (fun (x : Nat × StV) => [(6, .int .u32 (UInt32.ofNat (x.1 + 1)).toNat)]) (fun (x : Nat × StV) => As p dp x.2 :: TxsU TPA x.2.txs :: R) [(3, _), (5, _)] (fun (x : Nat × StV) => x.1 ≤ N ∧ RgI x.2 x.1 0 0 x.1) (fun (x : Nat × StV) => N - x.1) (0, stF) (⟨Nat.zero_le _, RgI.first⟩) ?_
  rintro ⟨i, s⟩ ⟨hi, hI⟩
  simp only at hi hI
  dsimp only
  refine WP.seq ?_
  refine WP.seq ?_
  refine WP.reg ?_
  refine WL.e e_move <| WL.e e_move <| WL.e e_leq ?_
  refine WL.next ?_
  refine WP.cond rfl (fun h1 => ?_) (fun h1 => ?_)
  · have hlt : i < N := by have e1 := nat_u32 (m := i + 1) (by omega); have e2 := nat_u32 (m := N) (by omega); rw [decide_eq_true_eq, e1, e2] at h1; omega
    refine WP.skip ?_
    refine PO.next ?_
    refine WP.seq ?_
    refine WP.block ?_
    refine WP.seq ?_
    refine WP.seq ?_
    refine WP.reg ?_
    refine WL.e e_move <| WL.e e_move ?_
    refine WL.h (h_call (ABegin_spec (s := s) (UInt32.ofNat (i + 1))) k23 ?_)
    intro q
    obtain ⟨e0, ok1, s2, e1, h2⟩ := hI.begs (by omega) (by omega) q
    rw [e0]
    refine WL.e e_neq ?_
    refine WL.next ?_
    refine WP.cond_f rfl ?_
    refine WP.skip ?_
    refine PO.next ?_
    refine WP.seq ?_
    refine WP.reg ?_
    refine WL.e e_move <| WL.e e_move <| WL.e e_move <| WL.e e_move ?_
    refine WL.h (h_call (ringKey_spec (i := i + 1) (N := N) (by omega) (by omega) (by omega) (by omega)) k38 ?_)
    rw [show kL ((i + 1 - 1) % N) = kL i by rw [Nat.add_sub_cancel, Nat.mod_eq_of_lt hlt]]
    refine WL.e e_move ?_
    refine WL.h (h_call (lput_spec (kL i) (UInt32.ofNat (i + 1))) k25 ?_)
    refine WL.h (h_call (ADo_spec (s := begS s (UInt32.ofNat (i + 1)) q) (UInt32.ofNat (i + 1)) (opPut (kL i) (UInt32.ofNat (i + 1))) ok1) k24 ?_)
    rw [e1]
    refine WL.e e_move <| WL.e e_extract <| WL.e e_extract ?_
    refine WL.h (h_alloc z31 fun b1 => ?_)
    refine WL.h' (h_store s31 ?_)
    refine WL.e e_assign ?_
    refine WL.next ?_
    refine WP.seq ?_
    refine WP.reg ?_
    refine WL.e e_move <| WL.e e_neq ?_
    refine WL.next ?_
    refine WP.cond_f rfl ?_
    refine WP.skip ?_
    refine PO.blockN ?_
    refine PO.next ?_
    refine WP.reg ?_
    refine WL.e e_move <| WL.e (e_add (c := ((UInt32.ofNat (i + 1 + 1)).toNat : Int)) rfl rfl (by rw [nat_u32 (m := i + 1) (by omega), w_u32 (by omega) (by omega), nat_u32 (by omega)]; omega)) <| WL.e e_assign ?_
    refine WL.nil ?_
    exact PO.againK (i + 1, s2) ⟨by simp only; omega, h2⟩ (by simp only; omega)
  · have hge : ¬ i < N := by have e1 := nat_u32 (m := i + 1) (by omega); have e2 := nat_u32 (m := N) (by omega); rw [decide_eq_false_iff_not, e1, e2] at h1; omega
    refine WP.exit ?_
    refine PO.past nofun ?_
    refine PO.round nofun ?_
    refine PO.blockX ?_
    refine PO.next ?_
    refine WP.seq ?_
    refine WP.seq ?_
    refine WP.reg ?_
    refine WL.e e_assign ?_
    refine WL.next ?_
    refine WP.block ?_
    obtain rfl : i = N := by omega
    refine WP.loopK (fun (x : Nat × StV) => [(9, .int .u32 (UInt32.ofNat (x.1 + 1)).toNat)]) (fun (x : Nat × StV) => As p dp x.2 :: TxsU TPA x.2.txs :: R) [(3, _), (5, _)] (fun (x : Nat × StV) => x.1 ≤ i ∧ ((x.1 < i ∧ RgI x.2 i x.1 0 i) ∨ (x.1 = i ∧ RgI x.2 (i - 1) (i - 1) 0 i))) (fun (x : Nat × StV) => i - x.1) (0, s) (⟨Nat.zero_le _, .inl ⟨by simp only; omega, hI⟩⟩) ?_
    rintro ⟨k, s1⟩ ⟨hk, hJ⟩
    simp only at hk hJ
    dsimp only
    refine WP.seq ?_
    refine WP.seq ?_
    refine WP.reg ?_
    refine WL.e e_move <| WL.e e_move <| WL.e e_leq ?_
    refine WL.next ?_
    refine WP.cond rfl (fun h1 => ?_) (fun h1 => ?_)
    · have hlt : k < i := by have e1 := nat_u32 (m := k + 1) (by omega); have e2 := nat_u32 (m := i) (by omega); rw [decide_eq_true_eq, e1, e2] at h1; omega
      refine WP.skip ?_
      refine PO.next ?_
      refine WP.seq ?_
      refine WP.block ?_
      refine WP.seq ?_
      refine WP.reg ?_
      refine WL.e e_move <| WL.e e_move <| WL.e e_move <| WL.e (e_add (c := ((UInt32.ofNat (k + 1 + 1)).toNat : Int)) rfl rfl (by rw [nat_u32 (m := k + 1) (by omega), w_u32 (by omega) (by omega), nat_u32 (by omega)]; omega)) <| WL.e e_move ?_
      refine WL.h (h_call (ringKey_spec (i := k + 1 + 1) (N := i) (by omega) (by omega) (by omega) (by omega)) k38 ?_)
      replace hJ : RgI s1 i k 0 i := by rcases hJ with h | h; exact h.2; omega
      rw [show k + 1 + 1 - 1 = k + 1 from rfl]
      refine WL.h (h_call (lget_spec (kL ((k + 1) % i))) k27 ?_)
      refine WL.h (h_call (ADo_spec (s := s1) (UInt32.ofNat (k + 1)) (opGet (kL ((k + 1) % i))) hJ.ok) k24 ?_)
      rcases Nat.lt_or_ge (k + 1) i with hc | hc
      · obtain ⟨s2, e1, h2⟩ := hJ.waits (i := k + 1) rfl hc (by omega)
        rw [Nat.mod_eq_of_lt hc]
        rw [e1]
        refine WL.e e_move <| WL.e e_extract <| WL.e e_extract ?_
        refine WL.h (h_alloc z31 fun b2 => ?_)
        refine WL.h' (h_store s31 ?_)
        refine WL.e e_assign ?_
        refine WL.next ?_
        refine WP.seq ?_
        refine WP.reg ?_
        refine WL.e e_move <| WL.e e_move <| WL.e (e_lss32) <| WL.e e_move ?_
        refine WL.bool 67 rfl (fun g1 => ?_) (fun g1 => ?_)
        · skip
          refine WL.e e_move <| WL.e e_neq <| WL.e e_pick_t <| WL.e e_move ?_
          refine WL.bool 71 rfl (fun g2 => ?_) (fun g2 => ?_)
          · exact absurd g2 (by decide) -- end
          · skip
            refine WL.e e_move <| WL.e e_move <| WL.e (e_eql32) <| WL.e e_move ?_
            refine WL.bool 75 rfl (fun g3 => ?_) (fun g3 => ?_)
            · exact absurd g3 (by rw [u32_bne (by omega) (by omega) (by omega)]; decide) -- end
            · skip
              refine WL.skip <| WL.skip <| WL.e e_pick_f <| WL.e e_pick_f ?_
              refine WL.next ?_
              refine WP.cond_f rfl ?_
              refine WP.skip ?_
              refine PO.blockN ?_
              refine PO.next ?_
              refine WP.reg ?_
              refine WL.e e_move <| WL.e (e_add (c := ((UInt32.ofNat (k + 1 + 1)).toNat : Int)) rfl rfl (by rw [nat_u32 (m := k + 1) (by omega), w_u32 (by omega) (by omega), nat_u32 (by omega)]; omega)) <| WL.e e_assign ?_
              refine WL.nil ?_
              exact PO.againK (k + 1, s2) ⟨by simp only; omega, .inl ⟨hc, h2⟩⟩ (by simp only; omega)
        · exact absurd g1 (by rw [decide_eq_true (u32_lt hc (by omega))]; decide) -- end
      · replace hc : k + 1 = i := by omega
        subst hc
        rw [Nat.mod_self]
        obtain ⟨s2, e1, h2⟩ := hJ.ring (by omega) (by omega)
        rw [e1]
        refine WL.e e_move <| WL.e e_extract <| WL.e e_extract ?_
        refine WL.h (h_alloc z31 fun b3 => ?_)
        refine WL.h' (h_store s31 ?_)
        refine WL.e e_assign ?_
        refine WL.next ?_
        refine WP.seq ?_
        refine WP.reg ?_
        refine WL.e e_move <| WL.e e_move <| WL.e (e_lss32) <| WL.e e_move ?_
        refine WL.bool 67 rfl (fun g1 => ?_) (fun g1 => ?_)
        · exact absurd g1 (by simp) -- end
        · skip
          refine WL.skip <| WL.skip <| WL.e e_pick_f <| WL.e e_move <| WL.e e_move <| WL.e e_move <| WL.e (e_eql32) <| WL.e e_move ?_
          refine WL.bool 75 rfl (fun g3 => ?_) (fun g3 => ?_)
          · skip
            refine WL.e e_move <| WL.e e_neq <| WL.e e_pick_t <| WL.e e_pick_f ?_
            refine WL.next ?_
            refine WP.cond_f rfl ?_
            refine WP.skip ?_
            refine PO.blockN ?_
            refine PO.next ?_
            refine WP.reg ?_
            refine WL.e e_move <| WL.e (e_add (c := ((UInt32.ofNat (k + 1 + 1)).toNat : Int)) rfl rfl (by rw [nat_u32 (m := k + 1) (by omega), w_u32 (by omega) (by omega), nat_u32 (by omega)]; omega)) <| WL.e e_assign ?_
            refine WL.nil ?_
            exact PO.againK (k + 1, s2) ⟨by simp only; omega, .inr ⟨rfl, h2⟩⟩ (by simp only; omega)
          · exact absurd g3 (by simp) -- end
    · have hge : ¬ k < i := by have e1 := nat_u32 (m := k + 1) (by omega); have e2 := nat_u32 (m := i) (by omega); rw [decide_eq_false_iff_not, e1, e2] at h1; omega
      refine WP.exit ?_
      refine PO.past nofun ?_
      refine PO.round nofun ?_
      refine PO.blockX ?_
      refine PO.next ?_
      refine WP.seq ?_
      refine WP.seq ?_
      refine WP.reg ?_
      refine WL.e e_move <| WL.e (e_sub (c := ((UInt32.ofNat (i - 1)).toNat : Int)) rfl rfl (by rw [nat_u32 (m := i) (by omega), w_u32 (by omega) (by omega), nat_u32 (by omega)]; omega)) <| WL.e e_assign ?_
      refine WL.next ?_
      refine WP.block ?_
      obtain rfl : k = i := by omega
      replace hJ : RgI s1 (k - 1) (k - 1) 0 k := by rcases hJ with h | h; omega; exact h.2
      obtain ⟨N, rfl⟩ : ∃ N, k = N + 1 := ⟨k - 1, by omega⟩
      replace hJ : RgI s1 N N 0 (N + 1) := hJ
      refine WP.loopK (fun (x : Nat × StV) => [(12, .int .u32 (UInt32.ofNat (x.1)).toNat)]) (fun (x : Nat × StV) => As p dp x.2 :: TxsU TPA x.2.txs :: R) [(3, _), (5, _)] (fun (x : Nat × StV) => x.1 ≤ N ∧ RgI x.2 x.1 N (N - x.1) (N + 1 + 2 * (N - x.1))) (fun (x : Nat × StV) => x.1) (N, s1) (⟨Nat.le_refl _, by simpa using hJ⟩) ?_
      rintro ⟨j, s2⟩ ⟨hj, hG⟩
      simp only at hj hG
      dsimp only
      refine WP.seq ?_
      refine WP.seq ?_
      refine WP.reg ?_
      refine WL.e e_move <| WL.e e_geq ?_
      refine WL.next ?_
      refine WP.cond rfl (fun h1 => ?_) (fun h1 => ?_)
      · have hpos : 1 ≤ j := by have e1 := nat_u32 (m := j) (by omega); simp only [ge_iff_le, decide_eq_true_eq] at h1; omega
        obtain ⟨j, rfl⟩ : ∃ j2, j = j2 + 1 := ⟨j - 1, by omega⟩
        refine WP.skip ?_
        refine PO.next ?_
        refine WP.seq ?_
        refine WP.block ?_
        refine WP.seq ?_
        refine WP.reg ?_
        refine WL.e e_move <| WL.e e_move <| WL.e e_move <| WL.e (e_add (c := ((UInt32.ofNat (j + 1 + 1)).toNat : Int)) rfl rfl (by rw [nat_u32 (m := j + 1) (by omega), w_u32 (by omega) (by omega), nat_u32 (by omega)]; omega)) <| WL.e e_move ?_
        refine WL.h (h_call (ringKey_spec (i := j + 1 + 1) (N := N + 1) (by omega) (by omega) (by omega) (by omega)) k38 ?_)
        rw [show kL ((j + 1 + 1 - 1) % (N + 1)) = kL (j + 1) by rw [show j + 1 + 1 - 1 = j + 1 from rfl, Nat.mod_eq_of_lt (by omega)]]
        refine WL.h (h_call (lget_spec (kL (j + 1))) k27 ?_)
        refine WL.h (h_call (ADo_spec (s := s2) (UInt32.ofNat (j + 1)) (opGet (kL (j + 1))) hG.ok) k24 ?_)
        obtain ⟨s3, e1, ok3, e2, h3⟩ := hG.looks (by omega) (by omega) (by omega)
        rw [e1]
        intro a1 m1 c1
        rcases Nat.eq_zero_or_pos (N - (j + 1)) with hc | hc
        · rw [if_pos hc]
          refine WL.e e_move <| WL.e e_extract <| WL.e e_extract ?_
          refine WL.h (h_alloc z31 fun b4 => ?_)
          refine WL.h' (h_store s31 ?_)
          refine WL.e e_assign ?_
          refine WL.next ?_
          refine WP.seq ?_
          refine WP.reg ?_
          refine WL.e e_move <| WL.e e_move <| WL.e (e_sub (c := ((UInt32.ofNat (N + 1 - 1)).toNat : Int)) rfl rfl (by rw [nat_u32 (m := N + 1) (by omega), w_u32 (by omega) (by omega), nat_u32 (by omega)]; omega)) <| WL.e (e_lss32) <| WL.e e_assign ?_
          refine WL.next ?_
          refine WP.seq ?_
          refine WP.seq ?_
          refine WP.reg ?_
          refine WL.e e_move <| WL.e e_neq <| WL.e e_move ?_
          refine WL.bool 103 rfl (fun g1 => ?_) (fun g1 => ?_)
          · exact absurd g1 (by decide) -- end
          · skip
            refine WL.e (e_fa f31_0) <| WL.e (e_load a29) ?_
            refine WL.e (el_len (xs := ([] : List RowM)) sl29 sl_rl) <| WL.e e_eql <| WL.e e_move <| WL.e (e_neqB Tryz.underlying4) <| WL.e e_pick_f <| WL.e e_move ?_
            refine WL.bool 111 rfl (fun g2 => ?_) (fun g2 => ?_)
            · exact absurd g2 (by rw [decide_eq_false (u32_nlt (a := j + 1) (b := N + 1 - 1) (by omega) (by omega))]; decide) -- end
            · skip
              refine WL.e e_move <| WL.e e_move ?_
              refine WL.bool 113 rfl (fun g3 => ?_) (fun g3 => ?_)
              · exact absurd g3 (by rw [decide_eq_false (u32_nlt (a := j + 1) (b := N + 1 - 1) (by omega) (by omega))]; decide) -- end
              · skip
                refine WL.skip <| WL.skip <| WL.skip <| WL.skip <| WL.skip <| WL.skip <| WL.skip <| WL.skip <| WL.e e_pick_f <| WL.e e_pick_f ?_
                refine WL.next ?_
                refine WP.cond_f rfl ?_
                refine WP.skip ?_
                refine PO.next ?_
                refine WP.seq ?_
                refine WP.reg ?_
                refine WL.e e_move <| WL.e e_move ?_
                refine WL.h (h_call (ACommit_spec (s := s3) (UInt32.ofNat (j + 1)) ok3 (by omega)) k26 ?_)
                rw [e2]
                refine WL.e e_move <| WL.e e_extract <| WL.e e_extract <| WL.e e_assign ?_
                refine WL.next ?_
                refine WP.seq ?_
                refine WP.reg ?_
                refine WL.e e_move <| WL.e e_neq ?_
                refine WL.next ?_
                refine WP.cond_f rfl ?_
                refine WP.skip ?_
                refine PO.blockN ?_
                refine PO.next ?_
                refine WP.reg ?_
                refine WL.e e_move <| WL.e (e_sub (c := ((UInt32.ofNat (j + 1 - 1)).toNat : Int)) rfl rfl (by rw [nat_u32 (m := j + 1) (by omega), w_u32 (by omega) (by omega), nat_u32 (by omega)]; omega)) <| WL.e e_assign ?_
                refine WL.nil ?_
                exact PO.againK (j, comS alphaI s3 (UInt32.ofNat (j + 1))) ⟨by simp only; omega, by have h4 := h3; rw [show N - (j + 1) + 1 = N - j by omega, show N + 1 + 2 * (N - (j + 1)) + 2 = N + 1 + 2 * (N - j) by omega] at h4; exact h4⟩ (by simp only; omega)
        · rw [if_neg (by omega)]
          refine WL.e e_move <| WL.e e_extract <| WL.e e_extract ?_
          refine WL.h (h_alloc z31 fun b5 => ?_)
          refine WL.h' (h_store s31 ?_)
          refine WL.e e_assign ?_
          refine WL.next ?_
          refine WP.seq ?_
          refine WP.reg ?_
          refine WL.e e_move <| WL.e e_move <| WL.e (e_sub (c := ((UInt32.ofNat (N + 1 - 1)).toNat : Int)) rfl rfl (by rw [nat_u32 (m := N + 1) (by omega), w_u32 (by omega) (by omega), nat_u32 (by omega)]; omega)) <| WL.e (e_lss32) <| WL.e e_assign ?_
          refine WL.next ?_
          refine WP.seq ?_
          refine WP.seq ?_
          refine WP.reg ?_
          refine WL.e e_move <| WL.e e_neq <| WL.e e_move ?_
          refine WL.bool 103 rfl (fun g1 => ?_) (fun g1 => ?_)
          · exact absurd g1 (by decide) -- end
          · skip
            refine WL.e (e_fa f31_0) <| WL.e (e_load a29) ?_
            refine WL.e (el_len (xs := [(⟨kL (j + 1), UInt32.ofNat (j + 2)⟩ : RowM)]) sl29 sl_rl) <| WL.e e_eql <| WL.e e_move <| WL.e (e_neqB Tryz.underlying4) <| WL.e e_pick_f <| WL.e e_move ?_
            refine WL.bool 111 rfl (fun g2 => ?_) (fun g2 => ?_)
            · exact absurd g2 (by rw [decide_eq_true (u32_lt (a := j + 1) (b := N + 1 - 1) (by omega) (by omega))]; simp) -- end
            · skip
              refine WL.e e_move <| WL.e e_move ?_
              refine WL.bool 113 rfl (fun g3 => ?_) (fun g3 => ?_)
              · skip
                refine WL.e (e_fa f31_0) <| WL.e (e_load a29) ?_
                refine WL.e (el_ia (j := 0) (xs := [(⟨kL (j + 1), UInt32.ofNat (j + 2)⟩ : RowM)]) sl29 sl_rl (by simp)) ?_
                refine WL.e (el_fa (z := 2) (j := 0) (xs := [(⟨kL (j + 1), UInt32.ofNat (j + 2)⟩ : RowM)]) f40_1 sl_rl (by simp)) ?_
                refine WL.e (el_load (j := 0) (f := 1) (a := (⟨kL (j + 1), UInt32.ofNat (j + 2)⟩ : RowM)) a22 rowE (sl_rl (xs := [(⟨kL (j + 1), UInt32.ofNat (j + 2)⟩ : RowM)])) rfl) <| WL.e e_move <| WL.e (e_add (c := ((UInt32.ofNat (j + 1 + 1)).toNat : Int)) rfl rfl (by rw [nat_u32 (m := j + 1) (by omega), w_u32 (by omega) (by omega), nat_u32 (by omega)]; omega)) <| WL.e (e_neq32) <| WL.e e_pick_t <| WL.e e_pick_f ?_
                refine WL.next ?_
                refine WP.cond rfl (fun g4 => ?_) (fun g4 => ?_)
                · exact absurd g4 (by show ¬ ((UInt32.ofNat (j + 2) != UInt32.ofNat (j + 2)) = true); rw [bne_self_eq_false]; decide)
                · skip
                  refine WP.skip ?_
                  refine PO.next ?_
                  refine WP.seq ?_
                  refine WP.reg ?_
                  refine WL.e e_move <| WL.e e_move ?_
                  refine WL.h (h_call (ACommit_spec (s := s3) (UInt32.ofNat (j + 1)) ok3 (by omega)) k26 ?_)
                  rw [e2]
                  refine WL.e e_move <| WL.e e_extract <| WL.e e_extract <| WL.e e_assign ?_
                  refine WL.next ?_
                  refine WP.seq ?_
                  refine WP.reg ?_
                  refine WL.e e_move <| WL.e e_neq ?_
                  refine WL.next ?_
                  refine WP.cond_f rfl ?_
                  refine WP.skip ?_
                  refine PO.blockN ?_
                  refine PO.next ?_
                  refine WP.reg ?_
                  refine WL.e e_move <| WL.e (e_sub (c := ((UInt32.ofNat (j + 1 - 1)).toNat : Int)) rfl rfl (by rw [nat_u32 (m := j + 1) (by omega), w_u32 (by omega) (by omega), nat_u32 (by omega)]; omega)) <| WL.e e_assign ?_
                  refine WL.nil ?_
                  exact PO.againK (j, comS alphaI s3 (UInt32.ofNat (j + 1))) ⟨by simp only; omega, by have h4 := h3; rw [show N - (j + 1) + 1 = N - j by omega, show N + 1 + 2 * (N - (j + 1)) + 2 = N + 1 + 2 * (N - j) by omega] at h4; exact h4⟩ (by simp only; omega)
              · exact absurd g3 (by rw [decide_eq_true (u32_lt (a := j + 1) (b := N + 1 - 1) (by omega) (by omega))]; decide) -- end
      · obtain rfl : j = 0 := by have e1 := nat_u32 (m := j) (by omega); simp only [ge_iff_le, decide_eq_false_iff_not] at h1; omega
        refine WP.exit ?_
        refine PO.past nofun ?_
        refine PO.round nofun ?_
        refine PO.blockX ?_
        refine PO.next ?_
        refine WP.seq ?_
        refine WP.reg ?_
        refine WL.e e_move ?_
        refine WL.h (h_call (ARows_spec (s := s2) hG.ok) k37 ?_)
        intro a9 m9 c9
        have hrw : s2.rows = rgRows 0 N := by have := hG.rows; simpa using this
        rw [hrw]
        refine WL.e (el_len (xs := rgRows 0 N) sl29 sl_rl) <| WL.e e_move <| WL.e (e_conv (c := ((N + 1 : Nat) : Int)) (by rw [Tryz.underlying22]; rfl) Tryz.underlying3 rfl (by rw [nat_u32 (by omega), w_i64 (by omega) (by omega)])) <| WL.e (e_sub (c := ((N : Nat) : Int)) rfl rfl (by rw [w_i64 (by omega) (by omega)]; omega)) <| WL.e e_eql <| WL.e e_move ?_
        refine WL.bool 139 rfl (fun y1 => ?_) (fun y1 => ?_)
        · skip
          refine WL.e e_move ?_
          refine WL.h (h_call (AOpen_spec (s := s2) (by rw [hG.none]; exact Nat.zero_le _)) k39 ?_)
          intro a6 n6 c6 zs z1 z2
          obtain rfl : zs = [] := by rw [hG.none] at z1; exact List.perm_nil.1 z1
          refine WL.e (el_len (xs := ([] : List UInt32)) sl82 sl_rl) <| WL.e e_eql <| WL.e e_pick_t <| WL.e e_move ?_
          refine WL.bool 145 rfl (fun y2 => ?_) (fun y2 => ?_)
          · skip
            refine WL.h (h_call (lives_spec) k29 ?_)
            refine WL.e e_pick_t <| WL.e e_assign ?_
            refine WL.next ?_
            refine WP.ret ?_
            exact PO.finE Tryz.results10 (rv_tmp rv_nil) rfl hK
          · exact absurd y2 (by decide) -- end
        · exact absurd y1 (by rw [rgRows_len]; simp) -- end
end Go.SL
/- From the row to the walk: a slice of structs that came in is read as a list. -/
set_option linter.unusedSimpArgs false
set_option linter.unusedVariables false
set_option linter.unusedSectionVars false
namespace Go.SL
open Go Go.ChangeShapes Go.Deep
end Go.SL
