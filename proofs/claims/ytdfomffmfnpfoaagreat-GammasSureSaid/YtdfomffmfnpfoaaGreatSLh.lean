/- The steps of the walk: a map is gone through. -/
import Derived.Test.YtdfomffmfnpfoaaGreatSLg
set_option linter.unusedSimpArgs false
set_option linter.unusedVariables false
set_option linter.unusedSectionVars false
namespace Go.SL
open Go

/-- A map that is gone through: 'left' is to come yet, 'cur' has come last. -/
def MpIt {κ : Type} (ek : κ → Value) (m it : Value) (kvs left : List (κ × Value)) (cur : Option (κ × Value)) : HP := fun S =>
  ∃ b i es clock seen, m = .map (some b) ∧ it = .pointer (some ⟨i, 0, none⟩) ∧ b ≠ i ∧ S b = some (.map (List.toArray es) clock) ∧ S i = some (.mapIter (some b) clock seen clock) ∧
    ents ek es kvs ∧ (es.map (·.born)).Pairwise (· < ·) ∧ (∀ e ∈ es, e.born < clock) ∧ ents ek (es.filter fun e => !seen.contains e.born) left ∧
    (∀ p, cur = some p → ∃ e ∈ es, seen.back? = some e.born ∧ e.key = ek p.1 ∧ e.val = p.2)

section
variable {P : Program} {r : Option Nat} {g : World} {Γ : Env} {L M : List HP} {dst : Option Tmp} {t : TypeId} {pos : String} {aft : Array Edge} {gd : Option (Nat × Bool)}
variable {κ : Type} [DecidableEq κ] {kt : TypeId} {ek : κ → Value} {kvs : List (κ × Value)} {m : Value}

theorem h_range {x : Operand} {T e : TypeId} {R : List HP} {K : Value → List HP → Prop} (ht : P.underlying T = some (.map kt e)) (hK : ∀ it, K it (MpIt ek m it kvs kvs none :: R)) (hx : ev Γ x = some m := by rfl) (hp : Pick L (Mp ek m kvs) R := by repeat first | exact .z | apply Pick.s) : HO P r g ⟨dst, .range T x, t, pos, aft, gd⟩ Γ L K :=
  HO.run (by simp) fun a w ha hw => by
    obtain ⟨S1, S2, hd, l1, l2, ⟨b, es, clock, rfl, hb, h3, h4, h5⟩, hR⟩ := hp.to hw.heap
    have hb' := l1 _ _ hb
    have hbl : b < w.heap.size := by
      rcases Nat.lt_or_ge b w.heap.size with h' | h'
      · exact h'
      · simp [heapOf, Array.getElem?_eq_none h'] at hb'
    have h := hw.push (.mapIter (some b) clock #[] clock)
    refine ⟨.pointer (some ⟨w.heap.size, 0, none⟩), _, w.alloc (.mapIter (some b) clock #[] clock), ?_, hK _, h.os, h.tape, h.output, h.size, ?_⟩
    · simp only [execOp, ev_ok hx ha, Instr.range, Sem.run_bind, run_underlying ht, Result.andThen_ok, run_getObj hb' (by simp), Sem.run_pure]
      simp
    · refine ⟨fun i => if i = w.heap.size then some (.mapIter (some b) clock #[] clock) else S1 i, S2, fun i => ?_, fun i x hx => ?_, le_trans l2 (heapOf_push_le w _), ⟨b, w.heap.size, es, clock, #[], rfl, rfl, by omega, by simp [show b ≠ w.heap.size by omega, hb], by simp, h3, h4, h5, ?_, by simp⟩, hR⟩
      · by_cases hi : i = w.heap.size
        · right; cases hs : S2 i with
          | none => rfl
          | some y => have := l2 _ _ hs; subst hi; simp [heapOf] at this
        · simp only [hi, if_false]; exact hd i
      · by_cases hi : i = w.heap.size
        · subst hi; simp at hx; subst hx; show (w.heap.push _)[w.heap.size]? = _; simp
        · simp only [hi, if_false] at hx
          exact heapOf_push_le w _ _ _ (l1 _ _ hx)
      · have : (es.filter fun e => !(#[] : Array Nat).contains e.born) = es := by
          rw [List.filter_eq_self]; simp
        rw [this]; exact h3
theorem ents_split {es : List MapEntry} {left : List (κ × Value)} (h : ents ek es left) {j : Nat} (hj : j < es.length) : ∃ a p b, left = a ++ p :: b ∧ a.length = j ∧ es[j].key = ek p.1 ∧ es[j].val = p.2 := by
  have hl : es.length = left.length := ents_len h
  have hj' : j < left.length := by omega
  refine ⟨left.take j, left[j], left.drop (j + 1), ?_, by simp; omega, ?_⟩
  · rw [List.getElem_cons_drop, List.take_append_drop]
  · have := congrArg (·[j]?) h
    simp only [List.getElem?_map, List.getElem?_eq_getElem hj, List.getElem?_eq_getElem hj', Option.map_some, Option.some.injEq, Prod.mk.injEq] at this
    exact this
theorem Sat.setObj2 {w : World} {b : Nat} {o o' : Obj} {B : HP} {S1 S2 : Piece} {R : List HP} (h : Sat g L w) (hd : disj S1 S2) (l1 : le S1 (heapOf w)) (l2 : le S2 (heapOf w)) (hb : S1 b = some o) (hR : stars R S2) (n : Nat) (hB : ∀ S, S b = some o' → (∀ i, i ≠ b → S i = S1 i) → B S) : Sat g (B :: R) { w with heap := w.heap.setIfInBounds b o', drawn := n } :=
  (Sat.setObj h hd l1 l2 hb hR hB).draw n
theorem filter_erase {es : List MapEntry} (hp : (es.map (·.born)).Pairwise (· < ·)) (seen : Array Nat) {j : Nat} (hj : j < (es.filter fun e => !seen.contains e.born).length) :
    (es.filter fun e => !(seen.push (es.filter fun e => !seen.contains e.born)[j].born).contains e.born) = (es.filter fun e => !seen.contains e.born).eraseIdx j := by
  generalize hf : (es.filter fun e => !seen.contains e.born) = fs at hj
  have hps : (fs.map (·.born)).Pairwise (· < ·) := by
    rw [← hf]; exact hp.sublist ((List.filter_sublist).map _)
  have e1 : ∀ c, (es.filter fun e => !(seen.push c).contains e.born) = fs.filter fun e => e.born != c := by
    intro c
    rw [← hf, List.filter_filter]
    apply List.filter_congr
    intro x _
    by_cases h1 : x.born ∈ seen <;> by_cases h2 : x.born = c <;> simp [h1, h2]
  rw [e1]
  clear e1 hf hp es
  induction fs generalizing j with
  | nil => simp at hj
  | cons f fs ih =>
    rw [List.map_cons, List.pairwise_cons] at hps
    cases j with
    | zero =>
      simp only [List.getElem_cons_zero, List.eraseIdx_cons_zero]
      rw [List.filter_cons_of_neg (by simp), List.filter_eq_self]
      intro x hx
      have := hps.1 x.born (List.mem_map.2 ⟨x, hx, rfl⟩)
      simp; omega
    | succ j =>
      simp only [List.length_cons] at hj
      simp only [List.getElem_cons_succ, List.eraseIdx_cons_succ]
      have := hps.1 (fs[j]'(by omega)).born (List.mem_map.2 ⟨_, List.getElem_mem _, rfl⟩)
      rw [List.filter_cons_of_pos (by simp; omega), ih (by omega) hps.2]
theorem h_next {x : Operand} {it : Value} {left : List (κ × Value)} {cur : Option (κ × Value)} {R : List HP} {K : Value → List HP → Prop} (h0 : left = [] → K (.tuple #[.bool false]) (Mp ek m kvs :: R)) (h1 : ∀ a p b, left = a ++ p :: b → K (.tuple #[.bool true, ek p.1, p.2]) (MpIt ek m it kvs (a ++ b) (some p) :: R))
    (hx : ev Γ x = some it := by rfl) (hp : Pick L (MpIt ek m it kvs left cur) R := by repeat first | exact .z | apply Pick.s) : HO P r g ⟨dst, .next x false, t, pos, aft, gd⟩ Γ L K :=
  HO.run (by simp) fun a w ha hw => by
    obtain ⟨S1, S2, hd, l1, l2, ⟨b, i, es, clock, seen, rfl, rfl, hbi, hb, hi, h3, h4, h5, h6, h7⟩, hR⟩ := hp.to hw.heap
    have hb' := l1 _ _ hb
    have hi' := l1 _ _ hi
    generalize hf : (es.filter fun e => !seen.contains e.born) = fs at h6
    have hall : (!seen.isEmpty && !es.toArray.isEmpty && es.toArray.all (·.born ≥ clock)) = false := by
      cases es with
      | nil => simp
      | cons e es =>
        have := h5 e (by simp)
        have h' : ((e :: es).toArray.all fun x => decide (x.born ≥ clock)) = false := by
          rw [Bool.eq_false_iff]; intro h; simp at h; omega
        simp only [h', Bool.and_false]
    have hold : (fs.toArray.filter fun e => decide (e.born < clock)) = fs.toArray := by
      have : (fs.filter fun e => decide (e.born < clock)) = fs := by
        rw [List.filter_eq_self]; intro e he
        have : e ∈ es := by rw [← hf] at he; exact (List.mem_filter.1 he).1
        simpa using h5 e this
      simp [this]
    have hnew : (fs.toArray.filter fun e => decide (e.born ≥ clock)) = #[] := by
      have : (fs.filter fun e => decide (e.born ≥ clock)) = [] := by
        rw [List.filter_eq_nil_iff]; intro e he
        have : e ∈ es := by rw [← hf] at he; exact (List.mem_filter.1 he).1
        have := h5 e this
        simp; omega
      simp [this]
    have hleft : (es.toArray.filter fun e => !seen.contains e.born) = fs.toArray := by rw [← hf]; simp
    cases hfs : fs with
    | nil =>
      subst hfs
      have hl : left = [] := by
        have := ents_len h6; cases left with
        | nil => rfl
        | cons x l => simp at this
      refine ⟨_, _, w, ?_, h0 hl, hw.os, hw.tape, hw.output, hw.size, S1, S2, hd, l1, l2, ⟨b, es, clock, rfl, hb, h3, h4, h5⟩, hR⟩
      simp only [execOp, ev_ok hx ha, Instr.next, Sem.run_bind, run_getObj hi' (by simp), Result.andThen_ok, run_getObj hb' (by simp), hall, hleft, hold, hnew]
      simp [Question.forced]
    | cons f fs' =>
      have hcand : ((if fs.toArray.isEmpty then #[none] else #[]) ++ (fs.toArray ++ #[]).map some : Array (Option MapEntry)) = (fs.map some).toArray := by
        rw [hfs]; simp
      -- which one the tape picks
      have hpick : ∃ j w1, j < fs.length ∧ (choose (.mapNext (fs.map some).toArray.size)).run P w = .ok j w1 ∧ ∃ n, w1 = { w with drawn := n } := by
        by_cases h1 : (Question.mapNext (fs.map some).toArray.size).forced = true
        · exact ⟨0, w, by rw [hfs]; simp, by simp only [run_choose, h1, if_true], w.drawn, rfl⟩
        · refine ⟨(Question.mapNext (fs.map some).toArray.size).cut (w.tape w.drawn (.mapNext (fs.map some).toArray.size)), { w with drawn := w.drawn + 1 }, ?_, by simp only [run_choose, h1, Bool.false_eq_true, if_false], _, rfl⟩
          simp only [Question.cut]
          have : (fs.map some).toArray.size = fs.length := by simp
          rw [this]; exact Nat.mod_lt _ (by rw [hfs]; simp)
      obtain ⟨j, w1, hj, hch, n, rfl⟩ := hpick
      obtain ⟨a', p, b', hl, hal, hk1, hk2⟩ := ents_split h6 hj
      refine ⟨_, _, { w with heap := w.heap.setIfInBounds i (.mapIter (some b) clock (seen.push fs[j].born) clock), drawn := n }, ?_, h1 a' p b' hl, ?_⟩
      · simp only [execOp, ev_ok hx ha, Instr.next, Sem.run_bind, run_getObj hi' (by simp), Result.andThen_ok, run_getObj hb' (by simp), hall, hleft, hold, hnew, hcand]
        have hg : (fs.map some).toArray[j]? = some (some fs[j]) := by simp [hj]
        have hso : (setObj i (.mapIter (some b) clock (seen.push fs[j].born) clock)).run P { w with drawn := n } = .ok () { w with heap := w.heap.setIfInBounds i (.mapIter (some b) clock (seen.push fs[j].born) clock), drawn := n } :=
          run_setObj (w := { w with drawn := n }) (o := .mapIter (some b) clock seen clock) hi' (by simp)
        simp only [Bool.false_eq_true, if_false, Sem.run_bind, Sem.run_pure]
        rw [hch]
        simp only [Result.andThen_ok, hg, Sem.run_bind, hso, Sem.run_pure, hk1, hk2]
      · refine Sat.setObj2 hw hd l1 l2 hi hR n fun S hS hS' => ⟨b, i, es, clock, seen.push fs[j].born, rfl, rfl, hbi, by rw [hS' b hbi]; exact hb, hS, h3, h4, h5, ?_, ?_⟩
        · have hj' : j < (es.filter fun e => !seen.contains e.born).length := by rw [hf]; exact hj
          have := filter_erase h4 seen hj'
          simp only [hf] at this
          rw [this]
          unfold ents at *
          rw [map_eraseIdx, h6, ← map_eraseIdx, hl]
          congr 1
          rw [← hal, List.eraseIdx_append_of_length_le (Nat.le_refl _)]; simp
        · rintro p' ⟨⟩
          refine ⟨fs[j], ?_, by simp, hk1, hk2⟩
          have hmem : ∀ e ∈ fs, e ∈ es := fun e he => by rw [← hf] at he; exact (List.mem_filter.1 he).1
          exact hmem _ (List.getElem_mem _)
theorem e_entry {x : Operand} {it : Value} {left : List (κ × Value)} {p : κ × Value} (hx : ev Γ x = some it := by rfl) (hp : Pick L (MpIt ek m it kvs left (some p)) M := by repeat first | exact .z | apply Pick.s) : EO P g ⟨dst, .entry x, t, pos, aft, gd⟩ Γ L (.tuple #[ek p.1, p.2]) :=
  .of (by simp) fun ρ hρ w hw => by
    obtain ⟨S1, S2, hd, l1, l2, ⟨b, i, es, clock, seen, rfl, rfl, hbi, hb, hi, h3, h4, h5, h6, h7⟩, hR⟩ := hp.to hw.heap
    have hb' := l1 _ _ hb
    have hi' := l1 _ _ hi
    obtain ⟨e, he, hs, hk, hv⟩ := h7 p rfl
    have hfind : es.toArray.find? (fun x => x.born == e.born) = some e := by
      rw [List.find?_toArray]
      clear h3 h6 h7 hb hb'
      induction es with
      | nil => cases he
      | cons f fs ih =>
        rw [List.map_cons, List.pairwise_cons] at h4
        by_cases hfe : f.born = e.born
        · have : f = e := by
            rcases List.mem_cons.1 he with rfl | hm
            · rfl
            · have := h4.1 e.born (List.mem_map.2 ⟨e, hm, rfl⟩); omega
          simp [this]
        · rw [List.find?_cons_of_neg (by simpa using hfe)]
          refine ih h4.2 (fun x hx => h5 x (by simp [hx])) ?_
          rcases List.mem_cons.1 he with rfl | hm
          · exact absurd rfl hfe
          · exact hm
    simp only [execOp, hρ x _ (by simp [Op.operands]) hx, Instr.entry, Sem.run_bind, run_getObj hi' (by simp), Result.andThen_ok, hs, run_getObj hb' (by simp), hfind, hk, hv]
    simp
end
end Go.SL
