/- The steps of the walk: maps. -/
import Derived.Test.YtdfomffmfnpfoaaGreatSLf
set_option linter.unusedSimpArgs false
set_option linter.unusedVariables false
set_option linter.unusedSectionVars false
namespace Go.SL
open Go

section model
variable {κ : Type} [DecidableEq κ]
def midx (kvs : List (κ × Value)) (k : κ) : Option Nat := kvs.findIdx? (fun p => decide (p.1 = k))
def mget (kvs : List (κ × Value)) (k : κ) : Option Value := (kvs.find? (fun p => decide (p.1 = k))).map (·.2)
def mset (kvs : List (κ × Value)) (k : κ) (v : Value) : List (κ × Value) := match midx kvs k with
  | some i => kvs.set i (k, v)
  | none => kvs ++ [(k, v)]
def mdel (kvs : List (κ × Value)) (k : κ) : List (κ × Value) := match midx kvs k with
  | some i => kvs.eraseIdx i
  | none => kvs
end model

/-- A kind of keys. -/
structure KeyOk {κ : Type} [DecidableEq κ] (P : Program) (T : TypeId) (d : TypeDesc) (ek : κ → Value) : Prop where
  und : P.underlying T = some d
  plain : ∀ k e n w, (Instr.checkKey e (n + 1) T (ek k)).run P w = .ok () w
  same : ∀ a b, Instr.sameNow d (ek a) (ek b) = some (decide (a = b))
  bits : ∀ a n, Instr.sameBits (n + 1) (ek a) (ek a) = true

def ents {κ : Type} (ek : κ → Value) (es : List MapEntry) (kvs : List (κ × Value)) : Prop := es.map (fun e => (e.key, e.val)) = kvs.map (fun p => (ek p.1, p.2))
def Mp {κ : Type} (ek : κ → Value) (m : Value) (kvs : List (κ × Value)) : HP := fun S =>
  ∃ b es clock, m = .map (some b) ∧ S b = some (.map (List.toArray es) clock) ∧ ents ek es kvs ∧ (es.map (·.born)).Pairwise (· < ·) ∧ ∀ e ∈ es, e.born < clock

section
variable {P : Program} {κ : Type} [DecidableEq κ] {T : TypeId} {d : TypeDesc} {ek : κ → Value}
theorem ents_cons {e : MapEntry} {es : List MapEntry} {kvs : List (κ × Value)} (h : ents ek (e :: es) kvs) : ∃ p kvs', kvs = p :: kvs' ∧ e.key = ek p.1 ∧ e.val = p.2 ∧ ents ek es kvs' := by
  cases kvs with
  | nil => simp [ents] at h
  | cons p kvs =>
    simp only [ents, List.map_cons, List.cons.injEq, Prod.mk.injEq] at h
    exact ⟨p, kvs, rfl, h.1.1, h.1.2, h.2⟩
theorem find_now (hk : KeyOk P T d ek) (k : κ) : ∀ (es : List MapEntry) (kvs : List (κ × Value)) (i : Nat), ents ek es kvs →
    Instr.findNow d (ek k) es i = some (match midx kvs k with | some j => (mget kvs k).map fun v => (i + j, v) | none => none)
  | [], kvs, i, h => by
    have : kvs = [] := by cases kvs with
      | nil => rfl
      | cons p l => simp [ents] at h
    subst this; rfl
  | e :: es, kvs, i, h => by
    obtain ⟨p, kvs', rfl, h1, h2, h3⟩ := ents_cons h
    simp only [Instr.findNow, h1, hk.same]
    by_cases e' : k = p.1
    · subst e'
      simp [midx, mget, h2, List.findIdx?_cons]
    · have e2 : ¬ p.1 = k := fun x => e' x.symm
      simp only [e', decide_false]
      rw [find_now hk k es kvs' (i + 1) h3]
      simp only [midx, mget, List.findIdx?_cons, List.find?_cons, e2, decide_false]
      simp only [Bool.false_eq_true, if_false]
      cases kvs'.findIdx? (fun p => decide (p.1 = k)) with
      | none => rfl
      | some j => simp [Nat.add_assoc, Nat.add_comm 1 j]
theorem midx_none {kvs : List (κ × Value)} {k : κ} : midx kvs k = none ↔ mget kvs k = none := by
  simp [midx, mget, List.findIdx?_eq_none_iff]
theorem midx_some {kvs : List (κ × Value)} {k : κ} {j : Nat} (h : midx kvs k = some j) : ∃ v, kvs[j]? = some (k, v) ∧ mget kvs k = some v := by
  induction kvs generalizing j with
  | nil => simp [midx] at h
  | cons p kvs ih =>
    simp only [midx, List.findIdx?_cons] at h
    by_cases e : p.1 = k
    · simp [e] at h; subst h; subst e
      exact ⟨p.2, rfl, by simp [mget]⟩
    · simp only [e, decide_false, Bool.false_eq_true, if_false, Option.map_eq_some_iff] at h
      obtain ⟨i, hi, rfl⟩ := h
      obtain ⟨v, h1, h2⟩ := ih hi
      exact ⟨v, by simpa using h1, by simpa [mget, List.find?_cons, e] using h2⟩
theorem find_now' (hk : KeyOk P T d ek) (k : κ) {es : List MapEntry} {kvs : List (κ × Value)} (h : ents ek es kvs) : Instr.findNow d (ek k) es 0 = some ((midx kvs k).bind fun j => (mget kvs k).map fun v => (j, v)) := by
  rw [find_now hk k es kvs 0 h]
  cases midx kvs k <;> simp
theorem run_checkKey (hk : KeyOk P T d ek) (e : Bool) (k : κ) (w : World) : (Instr.checkKey e 10000 T (ek k)).run P w = .ok () w := hk.plain k e 9999 w
theorem run_findKey (hk : KeyOk P T d ek) (k : κ) {es : List MapEntry} {kvs : List (κ × Value)} (h : ents ek es kvs) (w : World) : (Instr.findKey T (ek k) es).run P w = .ok ((midx kvs k).bind fun j => (mget kvs k).map fun v => (j, v)) w := by
  unfold Instr.findKey
  rw [Sem.run_bind, run_underlying hk.und]
  simp only [Result.andThen_ok, find_now' hk k h]; rfl
end

section
variable {P : Program} {r : Option Nat} {g : World} {Γ : Env} {L M : List HP} {dst : Option Tmp} {t : TypeId} {pos : String} {aft : Array Edge} {gd : Option (Nat × Bool)}
variable {κ : Type} [DecidableEq κ] {kt : TypeId} {d : TypeDesc} {ek : κ → Value} {kvs : List (κ × Value)} {m : Value}

theorem run_getObj {w : World} {b : Nat} {o : Obj} (h : w.heap[b]? = some o) (ho : ∀ c t f, o ≠ .cells c t f) : (getObj b).run P w = .ok o w := by
  cases o <;> simp [getObj, Sem.run, h]
  exact ho _ _ _ rfl
theorem Sat.mp {w : World} (h : Sat g L w) (hp : Pick L (Mp ek m kvs) M) : ∃ b es clock, m = .map (some b) ∧ w.heap[b]? = some (.map (List.toArray es) clock) ∧ ents ek es kvs ∧ (es.map (·.born)).Pairwise (· < ·) ∧ ∀ e ∈ es, e.born < clock := by
  obtain ⟨S1, S2, _, h1, _, ⟨b, es, clock, e1, e2, e3, e4, e5⟩, _⟩ := hp.to h.heap
  exact ⟨b, es, clock, e1, h1 _ _ e2, e3, e4, e5⟩
theorem ents_len {es : List MapEntry} (h : ents ek es kvs) : es.length = kvs.length := by
  have := congrArg List.length h
  simpa using this

theorem e_len_map {x : Operand} {T : TypeId} {e : TypeId} (ht : P.underlying T = some (.map kt e)) (hx : ev Γ x = some m := by rfl) (hp : Pick L (Mp ek m kvs) M := by repeat first | exact .z | apply Pick.s) : EO P g ⟨dst, .call ⟨.builtin .len, #[x], #[T]⟩, t, pos, aft, gd⟩ Γ L (.int .i64 kvs.length) :=
  e_call_b (args := [x]) (vs := [m]) (by simp [evs, hx]) fun w cs hw => by
    obtain ⟨b, es, clock, rfl, hb, h3, _⟩ := hw.mp hp
    simp [builtin, Builtin.len_, run_underlying ht, run_getObj hb, goInt, ents_len h3]
theorem e_lookup {x i : Operand} {T e : TypeId} {k : κ} {z : Value} (ht : P.underlying T = some (.map kt e)) (hk : KeyOk P kt d ek) (hz : (P.info? e).bind (·.zero) = some z) (hx : ev Γ x = some m := by rfl) (hi : ev Γ i = some (ek k) := by rfl) (hp : Pick L (Mp ek m kvs) M := by repeat first | exact .z | apply Pick.s) :
    EO P g ⟨dst, .lookup T x i false, t, pos, aft, gd⟩ Γ L ((mget kvs k).getD z) :=
  .of (by simp) fun ρ hρ w hw => by
    obtain ⟨b, es, clock, rfl, hb, h3, _⟩ := hw.mp hp
    simp only [execOp, hρ x _ (by simp [Op.operands]) hx, hρ i _ (by simp [Op.operands]) hi, Instr.lookup, Sem.run_bind, run_underlying ht, Result.andThen_ok, run_getObj hb (by simp), Sem.run_pure, run_checkKey hk, run_findKey hk k h3]
    cases hm : midx kvs k with
    | none => simp [midx_none.1 hm, run_zeroValue hz]
    | some j => obtain ⟨v, _, h2⟩ := midx_some hm; simp [h2]
theorem e_lookup2 {x i : Operand} {T e : TypeId} {k : κ} {z : Value} (ht : P.underlying T = some (.map kt e)) (hk : KeyOk P kt d ek) (hz : (P.info? e).bind (·.zero) = some z) (hx : ev Γ x = some m := by rfl) (hi : ev Γ i = some (ek k) := by rfl) (hp : Pick L (Mp ek m kvs) M := by repeat first | exact .z | apply Pick.s) :
    EO P g ⟨dst, .lookup T x i true, t, pos, aft, gd⟩ Γ L (.tuple #[(mget kvs k).getD z, .bool (mget kvs k).isSome]) :=
  .of (by simp) fun ρ hρ w hw => by
    obtain ⟨b, es, clock, rfl, hb, h3, _⟩ := hw.mp hp
    simp only [execOp, hρ x _ (by simp [Op.operands]) hx, hρ i _ (by simp [Op.operands]) hi, Instr.lookup, Sem.run_bind, run_underlying ht, Result.andThen_ok, run_getObj hb (by simp), Sem.run_pure, run_checkKey hk, run_findKey hk k h3]
    cases hm : midx kvs k with
    | none => simp [midx_none.1 hm, run_zeroValue hz]
    | some j => obtain ⟨v, _, h2⟩ := midx_some hm; simp [h2]
theorem run_setObj {w : World} {b : Nat} {o o' : Obj} (h : w.heap[b]? = some o) (ho : ∀ c t f, o ≠ .cells c t f) : (setObj b o').run P w = .ok () { w with heap := w.heap.setIfInBounds b o' } := by
  cases o <;> simp [setObj, Sem.run, h]
  exact ho _ _ _ rfl
theorem Sat.setObj {w : World} {b : Nat} {o o' : Obj} {B : HP} {S1 S2 : Piece} {R : List HP} (h : Sat g L w) (hd : disj S1 S2) (l1 : le S1 (heapOf w)) (l2 : le S2 (heapOf w)) (hb : S1 b = some o) (hR : stars R S2) (hB : ∀ S, S b = some o' → (∀ i, i ≠ b → S i = S1 i) → B S) : Sat g (B :: R) { w with heap := w.heap.setIfInBounds b o' } := by
  have hlt : b < w.heap.size := by
    have := l1 _ _ hb
    rcases Nat.lt_or_ge b w.heap.size with h' | h'
    · exact h'
    · simp [heapOf, Array.getElem?_eq_none h'] at this
  have hS2 : S2 b = none := by
    rcases hd b with h0 | h0
    · rw [hb] at h0; cases h0
    · exact h0
  refine ⟨h.os, h.tape, h.output, by simpa using h.size, fun i => if i = b then some o' else S1 i, S2, fun i => ?_, fun i x hx => ?_, fun i x hx => ?_, hB _ (by simp) (fun i hi => by simp [hi]), hR⟩
  · by_cases hi : i = b
    · subst hi; exact .inr hS2
    · simp only [hi, if_false]; exact hd i
  · by_cases hi : i = b
    · subst hi; simp at hx; subst hx; simp [heapOf, hlt]
    · simp only [hi, if_false] at hx
      have := l1 _ _ hx
      simpa [heapOf, Array.getElem?_setIfInBounds_ne (Ne.symm hi)] using this
  · have hi : i ≠ b := fun e => by subst e; rw [hS2] at hx; cases hx
    have := l2 _ _ hx
    simpa [heapOf, Array.getElem?_setIfInBounds_ne (Ne.symm hi)] using this
theorem ents_set {es : List MapEntry} {j : Nat} {k : κ} {v : Value} (h : ents ek es kvs) : ents ek (es.modify j fun e => { e with key := ek k, val := v }) (kvs.set j (k, v)) := by
  unfold ents at *
  apply List.ext_getElem?
  intro i
  have hi := congrArg (·[i]?) h
  simp only [List.getElem?_map, List.getElem?_modify, List.getElem?_set] at hi ⊢
  have hl : es.length = kvs.length := by simpa using congrArg List.length h
  by_cases e : j = i
  · subst e
    simp only [if_true]
    rcases Nat.lt_or_ge j es.length with h' | h'
    · rw [List.getElem?_eq_getElem h', if_pos (by omega)]; rfl
    · rw [List.getElem?_eq_none h', if_neg (by omega)]; rfl
  · simp only [e, if_false]; simpa using hi
theorem h_mapUpdate {x i v : Operand} {T e : TypeId} {k : κ} {u : Value} {N : List HP} {K : Value → List HP → Prop} (ht : P.underlying T = some (.map kt e)) (hk : KeyOk P kt d ek) (hK : K (.tuple #[]) N) (hx : ev Γ x = some m := by rfl) (hi : ev Γ i = some (ek k) := by rfl) (hv : ev Γ v = some u := by rfl)
    (hp : Put L (Mp ek m kvs) (Mp ek m (mset kvs k u)) N := by repeat first | exact .z | apply Put.s) : HO P r g ⟨dst, .mapUpdate T x i v, t, pos, aft, gd⟩ Γ L K :=
  HO.run_skip (by simp) fun a w ha hw => by
    obtain ⟨R, p1, p2⟩ := hp.picks
    obtain ⟨S1, S2, hd, l1, l2, ⟨b, es, clock, rfl, hb, h3, h4, h5⟩, hR⟩ := p1.to hw.heap
    have hb' := l1 _ _ hb
    cases hm : midx kvs k with
    | none =>
      refine ⟨N, { w with heap := w.heap.setIfInBounds b (.map (es ++ [({ key := ek k, val := u, born := clock } : MapEntry)]).toArray (clock + 1)) }, ?_, hK, ?_⟩
      · simp only [execOp, ev_ok hx ha, ev_ok hi ha, ev_ok hv ha, Instr.mapUpdate, Sem.run_bind, run_underlying ht, Result.andThen_ok, run_getObj hb' (by simp), run_checkKey hk, run_findKey hk k h3, hm, Option.bind_none]
        simp [run_setObj hb']
      · refine (Sat.setObj (B := Mp ek (.map (some b)) (mset kvs k u)) hw hd l1 l2 hb hR fun S hS _ => ⟨b, _, _, rfl, hS, ?_, ?_, ?_⟩).conv fun _ => p2.back
        · simp only [mset, hm]; unfold ents at *; simp [h3]
        · rw [List.map_append, List.pairwise_append]
          refine ⟨h4, by simp, fun a ha b hb => ?_⟩
          simp at hb; subst hb
          simp at ha; obtain ⟨e, he, rfl⟩ := ha; exact h5 e he
        · intro e he
          simp at he
          rcases he with he | rfl
          · have := h5 e he; omega
          · simp
    | some j =>
      obtain ⟨v', hj, hg⟩ := midx_some hm
      have hl : es.length = kvs.length := ents_len h3
      have hjl : j < es.length := by
        rcases Nat.lt_or_ge j kvs.length with h' | h'
        · omega
        · rw [List.getElem?_eq_none h'] at hj; cases hj
      have hkey : ((es.toArray[j]?).map (·.key)).getD (ek k) = ek k := by
        have := congrArg (·[j]?) h3
        simp only [List.getElem?_map, hj, List.getElem?_eq_getElem hjl] at this
        simp at this
        simp [List.getElem?_eq_getElem hjl, this.1]
      refine ⟨N, { w with heap := w.heap.setIfInBounds b (.map (es.modify j fun e => { e with key := ek k, val := u }).toArray clock) }, ?_, hK, ?_⟩
      · simp only [execOp, ev_ok hx ha, ev_ok hi ha, ev_ok hv ha, Instr.mapUpdate, Sem.run_bind, run_underlying ht, Result.andThen_ok, run_getObj hb' (by simp), run_checkKey hk, run_findKey hk k h3, hm, Option.bind_some, hg, Option.map_some, hkey]
        simp only [Instr.keyThatStays, hk.bits k 9999, if_true, Sem.run_pure, Result.andThen_ok, run_setObj hb' (by simp)]
        simp
      · refine (Sat.setObj (B := Mp ek (.map (some b)) (mset kvs k u)) hw hd l1 l2 hb hR fun S hS _ => ⟨b, _, _, rfl, hS, ?_, ?_, ?_⟩).conv fun _ => p2.back
        · simp only [mset, hm]; exact ents_set h3
        · have : (es.modify j fun e => { e with key := ek k, val := u }).map (·.born) = es.map (·.born) := by
            apply List.ext_getElem?
            intro i
            simp only [List.getElem?_map, List.getElem?_modify]
            by_cases e : j = i
            · subst e; cases es[j]? <;> simp
            · simp [e]
          rw [this]; exact h4
        · intro e he
          obtain ⟨i, hi', rfl⟩ := List.getElem_of_mem he
          simp only [List.length_modify] at hi'
          have : (es.modify j fun e => { e with key := ek k, val := u })[i].born = es[i].born := by
            rw [List.getElem_modify]; split <;> rfl
          rw [this]; exact h5 _ (List.getElem_mem hi')
theorem map_eraseIdx {α β : Type} (f : α → β) : ∀ (l : List α) (j : Nat), (l.eraseIdx j).map f = (l.map f).eraseIdx j
  | [], _ => rfl
  | _ :: _, 0 => rfl
  | a :: l, j + 1 => by simp only [List.eraseIdx_cons_succ, List.map_cons]; rw [map_eraseIdx f l j]
theorem h_delete {x i : Operand} {T T2 e : TypeId} {k : κ} {N : List HP} {K : Value → List HP → Prop} (ht : P.underlying T = some (.map kt e)) (hk : KeyOk P kt d ek) (hK : K (.tuple #[]) N) (hx : ev Γ x = some m := by rfl) (hi : ev Γ i = some (ek k) := by rfl)
    (hp : Put L (Mp ek m kvs) (Mp ek m (mdel kvs k)) N := by repeat first | exact .z | apply Put.s) : HO P r g ⟨dst, .call ⟨.builtin .delete, #[x, i], #[T, T2]⟩, t, pos, aft, gd⟩ Γ L K :=
  HO.run (by simp) fun a w ha hw => by
    obtain ⟨R, p1, p2⟩ := hp.picks
    obtain ⟨S1, S2, hd, l1, l2, ⟨b, es, clock, rfl, hb, h3, h4, h5⟩, hR⟩ := p1.to hw.heap
    have hb' := l1 _ _ hb
    have hmm : (#[x, i] : Array Operand).map a.eval = #[.map (some b), ek k] := by simp [ev_ok hx ha, ev_ok hi ha]
    cases hm : midx kvs k with
    | none =>
      refine ⟨.tuple #[], N, { w with heap := w.heap.setIfInBounds b (.map es.toArray clock) }, ?_, hK, ?_⟩
      · show (do let d ← resolve a.eval ⟨.builtin .delete, #[x, i], #[T, T2]⟩ t; invoke d.target d.args : Sem Next).run P w = _
        simp only [resolve, hmm, Sem.run_bind, Sem.run_pure, Result.andThen_ok, invoke, builtin, Builtin.delete_, List.getElem?_toArray, List.getElem?_cons_zero, List.getElem?_cons_succ, run_underlying ht, run_getObj hb' (by simp), run_checkKey hk, run_findKey hk k h3, hm, Option.bind_none, run_setObj hb' (by simp)]
      · refine (Sat.setObj (B := Mp ek (.map (some b)) (mdel kvs k)) hw hd l1 l2 hb hR fun S hS _ => ⟨b, es, clock, rfl, hS, ?_, h4, h5⟩).conv fun _ => p2.back
        simp only [mdel, hm]; exact h3
    | some j =>
      obtain ⟨v', hj, hg⟩ := midx_some hm
      have hl : es.length = kvs.length := ents_len h3
      have hjl : j < es.length := by
        rcases Nat.lt_or_ge j kvs.length with h' | h'
        · omega
        · rw [List.getElem?_eq_none h'] at hj; cases hj
      have harr : es.toArray.eraseIdxIfInBounds j = (es.eraseIdx j).toArray := by
        unfold Array.eraseIdxIfInBounds
        simp [hjl]
      refine ⟨.tuple #[], N, { w with heap := w.heap.setIfInBounds b (.map (es.eraseIdx j).toArray clock) }, ?_, hK, ?_⟩
      · show (do let d ← resolve a.eval ⟨.builtin .delete, #[x, i], #[T, T2]⟩ t; invoke d.target d.args : Sem Next).run P w = _
        simp only [resolve, hmm, Sem.run_bind, Sem.run_pure, Result.andThen_ok, invoke, builtin, Builtin.delete_, List.getElem?_toArray, List.getElem?_cons_zero, List.getElem?_cons_succ, run_underlying ht, run_getObj hb' (by simp), run_checkKey hk, run_findKey hk k h3, hm, Option.bind_some, hg, Option.map_some, run_setObj hb' (by simp), harr]
      · refine (Sat.setObj (B := Mp ek (.map (some b)) (mdel kvs k)) hw hd l1 l2 hb hR fun S hS _ => ⟨b, es.eraseIdx j, clock, rfl, hS, ?_, ?_, ?_⟩).conv fun _ => p2.back
        · simp only [mdel, hm]; unfold ents at *; rw [map_eraseIdx, map_eraseIdx, h3]
        · rw [map_eraseIdx]; exact h4.sublist (List.eraseIdx_sublist _ _)
        · exact fun e he => h5 e ((List.eraseIdx_sublist _ _).mem he)
theorem h_makeMap {T : TypeId} {K : Value → List HP → Prop} (hK : ∀ m, K m (Mp ek m ([] : List (κ × Value)) :: L)) : HO P r g ⟨dst, .makeMap T none, t, pos, aft, gd⟩ Γ L K :=
  HO.run (by simp) fun a w _ hw => by
    have h := hw.push (.map #[] 0)
    obtain ⟨T1, T2, hd', m1, m2, hA1, hA2⟩ := h.heap
    refine ⟨.map (some w.heap.size), _, w.alloc (.map #[] 0), by simp [execOp, Instr.makeMap], hK _, h.os, h.tape, h.output, h.size, T1, T2, hd', m1, m2, ⟨w.heap.size, [], 0, rfl, hA1, rfl, by simp, by simp⟩, hA2⟩

/-! kinds of keys -/
def eU32 (n : UInt32) : Value := .int .u32 n.toNat
theorem key_u32 {T : TypeId} (h : P.underlying T = some (.int .u32)) : KeyOk P T (.int .u32) eU32 where
  und := h
  plain := fun k e n w => by unfold Instr.checkKey; rw [Sem.run_bind, run_underlying h]; rfl
  same := fun a b => by simp [Instr.sameNow, eU32]; rw [Bool.eq_iff_iff]; simp [← UInt32.toNat_inj]; omega
  bits := fun a n => by simp [Instr.sameBits, eU32]
def eStr (s : ByteArray) : Value := .string s
theorem ba_beq (a b : ByteArray) : (a == b) = decide (a = b) := by
  show (a.data == b.data) = _
  rw [Bool.eq_iff_iff]; simp [ByteArray.ext_iff]
theorem key_str {T : TypeId} (h : P.underlying T = some .string) : KeyOk P T .string eStr where
  und := h
  plain := fun k e n w => by unfold Instr.checkKey; rw [Sem.run_bind, run_underlying h]; rfl
  same := fun a b => by simp [Instr.sameNow, eStr, ba_beq]
  bits := fun a n => by simp [Instr.sameBits, eStr, ba_beq]
end
end Go.SL
