/- SLf SLg SLh: rules and walks, several texts in one. -/
import Derived.Test.YtdpmpcoekkhceaaGreatQC2
import Derived.IntWalk
/- The steps of the walk: append, make, literals of slices. -/
set_option linter.unusedSimpArgs false
set_option linter.unusedVariables false
set_option linter.unusedSectionVars false
namespace Go.SL
open Go
section
variable {P : Program} {r : Option Nat} {g : World} {Γ : Env} {L M : List HP} {A : HP} {dst : Option Tmp} {t : TypeId} {pos : String} {aft : Array Edge} {gd : Option (Nat × Bool)}
theorem RdS.read {S : World} {z n : Nat} {u : Value} {cs : List Value} (h : RdS (heapOf S) z u n cs) : (Builtin.lenOf u).run P S = .ok n S ∧ (Builtin.firstCells z n u).run P S = .ok cs.toArray S := by
  rcases h with ⟨rfl, rfl, a, c, rfl⟩ | ⟨b, o, c, l, t, rfl, hn, hS, hc, rfl⟩
  · refine ⟨rfl, ?_⟩
    cases a with
    | none => rfl
    | some a => simp [Builtin.firstCells, loadCells, loadCellsFrom]
  · have : n * z ≤ c * z := Nat.mul_le_mul_right z hn
    exact ⟨rfl, by simp only [Builtin.firstCells]; exact run_loadCells ⟨t, hS⟩ (by omega)⟩
theorem growBy_le (need : Nat) : ∀ (k c : Nat), c < need → Builtin.growBy need k c ≤ need + (need + 768) / 4
  | 0, c, h => by simp only [Builtin.growBy]; omega
  | k + 1, c, h => by
    simp only [Builtin.growBy]
    split
    · omega
    · rcases Nat.lt_or_ge (c + (c + 768) / 4) need with h' | h'
      · exact growBy_le need k _ h'
      · cases k with
        | zero => simp only [Builtin.growBy]; omega
        | succ k => simp only [Builtin.growBy]; rw [if_pos h']; omega
theorem nextcap_le {need old : Nat} (h : old < need) : Builtin.nextslicecap need old ≤ 2 * need + 192 := by
  unfold Builtin.nextslicecap
  split
  · omega
  · split
    · omega
    · have := growBy_le need 4 old h; omega
theorem mod_arr_len (zero : Array Value) (n : Nat) : ((Builtin.zeroCells zero n)).size = n * zero.size := by simp [Builtin.zeroCells]
/-- append of the elements of a slice, or of the bytes of a text. -/
theorem run_append {T T2 E z y n k : Nat} {u v : Value} {cs ds : List Value} {zs : List Value} {R : List HP} {w : World} (hs : slOf P T = some (E, z, y)) (h2 : ∃ d, P.underlying T2 = some d ∧ ∀ q, d ≠ .int q) (hz : zeroOf P E = some zs) (hzz : zs.length = z)
    (hw : Sat g L w) (p1 : Pick L (Own E z u n cs) R) (hlen : (Builtin.lenOf v).run P w = .ok k w) (hdsd : ∀ d, (Builtin.firstCells z k v).run P { w with drawn := d } = .ok ds.toArray { w with drawn := d }) (hdl : ds.length = k * z) (h1 : ones ds = true) (hz0 : 0 < z) (hb : n + k ≤ 68719476736) (hy : y ≤ 512) :
    ∃ u' w', (Builtin.append_ #[T, T2] t #[u, v]).run P w = .ok u' w' ∧ Sat g (Own E z u' (n + k) (cs ++ ds) :: R) w' := by
  have hds : (Builtin.firstCells z k v).run P w = .ok ds.toArray w := hdsd w.drawn
  unfold slOf at hs
  split at hs
  case h_2 => cases hs
  case h_1 hu =>
  simp only [Option.map_eq_some_iff] at hs
  obtain ⟨inf, hinf, hs⟩ := hs
  cases hs
  have hsz : szOf P E = some inf.size := by simp [szOf, hinf]
  obtain ⟨d2, hd2, hni⟩ := h2
  have hown := hw.rd p1 own_rd
  -- the second argument's reading stands; the first one's shape
  have hshape : ∃ a c, u = .slice a n c ∧ n ≤ c ∧ (Builtin.firstCells inf.size n u).run P w = .ok cs.toArray w := by
    have hr := (hown.read (P := P)).2
    rcases hown with ⟨rfl, _, a, c, rfl⟩ | ⟨b, o, c, l, t, rfl, hn, _⟩
    · exact ⟨a, c, rfl, Nat.zero_le _, hr⟩
    · exact ⟨_, c, rfl, hn, hr⟩
  obtain ⟨S1, S2, hd, l1, l2, hOw, hR⟩ := p1.to hw.heap
  by_cases hfit : ∃ b o c l, u = .slice (some ⟨b, o, none⟩) n c ∧ n + k ≤ c ∧ c < 9223372036854775808 ∧ S1 b = some (.cells (List.toArray l) E (0, 0)) ∧ o + c * inf.size ≤ l.length ∧ cs = (l.drop o).take (n * inf.size)
  · -- there is room
    obtain ⟨b, o, c, l, rfl, hnk, hc, hS, hl, rfl⟩ := hfit
    have hm1 : (n + k) * inf.size ≤ c * inf.size := Nat.mul_le_mul_right _ hnk
    rw [Nat.add_mul] at hm1
    obtain ⟨w', hr, a1, a2, a3, a4, a5, a6⟩ := run_storeCells (P := P) (T := E) ds 0 (o + n * inf.size) l w (l1 _ _ hS) (by rw [Nat.add_zero]; omega) (ones_ok h1)
    rw [Nat.add_zero] at a5
    refine ⟨.slice (some ⟨b, o, none⟩) (n + k) c, w', ?_, ?_⟩
    · simp only [Builtin.append_, List.getElem?_toArray, List.getElem?_cons_zero, List.getElem?_cons_succ, Sem.run_bind, run_underlying hu, Result.andThen_ok, run_sizeOf hsz, run_underlying hd2]
      simp [hlen, hnk, hds, add_none, hr]
    · refine ⟨a1.trans hw.os, a2.trans hw.tape, a3.trans hw.output, a4 ▸ hw.size, ?_⟩
      have hS2 : S2 b = none := by
        rcases hd b with h0 | h0
        · rw [hS] at h0; cases h0
        · exact h0
      refine ⟨fun i => if i = b then some (.cells (splice l (o + n * inf.size) ds).toArray E (0, 0)) else none, S2, fun i => ?_, fun i x hx => ?_, fun i x hx => ?_, .inr ⟨b, o, c, splice l (o + n * inf.size) ds, rfl, hnk, hc, by simp, ?_, ?_⟩, hR⟩
      · by_cases hi : i = b
        · subst hi; exact .inr hS2
        · left; simp [hi]
      · by_cases hi : i = b
        · subst hi; simp at hx; subst hx; exact a5
        · simp [hi] at hx
      · have hi : i ≠ b := fun e => by subst e; rw [hS2] at hx; cases hx
        show w'.heap[i]? = some x
        rw [a6 i hi]; exact l2 i x hx
      · rw [splice_len _ _ _ (by omega)]; exact hl
      · apply List.ext_getElem?
        intro i
        rw [td_get, splice_get _ _ _ (by omega), List.getElem?_append]
        simp only [List.length_take, List.length_drop]
        rw [Nat.min_eq_left (show n * inf.size ≤ l.length - o by omega), Nat.add_mul]
        by_cases hi : i < n * inf.size
        · rw [if_pos hi, if_pos (show i < n * inf.size + k * inf.size by omega), if_pos (show o + i < o + n * inf.size by omega), td_get, if_pos hi]
        · rw [if_neg hi, if_neg (show ¬ o + i < o + n * inf.size by omega)]
          by_cases h2 : i < n * inf.size + k * inf.size
          · rw [if_pos h2, if_pos (show o + i < o + n * inf.size + ds.length by omega)]; congr 1; omega
          · rw [if_neg h2, List.getElem?_eq_none (by omega)]
  · obtain ⟨a, c, rfl, hnc, hcs⟩ := hshape
    by_cases hk : n + k ≤ c
    · -- nothing to append to nothing
      have h0 : n = 0 ∧ k = 0 ∧ cs = [] ∧ c = 0 := by
        rcases hOw with ⟨rfl, rfl, a', e⟩ | ⟨b, o, c', l, e, h3, h4, h5, h6, h7⟩
        · cases e; exact ⟨rfl, by omega, rfl, rfl⟩
        · cases e; exact absurd ⟨b, o, c, l, rfl, hk, h4, h5, h6, h7⟩ hfit
      obtain ⟨rfl, rfl, rfl, rfl⟩ := h0
      have hd0 : ds = [] := by cases ds with
        | nil => rfl
        | cons x l => simp at hdl
      subst hd0
      refine ⟨.slice a 0 0, w, ?_, hw.conv fun S hS => p1.to hS⟩
      simp only [Builtin.append_, List.getElem?_toArray, List.getElem?_cons_zero, List.getElem?_cons_succ, Sem.run_bind, run_underlying hu, Result.andThen_ok, run_sizeOf hsz, run_underlying hd2]
      cases a <;> simp [hlen, hds, storeCells]
    · -- a new array
      have hkc : c < n + k := by omega
      have hnext := nextcap_le hkc
      unfold zeroOf at hz
      cases hzi : (P.info? E).bind (·.zero) with
      | none => rw [hzi] at hz; cases hz
      | some zv =>
      rw [hzi] at hz
      simp at hz
      have hz' : zv.cells = zs.toArray := by rw [← hz]
      have hmul : Builtin.nextslicecap (n + k) c * inf.bytes ≤ (2 * (n + k) + 192) * 512 := Nat.mul_le_mul hnext hy
      let q : Question := .appendCap (n + k) c E
      let nc := q.cut (w.tape w.drawn q)
      have hnc2 : nc = n + k + (w.tape w.drawn q) % (2 ^ 63 - (n + k)) := rfl
      have hlt : (w.tape w.drawn q) % (2 ^ 63 - (n + k)) < 2 ^ 63 - (n + k) := Nat.mod_lt _ (by omega)
      let row := (cs ++ ds ++ (Builtin.zeroCells zs.toArray (nc - (n + k))).toList)
      have hcl : cs.length = n * inf.size := hown.len
      refine ⟨.slice (some ⟨w.heap.size, 0, none⟩) (n + k) nc, w.drew.alloc (.cells row.toArray E (0, 0)), ?_, ?_⟩
      · simp only [Builtin.append_, List.getElem?_toArray, List.getElem?_cons_zero, List.getElem?_cons_succ, Sem.run_bind, run_underlying hu, Result.andThen_ok, run_sizeOf hsz, run_underlying hd2]
        have e1 : ¬ (9223372036854775807 < (n : Int) + k ∧ inf.bytes = 0) := by omega
        have e2 : ¬ 2 ^ 48 < Builtin.nextslicecap (n + k) c * inf.bytes := by omega
        have hcs' : (Builtin.firstCells inf.size n (.slice a n c)).run P w.drew = .ok cs.toArray w.drew := by
          have : RdS (heapOf w.drew) inf.size (.slice a n c) n cs := hown
          exact (this.read (P := P)).2
        have hds' : (Builtin.firstCells inf.size k v).run P w.drew = .ok ds.toArray w.drew := hdsd (w.drawn + 1)
        have e3 : ¬ n + k ≤ c := hk
        simp [hlen, e3, e1, e2, run_typeInfo hinf, Question.forced, hcs', hds', run_zeroValue hzi, newRow, hz', row, nc, q]
        congr 2; apply Array.ext'; simp
      · have h := (hw.draw (w.drawn + 1)).conv fun S hS => p1.to hS
        have h' := h.push (.cells row.toArray E (0, 0))
        obtain ⟨T1, T2, hd', m1, m2, hA1, hA2⟩ := h'.heap
        refine ⟨h'.os, h'.tape, h'.output, h'.size, T1, T2, hd', m1, m2, .inr ⟨w.heap.size, 0, nc, row, rfl, by omega, by omega, hA1, ?_, ?_⟩, stars_tail hA2⟩
        · simp only [row, List.length_append, Array.length_toList, mod_arr_len, List.size_toArray, hcl, hdl, hzz]
          rw [Nat.zero_add, ← Nat.add_mul, ← Nat.add_mul]
          exact Nat.mul_le_mul_right _ (by omega)
        · rw [List.drop_zero]
          simp only [row]
          rw [List.take_append_of_le_length (by simp [hcl, hdl, Nat.add_mul]), List.take_of_length_le (by simp [hcl, hdl, Nat.add_mul])]
theorem notInt_sl {T E z y : Nat} (h : slOf P T = some (E, z, y)) : ∃ d, P.underlying T = some d ∧ ∀ q, d ≠ .int q := by
  unfold slOf at h
  split at h
  case h_2 => cases h
  case h_1 e hu => exact ⟨_, hu, by simp⟩
theorem h_append0 {T T2 E z y n k : Nat} {x xv : Operand} {u v : Value} {cs ds zs : List Value} {R : List HP} {K : Value → List HP → Prop} (hs : slOf P T = some (E, z, y)) (h2 : ∃ d, P.underlying T2 = some d ∧ ∀ q, d ≠ .int q) (hz : zeroOf P E = some zs) (hzz : zs.length = z)
    (hx : ev Γ x = some u) (hv : ev Γ xv = some v) (p1 : Pick L (Own E z u n cs) R) (hr : ∀ w, Sat g L w → (Builtin.lenOf v).run P w = .ok k w ∧ (Builtin.firstCells z k v).run P w = .ok ds.toArray w)
    (hdl : ds.length = k * z) (h1 : ones ds = true) (hz0 : 0 < z) (hb : n + k ≤ 68719476736) (hy : y ≤ 512) (hK : ∀ u', K u' (Own E z u' (n + k) (cs ++ ds) :: R)) : HO P r g ⟨dst, .call ⟨.builtin .append, #[x, xv], #[T, T2]⟩, t, pos, aft, gd⟩ Γ L K :=
  HO.run (by simp) fun a w ha hw => by
    obtain ⟨u', w', hrun, hw'⟩ := run_append (t := t) hs h2 hz hzz hw p1 (hr w hw).1 (fun d => (hr _ (hw.draw d)).2) hdl h1 hz0 hb hy
    refine ⟨u', _, w', ?_, hK u', hw'⟩
    have hm : (#[x, xv] : Array Operand).map a.eval = #[u, v] := by simp [ev_ok hx ha, ev_ok hv ha]
    show (do let d ← resolve a.eval ⟨.builtin .append, #[x, xv], #[T, T2]⟩ t; invoke d.target d.args : Sem Next).run P w = _
    simp only [resolve, hm, Sem.run_bind, Sem.run_pure, Result.andThen_ok, invoke, builtin, hrun]
theorem own_shape {E z n : Nat} {u : Value} {cs : List Value} {S : Piece} (h : Own E z u n cs S) : ∃ a m c, u = .slice a m c := by
  rcases h with ⟨rfl, _, a, rfl⟩ | ⟨b, o, c, l, rfl, _⟩ <;> exact ⟨_, _, _, rfl⟩
theorem HO.sat {o : Oper} {K0 K : Value → List HP → Prop} (h : HO P r g o Γ L K0) (hk : ∀ v M w, K0 v M → Sat g M w → K v M) : HO P r g o Γ L K :=
  fun a w Q next ha hw hn => h a w Q next ha hw fun v M w' hk0 hw' => hn v M w' (hk v M w' hk0 hw') hw'
/-- A result that is an owned slice: its form. -/
theorem HO.shape {o : Oper} {K : Value → List HP → Prop} {E z n : Nat} {cs : List Value} {R : List HP} (h : ∀ K0 : Value → List HP → Prop, (∀ u, K0 u (Own E z u n cs :: R)) → HO P r g o Γ L K0) (hK : ∀ a m c, K (.slice a m c) (Own E z (.slice a m c) n cs :: R)) : HO P r g o Γ L K :=
  HO.sat (h (fun v M => M = Own E z v n cs :: R) fun _ => rfl) fun v M w hM hw => by
    subst hM
    obtain ⟨S1, S2, _, _, _, h1, _⟩ := hw.heap
    obtain ⟨a, m, c, rfl⟩ := own_shape h1
    exact hK a m c
theorem h_append {T T2 E z y n k : Nat} {x xv : Operand} {u v : Value} {cs ds zs : List Value} {R : List HP} {K : Value → List HP → Prop} (hs : slOf P T = some (E, z, y)) (h2 : ∃ d, P.underlying T2 = some d ∧ ∀ q, d ≠ .int q) (hz : zeroOf P E = some zs) (hzz : zs.length = z)
    (hx : ev Γ x = some u) (hv : ev Γ xv = some v) (p1 : Pick L (Own E z u n cs) R) (hr : ∀ w, Sat g L w → (Builtin.lenOf v).run P w = .ok k w ∧ (Builtin.firstCells z k v).run P w = .ok ds.toArray w)
    (hdl : ds.length = k * z) (h1 : ones ds = true) (hz0 : 0 < z) (hb : n + k ≤ 68719476736) (hy : y ≤ 512) (hK : ∀ a m c, K (.slice a m c) (Own E z (.slice a m c) (n + k) (cs ++ ds) :: R)) : HO P r g ⟨dst, .call ⟨.builtin .append, #[x, xv], #[T, T2]⟩, t, pos, aft, gd⟩ Γ L K :=
  HO.shape (fun _ h0 => h_append0 hs h2 hz hzz hx hv p1 hr hdl h1 hz0 hb hy h0) hK
section lists
variable {α : Type} {T E z y : Nat} {x xv : Operand} {enc : α → List Value} {u v : Value} {xs ys : List α} {zs : List Value} {R : List HP} {K : Value → List HP → Prop}
theorem ones_append : ∀ {l m : List Value}, ones l = true → ones m = true → ones (l ++ m) = true
  | [], _, _, h => h
  | v :: l, m, h, h' => by
    simp only [ones, Bool.and_eq_true, List.cons_append] at h ⊢
    exact ⟨h.1, ones_append h.2 h'⟩
theorem ones_flat (he : EncOk z enc) : ∀ (l : List α), ones (l.flatMap enc) = true
  | [] => rfl
  | a :: l => by rw [List.flatMap_cons]; exact ones_append (he.one a) (ones_flat he l)
/-- append of a slice that is read. -/
theorem hl_append {B : HP} {N : List HP} (hs : slOf P T = some (E, z, y)) (he : EncOk z enc) (hz : zeroOf P E = some zs) (hB : RL B z enc v ys) (hb : xs.length + ys.length ≤ 68719476736) (hK : ∀ a m c, K (.slice a m c) (Sl E z enc (.slice a m c) (xs ++ ys) :: R)) (hzz : zs.length = z := by rfl) (hz0 : 0 < z := by decide) (hy : y ≤ 512 := by decide)
    (hx : ev Γ x = some u := by rfl) (hv : ev Γ xv = some v := by rfl) (p1 : Pick L (Sl E z enc u xs) R := by repeat first | exact .z | apply Pick.s) (p2 : Pick L B N := by repeat first | exact .z | apply Pick.s) : HO P r g ⟨dst, .call ⟨.builtin .append, #[x, xv], #[T, T]⟩, t, pos, aft, gd⟩ Γ L K := by
  refine h_append (ds := ys.flatMap enc) hs (notInt_sl hs) hz hzz hx hv p1 (fun w hw => (hw.rd p2 hB).read) (flat_len he ys) (ones_flat he ys) hz0 hb hy fun a m c => ?_
  have := hK a m c
  unfold Sl at this
  rwa [List.length_append, List.flatMap_append] at this
end lists
theorem rep_get (zs : List Value) {z : Nat} (h : zs.length = z) (h0 : 0 < z) : ∀ (n i : Nat), i < n * z → ((List.replicate n zs).flatten)[i]? = zs[i % z]?
  | 0, i, hi => by simp at hi
  | n + 1, i, hi => by
    rw [List.replicate_succ, List.flatten_cons]
    by_cases h1 : i < z
    · rw [List.getElem?_append_left (by omega), Nat.mod_eq_of_lt h1]
    · rw [List.getElem?_append_right (by omega), h, rep_get zs h h0 n (i - z) (by rw [Nat.add_mul] at hi; omega), ← Nat.mod_eq_sub_mod (by omega)]
theorem zeroCells_eq {zs : List Value} {n : Nat} : (Builtin.zeroCells zs.toArray n).toList = (List.replicate n zs).flatten := by
  rcases Nat.eq_zero_or_pos zs.length with h | h
  · have : zs = [] := by simpa using h
    subst this; simp [Builtin.zeroCells]
  · apply List.ext_getElem?
    intro i
    simp only [Builtin.zeroCells, List.size_toArray, Array.toList_map, List.getElem?_map, Array.toList_range]
    by_cases hi : i < n * zs.length
    · rw [List.getElem?_range hi, rep_get zs rfl h n i hi]
      simp [Nat.mod_lt _ h]
    · rw [List.getElem?_eq_none (by simp; omega), List.getElem?_eq_none (by simp; omega)]; rfl
/-! ### make, literals -/
theorem h_make0 {T E z y n c : Nat} {xl xc : Operand} {k k' : IntKind} {zs : List Value} {K : Value → List HP → Prop} (hs : slOf P T = some (E, z, y)) (hz : zeroOf P E = some zs) (hzz : zs.length = z) (hl : ev Γ xl = some (.int k n)) (hc : ev Γ xc = some (.int k' c)) (hn : n ≤ c) (hb : c ≤ 68719476736) (hy : y ≤ 512)
    (hK : ∀ u, K u (Own E z u n (List.replicate n zs).flatten :: L)) : HO P r g ⟨dst, .makeSlice T xl xc, t, pos, aft, gd⟩ Γ L K :=
  HO.run (by simp) fun a w ha hw => by
    unfold slOf at hs
    split at hs
    case h_2 => cases hs
    case h_1 hu =>
    simp only [Option.map_eq_some_iff] at hs
    obtain ⟨inf, hinf, hs⟩ := hs
    cases hs
    have hsz : szOf P E = some inf.size := by simp [szOf, hinf]
    unfold zeroOf at hz
    cases hzi : (P.info? E).bind (·.zero) with
    | none => rw [hzi] at hz; cases hz
    | some zv =>
    rw [hzi] at hz
    simp at hz
    have hz' : zv.cells = zs.toArray := by rw [← hz]
    have hmul : inf.bytes * c ≤ 512 * 68719476736 := Nat.mul_le_mul hy hb
    have w1 : IntKind.i64.wrap (n : Int) = n := IntWalk.i64_in _ (by omega)
    have w2 : IntKind.i64.wrap (c : Int) = c := IntWalk.i64_in _ (by omega)
    let row : Array Value := (Array.range (c * inf.size)).map (zs.toArray[· % zs.toArray.size]!)
    refine ⟨.slice (some ⟨w.heap.size, 0, none⟩) n c, _, w.alloc (.cells row E (0, 0)), ?_, hK _, ?_⟩
    · have e1 : ¬ ((281474976710656 : Int) < (inf.bytes : Int) * c) := by
        have h5 : ((inf.bytes * c : Nat) : Int) ≤ 35184372088832 := by omega
        rw [Int.natCast_mul] at h5; omega
      simp only [execOp, Instr.makeSlice, Sem.run_bind, run_underlying hu, ev_ok hl ha, ev_ok hc ha, asInt, asIntOf, Sem.run_pure, Result.andThen_ok, run_typeInfo hinf, w1, w2]
      by_cases h0 : c * inf.size = 0
      · have h0' : row = #[] := by simp only [row, h0]; simp
        simp [e1, h0, h0', newRow, run_sizeOf hsz, show ¬ (n : Int) < 0 by omega, show ¬ (c : Int) < 0 by omega, show ¬ (c : Int) < n by omega]
        congr 2; simp
      · simp [e1, h0, row, newRow, run_sizeOf hsz, hz', run_zeroValue hzi, show ¬ (n : Int) < 0 by omega, show ¬ (c : Int) < 0 by omega, show ¬ (c : Int) < n by omega]
    · have h' := hw.push (.cells row E (0, 0))
      obtain ⟨T1, T2, hd', m1, m2, hA1, hA2⟩ := h'.heap
      have hrow : row.size = c * inf.size := by simp [row]
      refine ⟨h'.os, h'.tape, h'.output, h'.size, T1, T2, hd', m1, m2, .inr ⟨w.heap.size, 0, c, row.toList, rfl, hn, by omega, by rw [hA1], by simp [hrow], ?_⟩, hA2⟩
      rw [List.drop_zero]
      have hnc : n * inf.size ≤ c * inf.size := Nat.mul_le_mul_right _ hn
      apply List.ext_getElem?
      intro i
      rw [List.getElem?_take]
      by_cases hi : i < n * inf.size
      · rw [if_pos hi]
        have hz0 : 0 < inf.size := by
          rcases Nat.eq_zero_or_pos inf.size with h | h
          · rw [h, Nat.mul_zero] at hi; omega
          · exact h
        have hmod : i % inf.size < zs.length := by rw [hzz]; exact Nat.mod_lt _ hz0
        have e1 : row.toList[i]? = zs[i % inf.size]? := by
          simp only [row, Array.toList_map, List.getElem?_map, List.size_toArray, hzz]
          rw [show (Array.range (c * inf.size)).toList = List.range (c * inf.size) by simp, List.getElem?_range (by omega)]
          simp [hmod]
        rw [e1]
        exact (rep_get zs hzz hz0 n i hi)
      · rw [if_neg hi, List.getElem?_eq_none (by simp [hzz]; omega)]
theorem h_make {T E z y n c : Nat} {xl xc : Operand} {k k' : IntKind} {zs : List Value} {K : Value → List HP → Prop} (hs : slOf P T = some (E, z, y)) (hz : zeroOf P E = some zs) (hzz : zs.length = z) (hl : ev Γ xl = some (.int k n)) (hc : ev Γ xc = some (.int k' c)) (hn : n ≤ c) (hb : c ≤ 68719476736) (hy : y ≤ 512)
    (hK : ∀ a m c', K (.slice a m c') (Own E z (.slice a m c') n (List.replicate n zs).flatten :: L)) : HO P r g ⟨dst, .makeSlice T xl xc, t, pos, aft, gd⟩ Γ L K :=
  HO.shape (fun _ h0 => h_make0 hs hz hzz hl hc hn hb hy h0) hK
theorem h_bs {T E z y m : Nat} {ps : List (Nat × Operand)} {zs cs : List Value} {vs : List (Nat × Value)} {K : Value → List HP → Prop} (hs : slOf P T = some (E, z, y)) (hz : zeroOf P E = some zs) (_ : Tm Γ cs) (hK : ∀ b, K (.slice (some ⟨b, 0, none⟩) m m) (cl b E cs :: L))
    (hm : Nat.ble (m * z) 10000 = true := by rfl) (hv : evps Γ ps = some vs := by rfl) (hc : Instr.fill (fun i => some (i * z, z)) (List.replicate m zs).flatten.toArray vs = some cs.toArray := by rfl) (hzz : zs.length = z := by rfl) (hm0 : Nat.beq (m * z) 0 = false := by rfl) :
    HO P r g ⟨dst, .buildSlice T m ps.toArray, t, pos, aft, gd⟩ Γ L K :=
  HO.run (by simp) fun a w ha hw => by
    have hc : Instr.fill (fun i => some (i * z, z)) ((Array.range (m * z)).map (zs.toArray[· % zs.toArray.size]!)) vs = some cs.toArray := by
      rw [← hc]; subst hzz; congr 1; apply Array.ext'; rw [List.toList_toArray, ← zeroCells_eq]; simp [Builtin.zeroCells]
    unfold slOf at hs
    split at hs
    case h_2 => cases hs
    case h_1 hu =>
    simp only [Option.map_eq_some_iff] at hs
    obtain ⟨inf, hinf, hs⟩ := hs
    cases hs
    have hsz : szOf P E = some inf.size := by simp [szOf, hinf]
    have h1 : (ps.toArray.map fun (i, x) => (i, a.eval x)) = vs.toArray := by
      rw [← evps_map hv (fun x u _ hx => ev_ok hx ha)]; simp
    unfold zeroOf at hz
    cases hzi : (P.info? E).bind (·.zero) with
    | none => rw [hzi] at hz; cases hz
    | some zv =>
    rw [hzi] at hz
    simp at hz
    have hz' : zv.cells = zs.toArray := by rw [← hz]
    have hle : m * inf.size ≤ 10000 := by simpa using hm
    have h0 : m * inf.size ≠ 0 := fun e => by rw [e] at hm0; simp at hm0
    refine ⟨_, _, w.alloc (.cells cs.toArray E (0, 0)), ?_, hK w.heap.size, hw.push (.cells cs.toArray E (0, 0))⟩
    simp only [execOp, Instr.buildSlice, Sem.run_bind, run_underlying hu, Result.andThen_ok, run_sizeOf hsz, h1]
    rw [if_neg (by omega)]
    simp only [h0, if_false, Sem.run_bind, run_zeroValue hzi, Result.andThen_ok, hz', Sem.run_pure, hc]
    simp [newRow]
theorem lit_rl {α : Type} {z b : Nat} {E : TypeId} {enc : α → List Value} (he : EncOk z enc) {l : List Value} (xs : List α) {n : Nat} (h : xs.flatMap enc = l) (hn : xs.length = n := by rfl) : RL (cl b E l) z enc (.slice (some ⟨b, 0, none⟩) n n) xs := by
  subst hn
  refine cl_rd (Nat.le_refl _) ?_ ?_
  · rw [← h, flat_len he, Nat.zero_add]; exact Nat.le_refl _
  · rw [← h, List.drop_zero, List.take_of_length_le (by rw [flat_len he]; exact Nat.le_refl _)]
end
end Go.SL
/- The steps of the walk: maps. -/
set_option linter.unusedSimpArgs false
set_option linter.unusedVariables false
set_option linter.unusedSectionVars false
namespace Go.SL
open Go
section model
variable {κ : Type} [DecidableEq κ]
def midx (kvs : List (κ × Value)) (k : κ) : Option Nat := kvs.findIdx? (fun p => decide (p.1 = k))
def mget (kvs : List (κ × Value)) (k : κ) : Option Value := (kvs.find? (fun p => decide (p.1 = k))).map (·.2)
def mset (kvs : List (κ × Value)) (k : κ) (v : Value) : List (κ × Value) := match midx kvs k with
  | some i => kvs.set i (k, v)
  | none => kvs ++ [(k, v)]
def mdel (kvs : List (κ × Value)) (k : κ) : List (κ × Value) := match midx kvs k with
  | some i => kvs.eraseIdx i
  | none => kvs
end model
/-- A kind of keys. -/
structure KeyOk {κ : Type} [DecidableEq κ] (P : Program) (T : TypeId) (d : TypeDesc) (ek : κ → Value) : Prop where
  und : P.underlying T = some d
  plain : ∀ k e n w, (Instr.checkKey e (n + 1) T (ek k)).run P w = .ok () w
  same : ∀ a b, Instr.sameNow d (ek a) (ek b) = some (decide (a = b))
  bits : ∀ a n, Instr.sameBits (n + 1) (ek a) (ek a) = true
def ents {κ : Type} (ek : κ → Value) (es : List MapEntry) (kvs : List (κ × Value)) : Prop := es.map (fun e => (e.key, e.val)) = kvs.map (fun p => (ek p.1, p.2))
def Mp {κ : Type} (ek : κ → Value) (m : Value) (kvs : List (κ × Value)) : HP := fun S =>
  ∃ b es clock, m = .map (some b) ∧ S b = some (.map (List.toArray es) clock) ∧ ents ek es kvs ∧ (es.map (·.born)).Pairwise (· < ·) ∧ ∀ e ∈ es, e.born < clock
section
variable {P : Program} {κ : Type} [DecidableEq κ] {T : TypeId} {d : TypeDesc} {ek : κ → Value}
theorem ents_cons {e : MapEntry} {es : List MapEntry} {kvs : List (κ × Value)} (h : ents ek (e :: es) kvs) : ∃ p kvs', kvs = p :: kvs' ∧ e.key = ek p.1 ∧ e.val = p.2 ∧ ents ek es kvs' := by
  cases kvs with
  | nil => simp [ents] at h
  | cons p kvs =>
    simp only [ents, List.map_cons, List.cons.injEq, Prod.mk.injEq] at h
    exact ⟨p, kvs, rfl, h.1.1, h.1.2, h.2⟩
theorem find_now (hk : KeyOk P T d ek) (k : κ) : ∀ (es : List MapEntry) (kvs : List (κ × Value)) (i : Nat), ents ek es kvs →
    Instr.findNow d (ek k) es i = some (match midx kvs k with | some j => (mget kvs k).map fun v => (i + j, v) | none => none)
  | [], kvs, i, h => by
    have : kvs = [] := by cases kvs with
      | nil => rfl
      | cons p l => simp [ents] at h
    subst this; rfl
  | e :: es, kvs, i, h => by
    obtain ⟨p, kvs', rfl, h1, h2, h3⟩ := ents_cons h
    simp only [Instr.findNow, h1, hk.same]
    by_cases e' : k = p.1
    · subst e'
      simp [midx, mget, h2, List.findIdx?_cons]
    · have e2 : ¬ p.1 = k := fun x => e' x.symm
      simp only [e', decide_false]
      rw [find_now hk k es kvs' (i + 1) h3]
      simp only [midx, mget, List.findIdx?_cons, List.find?_cons, e2, decide_false]
      simp only [Bool.false_eq_true, if_false]
      cases kvs'.findIdx? (fun p => decide (p.1 = k)) with
      | none => rfl
      | some j => simp [Nat.add_assoc, Nat.add_comm 1 j]
theorem midx_none {kvs : List (κ × Value)} {k : κ} : midx kvs k = none ↔ mget kvs k = none := by
  simp [midx, mget, List.findIdx?_eq_none_iff]
theorem midx_some {kvs : List (κ × Value)} {k : κ} {j : Nat} (h : midx kvs k = some j) : ∃ v, kvs[j]? = some (k, v) ∧ mget kvs k = some v := by
  induction kvs generalizing j with
  | nil => simp [midx] at h
  | cons p kvs ih =>
    simp only [midx, List.findIdx?_cons] at h
    by_cases e : p.1 = k
    · simp [e] at h; subst h; subst e
      exact ⟨p.2, rfl, by simp [mget]⟩
    · simp only [e, decide_false, Bool.false_eq_true, if_false, Option.map_eq_some_iff] at h
      obtain ⟨i, hi, rfl⟩ := h
      obtain ⟨v, h1, h2⟩ := ih hi
      exact ⟨v, by simpa using h1, by simpa [mget, List.find?_cons, e] using h2⟩
theorem find_now' (hk : KeyOk P T d ek) (k : κ) {es : List MapEntry} {kvs : List (κ × Value)} (h : ents ek es kvs) : Instr.findNow d (ek k) es 0 = some ((midx kvs k).bind fun j => (mget kvs k).map fun v => (j, v)) := by
  rw [find_now hk k es kvs 0 h]
  cases midx kvs k <;> simp
theorem run_checkKey (hk : KeyOk P T d ek) (e : Bool) (k : κ) (w : World) : (Instr.checkKey e 10000 T (ek k)).run P w = .ok () w := hk.plain k e 9999 w
theorem run_findKey (hk : KeyOk P T d ek) (k : κ) {es : List MapEntry} {kvs : List (κ × Value)} (h : ents ek es kvs) (w : World) : (Instr.findKey T (ek k) es).run P w = .ok ((midx kvs k).bind fun j => (mget kvs k).map fun v => (j, v)) w := by
  unfold Instr.findKey
  rw [Sem.run_bind, run_underlying hk.und]
  simp only [Result.andThen_ok, find_now' hk k h]; rfl
end
section
variable {P : Program} {r : Option Nat} {g : World} {Γ : Env} {L M : List HP} {dst : Option Tmp} {t : TypeId} {pos : String} {aft : Array Edge} {gd : Option (Nat × Bool)}
variable {κ : Type} [DecidableEq κ] {kt : TypeId} {d : TypeDesc} {ek : κ → Value} {kvs : List (κ × Value)} {m : Value}
theorem run_getObj {w : World} {b : Nat} {o : Obj} (h : w.heap[b]? = some o) (ho : ∀ c t f, o ≠ .cells c t f) : (getObj b).run P w = .ok o w := by
  cases o <;> simp [getObj, Sem.run, h]
  exact ho _ _ _ rfl
theorem Sat.mp {w : World} (h : Sat g L w) (hp : Pick L (Mp ek m kvs) M) : ∃ b es clock, m = .map (some b) ∧ w.heap[b]? = some (.map (List.toArray es) clock) ∧ ents ek es kvs ∧ (es.map (·.born)).Pairwise (· < ·) ∧ ∀ e ∈ es, e.born < clock := by
  obtain ⟨S1, S2, _, h1, _, ⟨b, es, clock, e1, e2, e3, e4, e5⟩, _⟩ := hp.to h.heap
  exact ⟨b, es, clock, e1, h1 _ _ e2, e3, e4, e5⟩
theorem ents_len {es : List MapEntry} (h : ents ek es kvs) : es.length = kvs.length := by
  have := congrArg List.length h
  simpa using this
theorem e_len_map {x : Operand} {T : TypeId} {e : TypeId} (ht : P.underlying T = some (.map kt e)) (hx : ev Γ x = some m := by rfl) (hp : Pick L (Mp ek m kvs) M := by repeat first | exact .z | apply Pick.s) : EO P g ⟨dst, .call ⟨.builtin .len, #[x], #[T]⟩, t, pos, aft, gd⟩ Γ L (.int .i64 kvs.length) :=
  e_call_b (args := [x]) (vs := [m]) (by simp [evs, hx]) fun w cs hw => by
    obtain ⟨b, es, clock, rfl, hb, h3, _⟩ := hw.mp hp
    simp [builtin, Builtin.len_, run_underlying ht, run_getObj hb, goInt, ents_len h3]
theorem e_lookup {x i : Operand} {T e : TypeId} {k : κ} {z : Value} (ht : P.underlying T = some (.map kt e)) (hk : KeyOk P kt d ek) (hz : (P.info? e).bind (·.zero) = some z) (hx : ev Γ x = some m := by rfl) (hi : ev Γ i = some (ek k) := by rfl) (hp : Pick L (Mp ek m kvs) M := by repeat first | exact .z | apply Pick.s) :
    EO P g ⟨dst, .lookup T x i false, t, pos, aft, gd⟩ Γ L ((mget kvs k).getD z) :=
  .of (by simp) fun ρ hρ w hw => by
    obtain ⟨b, es, clock, rfl, hb, h3, _⟩ := hw.mp hp
    simp only [execOp, hρ x _ (by simp [Op.operands]) hx, hρ i _ (by simp [Op.operands]) hi, Instr.lookup, Sem.run_bind, run_underlying ht, Result.andThen_ok, run_getObj hb (by simp), Sem.run_pure, run_checkKey hk, run_findKey hk k h3]
    cases hm : midx kvs k with
    | none => simp [midx_none.1 hm, run_zeroValue hz]
    | some j => obtain ⟨v, _, h2⟩ := midx_some hm; simp [h2]
theorem run_setObj {w : World} {b : Nat} {o o' : Obj} (h : w.heap[b]? = some o) (ho : ∀ c t f, o ≠ .cells c t f) : (setObj b o').run P w = .ok () { w with heap := w.heap.setIfInBounds b o' } := by
  cases o <;> simp [setObj, Sem.run, h]
  exact ho _ _ _ rfl
theorem Sat.setObj {w : World} {b : Nat} {o o' : Obj} {B : HP} {S1 S2 : Piece} {R : List HP} (h : Sat g L w) (hd : disj S1 S2) (l1 : le S1 (heapOf w)) (l2 : le S2 (heapOf w)) (hb : S1 b = some o) (hR : stars R S2) (hB : ∀ S, S b = some o' → (∀ i, i ≠ b → S i = S1 i) → B S) : Sat g (B :: R) { w with heap := w.heap.setIfInBounds b o' } := by
  have hlt : b < w.heap.size := by
    have := l1 _ _ hb
    rcases Nat.lt_or_ge b w.heap.size with h' | h'
    · exact h'
    · simp [heapOf, Array.getElem?_eq_none h'] at this
  have hS2 : S2 b = none := by
    rcases hd b with h0 | h0
    · rw [hb] at h0; cases h0
    · exact h0
  refine ⟨h.os, h.tape, h.output, by simpa using h.size, fun i => if i = b then some o' else S1 i, S2, fun i => ?_, fun i x hx => ?_, fun i x hx => ?_, hB _ (by simp) (fun i hi => by simp [hi]), hR⟩
  · by_cases hi : i = b
    · subst hi; exact .inr hS2
    · simp only [hi, if_false]; exact hd i
  · by_cases hi : i = b
    · subst hi; simp at hx; subst hx; simp [heapOf, hlt]
    · simp only [hi, if_false] at hx
      have := l1 _ _ hx
      simpa [heapOf, Array.getElem?_setIfInBounds_ne (Ne.symm hi)] using this
  · have hi : i ≠ b := fun e => by subst e; rw [hS2] at hx; cases hx
    have := l2 _ _ hx
    simpa [heapOf, Array.getElem?_setIfInBounds_ne (Ne.symm hi)] using this
theorem ents_set {es : List MapEntry} {j : Nat} {k : κ} {v : Value} (h : ents ek es kvs) : ents ek (es.modify j fun e => { e with key := ek k, val := v }) (kvs.set j (k, v)) := by
  unfold ents at *
  apply List.ext_getElem?
  intro i
  have hi := congrArg (·[i]?) h
  simp only [List.getElem?_map, List.getElem?_modify, List.getElem?_set] at hi ⊢
  have hl : es.length = kvs.length := by simpa using congrArg List.length h
  by_cases e : j = i
  · subst e
    simp only [if_true]
    rcases Nat.lt_or_ge j es.length with h' | h'
    · rw [List.getElem?_eq_getElem h', if_pos (by omega)]; rfl
    · rw [List.getElem?_eq_none h', if_neg (by omega)]; rfl
  · simp only [e, if_false]; simpa using hi
theorem h_mapUpdate {x i v : Operand} {T e : TypeId} {k : κ} {u : Value} {N : List HP} {K : Value → List HP → Prop} (ht : P.underlying T = some (.map kt e)) (hk : KeyOk P kt d ek) (hK : K (.tuple #[]) N) (hx : ev Γ x = some m := by rfl) (hi : ev Γ i = some (ek k) := by rfl) (hv : ev Γ v = some u := by rfl)
    (hp : Put L (Mp ek m kvs) (Mp ek m (mset kvs k u)) N := by repeat first | exact .z | apply Put.s) : HO P r g ⟨dst, .mapUpdate T x i v, t, pos, aft, gd⟩ Γ L K :=
  HO.run_skip (by simp) fun a w ha hw => by
    obtain ⟨R, p1, p2⟩ := hp.picks
    obtain ⟨S1, S2, hd, l1, l2, ⟨b, es, clock, rfl, hb, h3, h4, h5⟩, hR⟩ := p1.to hw.heap
    have hb' := l1 _ _ hb
    cases hm : midx kvs k with
    | none =>
      refine ⟨N, { w with heap := w.heap.setIfInBounds b (.map (es ++ [({ key := ek k, val := u, born := clock } : MapEntry)]).toArray (clock + 1)) }, ?_, hK, ?_⟩
      · simp only [execOp, ev_ok hx ha, ev_ok hi ha, ev_ok hv ha, Instr.mapUpdate, Sem.run_bind, run_underlying ht, Result.andThen_ok, run_getObj hb' (by simp), run_checkKey hk, run_findKey hk k h3, hm, Option.bind_none]
        simp [run_setObj hb']
      · refine (Sat.setObj (B := Mp ek (.map (some b)) (mset kvs k u)) hw hd l1 l2 hb hR fun S hS _ => ⟨b, _, _, rfl, hS, ?_, ?_, ?_⟩).conv fun _ => p2.back
        · simp only [mset, hm]; unfold ents at *; simp [h3]
        · rw [List.map_append, List.pairwise_append]
          refine ⟨h4, by simp, fun a ha b hb => ?_⟩
          simp at hb; subst hb
          simp at ha; obtain ⟨e, he, rfl⟩ := ha; exact h5 e he
        · intro e he
          simp at he
          rcases he with he | rfl
          · have := h5 e he; omega
          · simp
    | some j =>
      obtain ⟨v', hj, hg⟩ := midx_some hm
      have hl : es.length = kvs.length := ents_len h3
      have hjl : j < es.length := by
        rcases Nat.lt_or_ge j kvs.length with h' | h'
        · omega
        · rw [List.getElem?_eq_none h'] at hj; cases hj
      have hkey : ((es.toArray[j]?).map (·.key)).getD (ek k) = ek k := by
        have := congrArg (·[j]?) h3
        simp only [List.getElem?_map, hj, List.getElem?_eq_getElem hjl] at this
        simp at this
        simp [List.getElem?_eq_getElem hjl, this.1]
      refine ⟨N, { w with heap := w.heap.setIfInBounds b (.map (es.modify j fun e => { e with key := ek k, val := u }).toArray clock) }, ?_, hK, ?_⟩
      · simp only [execOp, ev_ok hx ha, ev_ok hi ha, ev_ok hv ha, Instr.mapUpdate, Sem.run_bind, run_underlying ht, Result.andThen_ok, run_getObj hb' (by simp), run_checkKey hk, run_findKey hk k h3, hm, Option.bind_some, hg, Option.map_some, hkey]
        simp only [Instr.keyThatStays, hk.bits k 9999, if_true, Sem.run_pure, Result.andThen_ok, run_setObj hb' (by simp)]
        simp
      · refine (Sat.setObj (B := Mp ek (.map (some b)) (mset kvs k u)) hw hd l1 l2 hb hR fun S hS _ => ⟨b, _, _, rfl, hS, ?_, ?_, ?_⟩).conv fun _ => p2.back
        · simp only [mset, hm]; exact ents_set h3
        · have : (es.modify j fun e => { e with key := ek k, val := u }).map (·.born) = es.map (·.born) := by
            apply List.ext_getElem?
            intro i
            simp only [List.getElem?_map, List.getElem?_modify]
            by_cases e : j = i
            · subst e; cases es[j]? <;> simp
            · simp [e]
          rw [this]; exact h4
        · intro e he
          obtain ⟨i, hi', rfl⟩ := List.getElem_of_mem he
          simp only [List.length_modify] at hi'
          have : (es.modify j fun e => { e with key := ek k, val := u })[i].born = es[i].born := by
            rw [List.getElem_modify]; split <;> rfl
          rw [this]; exact h5 _ (List.getElem_mem hi')
theorem map_eraseIdx {α β : Type} (f : α → β) : ∀ (l : List α) (j : Nat), (l.eraseIdx j).map f = (l.map f).eraseIdx j
  | [], _ => rfl
  | _ :: _, 0 => rfl
  | a :: l, j + 1 => by simp only [List.eraseIdx_cons_succ, List.map_cons]; rw [map_eraseIdx f l j]
theorem h_delete {x i : Operand} {T T2 e : TypeId} {k : κ} {N : List HP} {K : Value → List HP → Prop} (ht : P.underlying T = some (.map kt e)) (hk : KeyOk P kt d ek) (hK : K (.tuple #[]) N) (hx : ev Γ x = some m := by rfl) (hi : ev Γ i = some (ek k) := by rfl)
    (hp : Put L (Mp ek m kvs) (Mp ek m (mdel kvs k)) N := by repeat first | exact .z | apply Put.s) : HO P r g ⟨dst, .call ⟨.builtin .delete, #[x, i], #[T, T2]⟩, t, pos, aft, gd⟩ Γ L K :=
  HO.run (by simp) fun a w ha hw => by
    obtain ⟨R, p1, p2⟩ := hp.picks
    obtain ⟨S1, S2, hd, l1, l2, ⟨b, es, clock, rfl, hb, h3, h4, h5⟩, hR⟩ := p1.to hw.heap
    have hb' := l1 _ _ hb
    have hmm : (#[x, i] : Array Operand).map a.eval = #[.map (some b), ek k] := by simp [ev_ok hx ha, ev_ok hi ha]
    cases hm : midx kvs k with
    | none =>
      refine ⟨.tuple #[], N, { w with heap := w.heap.setIfInBounds b (.map es.toArray clock) }, ?_, hK, ?_⟩
      · show (do let d ← resolve a.eval ⟨.builtin .delete, #[x, i], #[T, T2]⟩ t; invoke d.target d.args : Sem Next).run P w = _
        simp only [resolve, hmm, Sem.run_bind, Sem.run_pure, Result.andThen_ok, invoke, builtin, Builtin.delete_, List.getElem?_toArray, List.getElem?_cons_zero, List.getElem?_cons_succ, run_underlying ht, run_getObj hb' (by simp), run_checkKey hk, run_findKey hk k h3, hm, Option.bind_none, run_setObj hb' (by simp)]
      · refine (Sat.setObj (B := Mp ek (.map (some b)) (mdel kvs k)) hw hd l1 l2 hb hR fun S hS _ => ⟨b, es, clock, rfl, hS, ?_, h4, h5⟩).conv fun _ => p2.back
        simp only [mdel, hm]; exact h3
    | some j =>
      obtain ⟨v', hj, hg⟩ := midx_some hm
      have hl : es.length = kvs.length := ents_len h3
      have hjl : j < es.length := by
        rcases Nat.lt_or_ge j kvs.length with h' | h'
        · omega
        · rw [List.getElem?_eq_none h'] at hj; cases hj
      have harr : es.toArray.eraseIdxIfInBounds j = (es.eraseIdx j).toArray := by
        unfold Array.eraseIdxIfInBounds
        simp [hjl]
      refine ⟨.tuple #[], N, { w with heap := w.heap.setIfInBounds b (.map (es.eraseIdx j).toArray clock) }, ?_, hK, ?_⟩
      · show (do let d ← resolve a.eval ⟨.builtin .delete, #[x, i], #[T, T2]⟩ t; invoke d.target d.args : Sem Next).run P w = _
        simp only [resolve, hmm, Sem.run_bind, Sem.run_pure, Result.andThen_ok, invoke, builtin, Builtin.delete_, List.getElem?_toArray, List.getElem?_cons_zero, List.getElem?_cons_succ, run_underlying ht, run_getObj hb' (by simp), run_checkKey hk, run_findKey hk k h3, hm, Option.bind_some, hg, Option.map_some, run_setObj hb' (by simp), harr]
      · refine (Sat.setObj (B := Mp ek (.map (some b)) (mdel kvs k)) hw hd l1 l2 hb hR fun S hS _ => ⟨b, es.eraseIdx j, clock, rfl, hS, ?_, ?_, ?_⟩).conv fun _ => p2.back
        · simp only [mdel, hm]; unfold ents at *; rw [map_eraseIdx, map_eraseIdx, h3]
        · rw [map_eraseIdx]; exact h4.sublist (List.eraseIdx_sublist _ _)
        · exact fun e he => h5 e ((List.eraseIdx_sublist _ _).mem he)
theorem h_makeMap {T : TypeId} {K : Value → List HP → Prop} (hK : ∀ m, K m (Mp ek m ([] : List (κ × Value)) :: L)) : HO P r g ⟨dst, .makeMap T none, t, pos, aft, gd⟩ Γ L K :=
  HO.run (by simp) fun a w _ hw => by
    have h := hw.push (.map #[] 0)
    obtain ⟨T1, T2, hd', m1, m2, hA1, hA2⟩ := h.heap
    refine ⟨.map (some w.heap.size), _, w.alloc (.map #[] 0), by simp [execOp, Instr.makeMap], hK _, h.os, h.tape, h.output, h.size, T1, T2, hd', m1, m2, ⟨w.heap.size, [], 0, rfl, hA1, rfl, by simp, by simp⟩, hA2⟩
/-! kinds of keys -/
def eU32 (n : UInt32) : Value := .int .u32 n.toNat
theorem key_u32 {T : TypeId} (h : P.underlying T = some (.int .u32)) : KeyOk P T (.int .u32) eU32 where
  und := h
  plain := fun k e n w => by unfold Instr.checkKey; rw [Sem.run_bind, run_underlying h]; rfl
  same := fun a b => by simp [Instr.sameNow, eU32]; rw [Bool.eq_iff_iff]; simp [← UInt32.toNat_inj]; omega
  bits := fun a n => by simp [Instr.sameBits, eU32]
end
end Go.SL
/- The steps of the walk: a map is gone through. -/
set_option linter.unusedSimpArgs false
set_option linter.unusedVariables false
set_option linter.unusedSectionVars false
namespace Go.SL
open Go
/-- A map that is gone through: 'left' is to come yet, 'cur' has come last. -/
def MpIt {κ : Type} (ek : κ → Value) (m it : Value) (kvs left : List (κ × Value)) (cur : Option (κ × Value)) : HP := fun S =>
  ∃ b i es clock seen, m = .map (some b) ∧ it = .pointer (some ⟨i, 0, none⟩) ∧ b ≠ i ∧ S b = some (.map (List.toArray es) clock) ∧ S i = some (.mapIter (some b) clock seen clock) ∧
    ents ek es kvs ∧ (es.map (·.born)).Pairwise (· < ·) ∧ (∀ e ∈ es, e.born < clock) ∧ ents ek (es.filter fun e => !seen.contains e.born) left ∧
    (∀ p, cur = some p → ∃ e ∈ es, seen.back? = some e.born ∧ e.key = ek p.1 ∧ e.val = p.2)
section
variable {P : Program} {r : Option Nat} {g : World} {Γ : Env} {L M : List HP} {dst : Option Tmp} {t : TypeId} {pos : String} {aft : Array Edge} {gd : Option (Nat × Bool)}
variable {κ : Type} [DecidableEq κ] {kt : TypeId} {ek : κ → Value} {kvs : List (κ × Value)} {m : Value}
theorem h_range {x : Operand} {T e : TypeId} {R : List HP} {K : Value → List HP → Prop} (ht : P.underlying T = some (.map kt e)) (hK : ∀ it, K it (MpIt ek m it kvs kvs none :: R)) (hx : ev Γ x = some m := by rfl) (hp : Pick L (Mp ek m kvs) R := by repeat first | exact .z | apply Pick.s) : HO P r g ⟨dst, .range T x, t, pos, aft, gd⟩ Γ L K :=
  HO.run (by simp) fun a w ha hw => by
    obtain ⟨S1, S2, hd, l1, l2, ⟨b, es, clock, rfl, hb, h3, h4, h5⟩, hR⟩ := hp.to hw.heap
    have hb' := l1 _ _ hb
    have hbl : b < w.heap.size := by
      rcases Nat.lt_or_ge b w.heap.size with h' | h'
      · exact h'
      · simp [heapOf, Array.getElem?_eq_none h'] at hb'
    have h := hw.push (.mapIter (some b) clock #[] clock)
    refine ⟨.pointer (some ⟨w.heap.size, 0, none⟩), _, w.alloc (.mapIter (some b) clock #[] clock), ?_, hK _, h.os, h.tape, h.output, h.size, ?_⟩
    · simp only [execOp, ev_ok hx ha, Instr.range, Sem.run_bind, run_underlying ht, Result.andThen_ok, run_getObj hb' (by simp), Sem.run_pure]
      simp
    · refine ⟨fun i => if i = w.heap.size then some (.mapIter (some b) clock #[] clock) else S1 i, S2, fun i => ?_, fun i x hx => ?_, le_trans l2 (heapOf_push_le w _), ⟨b, w.heap.size, es, clock, #[], rfl, rfl, by omega, by simp [show b ≠ w.heap.size by omega, hb], by simp, h3, h4, h5, ?_, by simp⟩, hR⟩
      · by_cases hi : i = w.heap.size
        · right; cases hs : S2 i with
          | none => rfl
          | some y => have := l2 _ _ hs; subst hi; simp [heapOf] at this
        · simp only [hi, if_false]; exact hd i
      · by_cases hi : i = w.heap.size
        · subst hi; simp at hx; subst hx; show (w.heap.push _)[w.heap.size]? = _; simp
        · simp only [hi, if_false] at hx
          exact heapOf_push_le w _ _ _ (l1 _ _ hx)
      · have : (es.filter fun e => !(#[] : Array Nat).contains e.born) = es := by
          rw [List.filter_eq_self]; simp
        rw [this]; exact h3
theorem ents_split {es : List MapEntry} {left : List (κ × Value)} (h : ents ek es left) {j : Nat} (hj : j < es.length) : ∃ a p b, left = a ++ p :: b ∧ a.length = j ∧ es[j].key = ek p.1 ∧ es[j].val = p.2 := by
  have hl : es.length = left.length := ents_len h
  have hj' : j < left.length := by omega
  refine ⟨left.take j, left[j], left.drop (j + 1), ?_, by simp; omega, ?_⟩
  · rw [List.getElem_cons_drop, List.take_append_drop]
  · have := congrArg (·[j]?) h
    simp only [List.getElem?_map, List.getElem?_eq_getElem hj, List.getElem?_eq_getElem hj', Option.map_some, Option.some.injEq, Prod.mk.injEq] at this
    exact this
theorem Sat.setObj2 {w : World} {b : Nat} {o o' : Obj} {B : HP} {S1 S2 : Piece} {R : List HP} (h : Sat g L w) (hd : disj S1 S2) (l1 : le S1 (heapOf w)) (l2 : le S2 (heapOf w)) (hb : S1 b = some o) (hR : stars R S2) (n : Nat) (hB : ∀ S, S b = some o' → (∀ i, i ≠ b → S i = S1 i) → B S) : Sat g (B :: R) { w with heap := w.heap.setIfInBounds b o', drawn := n } :=
  (Sat.setObj h hd l1 l2 hb hR hB).draw n
theorem filter_erase {es : List MapEntry} (hp : (es.map (·.born)).Pairwise (· < ·)) (seen : Array Nat) {j : Nat} (hj : j < (es.filter fun e => !seen.contains e.born).length) :
    (es.filter fun e => !(seen.push (es.filter fun e => !seen.contains e.born)[j].born).contains e.born) = (es.filter fun e => !seen.contains e.born).eraseIdx j := by
  generalize hf : (es.filter fun e => !seen.contains e.born) = fs at hj
  have hps : (fs.map (·.born)).Pairwise (· < ·) := by
    rw [← hf]; exact hp.sublist ((List.filter_sublist).map _)
  have e1 : ∀ c, (es.filter fun e => !(seen.push c).contains e.born) = fs.filter fun e => e.born != c := by
    intro c
    rw [← hf, List.filter_filter]
    apply List.filter_congr
    intro x _
    by_cases h1 : x.born ∈ seen <;> by_cases h2 : x.born = c <;> simp [h1, h2]
  rw [e1]
  clear e1 hf hp es
  induction fs generalizing j with
  | nil => simp at hj
  | cons f fs ih =>
    rw [List.map_cons, List.pairwise_cons] at hps
    cases j with
    | zero =>
      simp only [List.getElem_cons_zero, List.eraseIdx_cons_zero]
      rw [List.filter_cons_of_neg (by simp), List.filter_eq_self]
      intro x hx
      have := hps.1 x.born (List.mem_map.2 ⟨x, hx, rfl⟩)
      simp; omega
    | succ j =>
      simp only [List.length_cons] at hj
      simp only [List.getElem_cons_succ, List.eraseIdx_cons_succ]
      have := hps.1 (fs[j]'(by omega)).born (List.mem_map.2 ⟨_, List.getElem_mem _, rfl⟩)
      rw [List.filter_cons_of_pos (by simp; omega), ih (by omega) hps.2]
theorem h_next {x : Operand} {it : Value} {left : List (κ × Value)} {cur : Option (κ × Value)} {R : List HP} {K : Value → List HP → Prop} (h0 : left = [] → K (.tuple #[.bool false]) (Mp ek m kvs :: R)) (h1 : ∀ a p b, left = a ++ p :: b → K (.tuple #[.bool true, ek p.1, p.2]) (MpIt ek m it kvs (a ++ b) (some p) :: R))
    (hx : ev Γ x = some it := by rfl) (hp : Pick L (MpIt ek m it kvs left cur) R := by repeat first | exact .z | apply Pick.s) : HO P r g ⟨dst, .next x false, t, pos, aft, gd⟩ Γ L K :=
  HO.run (by simp) fun a w ha hw => by
    obtain ⟨S1, S2, hd, l1, l2, ⟨b, i, es, clock, seen, rfl, rfl, hbi, hb, hi, h3, h4, h5, h6, h7⟩, hR⟩ := hp.to hw.heap
    have hb' := l1 _ _ hb
    have hi' := l1 _ _ hi
    generalize hf : (es.filter fun e => !seen.contains e.born) = fs at h6
    have hall : (!seen.isEmpty && !es.toArray.isEmpty && es.toArray.all (·.born ≥ clock)) = false := by
      cases es with
      | nil => simp
      | cons e es =>
        have := h5 e (by simp)
        have h' : ((e :: es).toArray.all fun x => decide (x.born ≥ clock)) = false := by
          rw [Bool.eq_false_iff]; intro h; simp at h; omega
        simp only [h', Bool.and_false]
    have hold : (fs.toArray.filter fun e => decide (e.born < clock)) = fs.toArray := by
      have : (fs.filter fun e => decide (e.born < clock)) = fs := by
        rw [List.filter_eq_self]; intro e he
        have : e ∈ es := by rw [← hf] at he; exact (List.mem_filter.1 he).1
        simpa using h5 e this
      simp [this]
    have hnew : (fs.toArray.filter fun e => decide (e.born ≥ clock)) = #[] := by
      have : (fs.filter fun e => decide (e.born ≥ clock)) = [] := by
        rw [List.filter_eq_nil_iff]; intro e he
        have : e ∈ es := by rw [← hf] at he; exact (List.mem_filter.1 he).1
        have := h5 e this
        simp; omega
      simp [this]
    have hleft : (es.toArray.filter fun e => !seen.contains e.born) = fs.toArray := by rw [← hf]; simp
    cases hfs : fs with
    | nil =>
      subst hfs
      have hl : left = [] := by
        have := ents_len h6; cases left with
        | nil => rfl
        | cons x l => simp at this
      refine ⟨_, _, w, ?_, h0 hl, hw.os, hw.tape, hw.output, hw.size, S1, S2, hd, l1, l2, ⟨b, es, clock, rfl, hb, h3, h4, h5⟩, hR⟩
      simp only [execOp, ev_ok hx ha, Instr.next, Sem.run_bind, run_getObj hi' (by simp), Result.andThen_ok, run_getObj hb' (by simp), hall, hleft, hold, hnew]
      simp [Question.forced]
    | cons f fs' =>
      have hcand : ((if fs.toArray.isEmpty then #[none] else #[]) ++ (fs.toArray ++ #[]).map some : Array (Option MapEntry)) = (fs.map some).toArray := by
        rw [hfs]; simp
      -- which one the tape picks
      have hpick : ∃ j w1, j < fs.length ∧ (choose (.mapNext (fs.map some).toArray.size)).run P w = .ok j w1 ∧ ∃ n, w1 = { w with drawn := n } := by
        by_cases h1 : (Question.mapNext (fs.map some).toArray.size).forced = true
        · exact ⟨0, w, by rw [hfs]; simp, by simp only [run_choose, h1, if_true], w.drawn, rfl⟩
        · refine ⟨(Question.mapNext (fs.map some).toArray.size).cut (w.tape w.drawn (.mapNext (fs.map some).toArray.size)), { w with drawn := w.drawn + 1 }, ?_, by simp only [run_choose, h1, Bool.false_eq_true, if_false], _, rfl⟩
          simp only [Question.cut]
          have : (fs.map some).toArray.size = fs.length := by simp
          rw [this]; exact Nat.mod_lt _ (by rw [hfs]; simp)
      obtain ⟨j, w1, hj, hch, n, rfl⟩ := hpick
      obtain ⟨a', p, b', hl, hal, hk1, hk2⟩ := ents_split h6 hj
      refine ⟨_, _, { w with heap := w.heap.setIfInBounds i (.mapIter (some b) clock (seen.push fs[j].born) clock), drawn := n }, ?_, h1 a' p b' hl, ?_⟩
      · simp only [execOp, ev_ok hx ha, Instr.next, Sem.run_bind, run_getObj hi' (by simp), Result.andThen_ok, run_getObj hb' (by simp), hall, hleft, hold, hnew, hcand]
        have hg : (fs.map some).toArray[j]? = some (some fs[j]) := by simp [hj]
        have hso : (setObj i (.mapIter (some b) clock (seen.push fs[j].born) clock)).run P { w with drawn := n } = .ok () { w with heap := w.heap.setIfInBounds i (.mapIter (some b) clock (seen.push fs[j].born) clock), drawn := n } :=
          run_setObj (w := { w with drawn := n }) (o := .mapIter (some b) clock seen clock) hi' (by simp)
        simp only [Bool.false_eq_true, if_false, Sem.run_bind, Sem.run_pure]
        rw [hch]
        simp only [Result.andThen_ok, hg, Sem.run_bind, hso, Sem.run_pure, hk1, hk2]
      · refine Sat.setObj2 hw hd l1 l2 hi hR n fun S hS hS' => ⟨b, i, es, clock, seen.push fs[j].born, rfl, rfl, hbi, by rw [hS' b hbi]; exact hb, hS, h3, h4, h5, ?_, ?_⟩
        · have hj' : j < (es.filter fun e => !seen.contains e.born).length := by rw [hf]; exact hj
          have := filter_erase h4 seen hj'
          simp only [hf] at this
          rw [this]
          unfold ents at *
          rw [map_eraseIdx, h6, ← map_eraseIdx, hl]
          congr 1
          rw [← hal, List.eraseIdx_append_of_length_le (Nat.le_refl _)]; simp
        · rintro p' ⟨⟩
          refine ⟨fs[j], ?_, by simp, hk1, hk2⟩
          have hmem : ∀ e ∈ fs, e ∈ es := fun e he => by rw [← hf] at he; exact (List.mem_filter.1 he).1
          exact hmem _ (List.getElem_mem _)
theorem e_entry {x : Operand} {it : Value} {left : List (κ × Value)} {p : κ × Value} (hx : ev Γ x = some it := by rfl) (hp : Pick L (MpIt ek m it kvs left (some p)) M := by repeat first | exact .z | apply Pick.s) : EO P g ⟨dst, .entry x, t, pos, aft, gd⟩ Γ L (.tuple #[ek p.1, p.2]) :=
  .of (by simp) fun ρ hρ w hw => by
    obtain ⟨S1, S2, hd, l1, l2, ⟨b, i, es, clock, seen, rfl, rfl, hbi, hb, hi, h3, h4, h5, h6, h7⟩, hR⟩ := hp.to hw.heap
    have hb' := l1 _ _ hb
    have hi' := l1 _ _ hi
    obtain ⟨e, he, hs, hk, hv⟩ := h7 p rfl
    have hfind : es.toArray.find? (fun x => x.born == e.born) = some e := by
      rw [List.find?_toArray]
      clear h3 h6 h7 hb hb'
      induction es with
      | nil => cases he
      | cons f fs ih =>
        rw [List.map_cons, List.pairwise_cons] at h4
        by_cases hfe : f.born = e.born
        · have : f = e := by
            rcases List.mem_cons.1 he with rfl | hm
            · rfl
            · have := h4.1 e.born (List.mem_map.2 ⟨e, hm, rfl⟩); omega
          simp [this]
        · rw [List.find?_cons_of_neg (by simpa using hfe)]
          refine ih h4.2 (fun x hx => h5 x (by simp [hx])) ?_
          rcases List.mem_cons.1 he with rfl | hm
          · exact absurd rfl hfe
          · exact hm
    simp only [execOp, hρ x _ (by simp [Op.operands]) hx, Instr.entry, Sem.run_bind, run_getObj hi' (by simp), Result.andThen_ok, hs, run_getObj hb' (by simp), hfind, hk, hv]
    simp
end
end Go.SL
