/- The steps of the walk: append, make, literals of slices. -/
import Derived.Test.YtdfomffmfnpfoaaGreatSLe
import Derived.IntWalk
set_option linter.unusedSimpArgs false
set_option linter.unusedVariables false
namespace Go.SL
open Go

section
variable {P : Program} {r : Option Nat} {g : World} {Γ : Env} {L M : List HP} {A : HP} {dst : Option Tmp} {t : TypeId} {pos : String} {aft : Array Edge} {gd : Option (Nat × Bool)}

theorem RdS.read {S : World} {z n : Nat} {u : Value} {cs : List Value} (h : RdS (heapOf S) z u n cs) : (Builtin.lenOf u).run P S = .ok n S ∧ (Builtin.firstCells z n u).run P S = .ok cs.toArray S := by
  rcases h with ⟨rfl, rfl, a, c, rfl⟩ | ⟨b, o, c, l, t, rfl, hn, hS, hc, rfl⟩
  · refine ⟨rfl, ?_⟩
    cases a with
    | none => rfl
    | some a => simp [Builtin.firstCells, loadCells, loadCellsFrom]
  · have : n * z ≤ c * z := Nat.mul_le_mul_right z hn
    exact ⟨rfl, by simp only [Builtin.firstCells]; exact run_loadCells ⟨t, hS⟩ (by omega)⟩

theorem growBy_le (need : Nat) : ∀ (k c : Nat), c < need → Builtin.growBy need k c ≤ need + (need + 768) / 4
  | 0, c, h => by simp only [Builtin.growBy]; omega
  | k + 1, c, h => by
    simp only [Builtin.growBy]
    split
    · omega
    · rcases Nat.lt_or_ge (c + (c + 768) / 4) need with h' | h'
      · exact growBy_le need k _ h'
      · cases k with
        | zero => simp only [Builtin.growBy]; omega
        | succ k => simp only [Builtin.growBy]; rw [if_pos h']; omega
theorem nextcap_le {need old : Nat} (h : old < need) : Builtin.nextslicecap need old ≤ 2 * need + 192 := by
  unfold Builtin.nextslicecap
  split
  · omega
  · split
    · omega
    · have := growBy_le need 4 old h; omega

theorem mod_arr_len (zero : Array Value) (n : Nat) : ((Builtin.zeroCells zero n)).size = n * zero.size := by simp [Builtin.zeroCells]

/-- append of the elements of a slice, or of the bytes of a text. -/
theorem run_append {T T2 E z y n k : Nat} {u v : Value} {cs ds : List Value} {zs : List Value} {R : List HP} {w : World} (hs : slOf P T = some (E, z, y)) (h2 : ∃ d, P.underlying T2 = some d ∧ ∀ q, d ≠ .int q) (hz : zeroOf P E = some zs) (hzz : zs.length = z)
    (hw : Sat g L w) (p1 : Pick L (Own E z u n cs) R) (hlen : (Builtin.lenOf v).run P w = .ok k w) (hdsd : ∀ d, (Builtin.firstCells z k v).run P { w with drawn := d } = .ok ds.toArray { w with drawn := d }) (hdl : ds.length = k * z) (h1 : ones ds = true) (hz0 : 0 < z) (hb : n + k ≤ 68719476736) (hy : y ≤ 512) :
    ∃ u' w', (Builtin.append_ #[T, T2] t #[u, v]).run P w = .ok u' w' ∧ Sat g (Own E z u' (n + k) (cs ++ ds) :: R) w' := by
  have hds : (Builtin.firstCells z k v).run P w = .ok ds.toArray w := hdsd w.drawn
  unfold slOf at hs
  split at hs
  case h_2 => cases hs
  case h_1 hu =>
  simp only [Option.map_eq_some_iff] at hs
  obtain ⟨inf, hinf, hs⟩ := hs
  cases hs
  have hsz : szOf P E = some inf.size := by simp [szOf, hinf]
  obtain ⟨d2, hd2, hni⟩ := h2
  have hown := hw.rd p1 own_rd
  -- the second argument's reading stands; the first one's shape
  have hshape : ∃ a c, u = .slice a n c ∧ n ≤ c ∧ (Builtin.firstCells inf.size n u).run P w = .ok cs.toArray w := by
    have hr := (hown.read (P := P)).2
    rcases hown with ⟨rfl, _, a, c, rfl⟩ | ⟨b, o, c, l, t, rfl, hn, _⟩
    · exact ⟨a, c, rfl, Nat.zero_le _, hr⟩
    · exact ⟨_, c, rfl, hn, hr⟩
  obtain ⟨S1, S2, hd, l1, l2, hOw, hR⟩ := p1.to hw.heap
  by_cases hfit : ∃ b o c l, u = .slice (some ⟨b, o, none⟩) n c ∧ n + k ≤ c ∧ c < 9223372036854775808 ∧ S1 b = some (.cells (List.toArray l) E (0, 0)) ∧ o + c * inf.size ≤ l.length ∧ cs = (l.drop o).take (n * inf.size)
  · -- there is room
    obtain ⟨b, o, c, l, rfl, hnk, hc, hS, hl, rfl⟩ := hfit
    have hm1 : (n + k) * inf.size ≤ c * inf.size := Nat.mul_le_mul_right _ hnk
    rw [Nat.add_mul] at hm1
    obtain ⟨w', hr, a1, a2, a3, a4, a5, a6⟩ := run_storeCells (P := P) (T := E) ds 0 (o + n * inf.size) l w (l1 _ _ hS) (by rw [Nat.add_zero]; omega) (ones_ok h1)
    rw [Nat.add_zero] at a5
    refine ⟨.slice (some ⟨b, o, none⟩) (n + k) c, w', ?_, ?_⟩
    · simp only [Builtin.append_, List.getElem?_toArray, List.getElem?_cons_zero, List.getElem?_cons_succ, Sem.run_bind, run_underlying hu, Result.andThen_ok, run_sizeOf hsz, run_underlying hd2]
      simp [hlen, hnk, hds, add_none, hr]
    · refine ⟨a1.trans hw.os, a2.trans hw.tape, a3.trans hw.output, a4 ▸ hw.size, ?_⟩
      have hS2 : S2 b = none := by
        rcases hd b with h0 | h0
        · rw [hS] at h0; cases h0
        · exact h0
      refine ⟨fun i => if i = b then some (.cells (splice l (o + n * inf.size) ds).toArray E (0, 0)) else none, S2, fun i => ?_, fun i x hx => ?_, fun i x hx => ?_, .inr ⟨b, o, c, splice l (o + n * inf.size) ds, rfl, hnk, hc, by simp, ?_, ?_⟩, hR⟩
      · by_cases hi : i = b
        · subst hi; exact .inr hS2
        · left; simp [hi]
      · by_cases hi : i = b
        · subst hi; simp at hx; subst hx; exact a5
        · simp [hi] at hx
      · have hi : i ≠ b := fun e => by subst e; rw [hS2] at hx; cases hx
        show w'.heap[i]? = some x
        rw [a6 i hi]; exact l2 i x hx
      · rw [splice_len _ _ _ (by omega)]; exact hl
      · apply List.ext_getElem?
        intro i
        rw [td_get, splice_get _ _ _ (by omega), List.getElem?_append]
        simp only [List.length_take, List.length_drop]
        rw [Nat.min_eq_left (show n * inf.size ≤ l.length - o by omega), Nat.add_mul]
        by_cases hi : i < n * inf.size
        · rw [if_pos hi, if_pos (show i < n * inf.size + k * inf.size by omega), if_pos (show o + i < o + n * inf.size by omega), td_get, if_pos hi]
        · rw [if_neg hi, if_neg (show ¬ o + i < o + n * inf.size by omega)]
          by_cases h2 : i < n * inf.size + k * inf.size
          · rw [if_pos h2, if_pos (show o + i < o + n * inf.size + ds.length by omega)]; congr 1; omega
          · rw [if_neg h2, List.getElem?_eq_none (by omega)]
  · obtain ⟨a, c, rfl, hnc, hcs⟩ := hshape
    by_cases hk : n + k ≤ c
    · -- nothing to append to nothing
      have h0 : n = 0 ∧ k = 0 ∧ cs = [] ∧ c = 0 := by
        rcases hOw with ⟨rfl, rfl, a', e⟩ | ⟨b, o, c', l, e, h3, h4, h5, h6, h7⟩
        · cases e; exact ⟨rfl, by omega, rfl, rfl⟩
        · cases e; exact absurd ⟨b, o, c, l, rfl, hk, h4, h5, h6, h7⟩ hfit
      obtain ⟨rfl, rfl, rfl, rfl⟩ := h0
      have hd0 : ds = [] := by cases ds with
        | nil => rfl
        | cons x l => simp at hdl
      subst hd0
      refine ⟨.slice a 0 0, w, ?_, hw.conv fun S hS => p1.to hS⟩
      simp only [Builtin.append_, List.getElem?_toArray, List.getElem?_cons_zero, List.getElem?_cons_succ, Sem.run_bind, run_underlying hu, Result.andThen_ok, run_sizeOf hsz, run_underlying hd2]
      cases a <;> simp [hlen, hds, storeCells]
    · -- a new array
      have hkc : c < n + k := by omega
      have hnext := nextcap_le hkc
      unfold zeroOf at hz
      cases hzi : (P.info? E).bind (·.zero) with
      | none => rw [hzi] at hz; cases hz
      | some zv =>
      rw [hzi] at hz
      simp at hz
      have hz' : zv.cells = zs.toArray := by rw [← hz]
      have hmul : Builtin.nextslicecap (n + k) c * inf.bytes ≤ (2 * (n + k) + 192) * 512 := Nat.mul_le_mul hnext hy
      let q : Question := .appendCap (n + k) c E
      let nc := q.cut (w.tape w.drawn q)
      have hnc2 : nc = n + k + (w.tape w.drawn q) % (2 ^ 63 - (n + k)) := rfl
      have hlt : (w.tape w.drawn q) % (2 ^ 63 - (n + k)) < 2 ^ 63 - (n + k) := Nat.mod_lt _ (by omega)
      let row := (cs ++ ds ++ (Builtin.zeroCells zs.toArray (nc - (n + k))).toList)
      have hcl : cs.length = n * inf.size := hown.len
      refine ⟨.slice (some ⟨w.heap.size, 0, none⟩) (n + k) nc, w.drew.alloc (.cells row.toArray E (0, 0)), ?_, ?_⟩
      · simp only [Builtin.append_, List.getElem?_toArray, List.getElem?_cons_zero, List.getElem?_cons_succ, Sem.run_bind, run_underlying hu, Result.andThen_ok, run_sizeOf hsz, run_underlying hd2]
        have e1 : ¬ (9223372036854775807 < (n : Int) + k ∧ inf.bytes = 0) := by omega
        have e2 : ¬ 2 ^ 48 < Builtin.nextslicecap (n + k) c * inf.bytes := by omega
        have hcs' : (Builtin.firstCells inf.size n (.slice a n c)).run P w.drew = .ok cs.toArray w.drew := by
          have : RdS (heapOf w.drew) inf.size (.slice a n c) n cs := hown
          exact (this.read (P := P)).2
        have hds' : (Builtin.firstCells inf.size k v).run P w.drew = .ok ds.toArray w.drew := hdsd (w.drawn + 1)
        have e3 : ¬ n + k ≤ c := hk
        simp [hlen, e3, e1, e2, run_typeInfo hinf, Question.forced, hcs', hds', run_zeroValue hzi, newRow, hz', row, nc, q]
        congr 2; apply Array.ext'; simp
      · have h := (hw.draw (w.drawn + 1)).conv fun S hS => p1.to hS
        have h' := h.push (.cells row.toArray E (0, 0))
        obtain ⟨T1, T2, hd', m1, m2, hA1, hA2⟩ := h'.heap
        refine ⟨h'.os, h'.tape, h'.output, h'.size, T1, T2, hd', m1, m2, .inr ⟨w.heap.size, 0, nc, row, rfl, by omega, by omega, hA1, ?_, ?_⟩, stars_tail hA2⟩
        · simp only [row, List.length_append, Array.length_toList, mod_arr_len, List.size_toArray, hcl, hdl, hzz]
          rw [Nat.zero_add, ← Nat.add_mul, ← Nat.add_mul]
          exact Nat.mul_le_mul_right _ (by omega)
        · rw [List.drop_zero]
          simp only [row]
          rw [List.take_append_of_le_length (by simp [hcl, hdl, Nat.add_mul]), List.take_of_length_le (by simp [hcl, hdl, Nat.add_mul])]

theorem notInt_sl {T E z y : Nat} (h : slOf P T = some (E, z, y)) : ∃ d, P.underlying T = some d ∧ ∀ q, d ≠ .int q := by
  unfold slOf at h
  split at h
  case h_2 => cases h
  case h_1 e hu => exact ⟨_, hu, by simp⟩
theorem h_append0 {T T2 E z y n k : Nat} {x xv : Operand} {u v : Value} {cs ds zs : List Value} {R : List HP} {K : Value → List HP → Prop} (hs : slOf P T = some (E, z, y)) (h2 : ∃ d, P.underlying T2 = some d ∧ ∀ q, d ≠ .int q) (hz : zeroOf P E = some zs) (hzz : zs.length = z)
    (hx : ev Γ x = some u) (hv : ev Γ xv = some v) (p1 : Pick L (Own E z u n cs) R) (hr : ∀ w, Sat g L w → (Builtin.lenOf v).run P w = .ok k w ∧ (Builtin.firstCells z k v).run P w = .ok ds.toArray w)
    (hdl : ds.length = k * z) (h1 : ones ds = true) (hz0 : 0 < z) (hb : n + k ≤ 68719476736) (hy : y ≤ 512) (hK : ∀ u', K u' (Own E z u' (n + k) (cs ++ ds) :: R)) : HO P r g ⟨dst, .call ⟨.builtin .append, #[x, xv], #[T, T2]⟩, t, pos, aft, gd⟩ Γ L K :=
  HO.run (by simp) fun a w ha hw => by
    obtain ⟨u', w', hrun, hw'⟩ := run_append (t := t) hs h2 hz hzz hw p1 (hr w hw).1 (fun d => (hr _ (hw.draw d)).2) hdl h1 hz0 hb hy
    refine ⟨u', _, w', ?_, hK u', hw'⟩
    have hm : (#[x, xv] : Array Operand).map a.eval = #[u, v] := by simp [ev_ok hx ha, ev_ok hv ha]
    show (do let d ← resolve a.eval ⟨.builtin .append, #[x, xv], #[T, T2]⟩ t; invoke d.target d.args : Sem Next).run P w = _
    simp only [resolve, hm, Sem.run_bind, Sem.run_pure, Result.andThen_ok, invoke, builtin, hrun]
theorem own_shape {E z n : Nat} {u : Value} {cs : List Value} {S : Piece} (h : Own E z u n cs S) : ∃ a m c, u = .slice a m c := by
  rcases h with ⟨rfl, _, a, rfl⟩ | ⟨b, o, c, l, rfl, _⟩ <;> exact ⟨_, _, _, rfl⟩
theorem HO.sat {o : Oper} {K0 K : Value → List HP → Prop} (h : HO P r g o Γ L K0) (hk : ∀ v M w, K0 v M → Sat g M w → K v M) : HO P r g o Γ L K :=
  fun a w Q next ha hw hn => h a w Q next ha hw fun v M w' hk0 hw' => hn v M w' (hk v M w' hk0 hw') hw'
/-- A result that is an owned slice: its form. -/
theorem HO.shape {o : Oper} {K : Value → List HP → Prop} {E z n : Nat} {cs : List Value} {R : List HP} (h : ∀ K0 : Value → List HP → Prop, (∀ u, K0 u (Own E z u n cs :: R)) → HO P r g o Γ L K0) (hK : ∀ a m c, K (.slice a m c) (Own E z (.slice a m c) n cs :: R)) : HO P r g o Γ L K :=
  HO.sat (h (fun v M => M = Own E z v n cs :: R) fun _ => rfl) fun v M w hM hw => by
    subst hM
    obtain ⟨S1, S2, _, _, _, h1, _⟩ := hw.heap
    obtain ⟨a, m, c, rfl⟩ := own_shape h1
    exact hK a m c
theorem h_append {T T2 E z y n k : Nat} {x xv : Operand} {u v : Value} {cs ds zs : List Value} {R : List HP} {K : Value → List HP → Prop} (hs : slOf P T = some (E, z, y)) (h2 : ∃ d, P.underlying T2 = some d ∧ ∀ q, d ≠ .int q) (hz : zeroOf P E = some zs) (hzz : zs.length = z)
    (hx : ev Γ x = some u) (hv : ev Γ xv = some v) (p1 : Pick L (Own E z u n cs) R) (hr : ∀ w, Sat g L w → (Builtin.lenOf v).run P w = .ok k w ∧ (Builtin.firstCells z k v).run P w = .ok ds.toArray w)
    (hdl : ds.length = k * z) (h1 : ones ds = true) (hz0 : 0 < z) (hb : n + k ≤ 68719476736) (hy : y ≤ 512) (hK : ∀ a m c, K (.slice a m c) (Own E z (.slice a m c) (n + k) (cs ++ ds) :: R)) : HO P r g ⟨dst, .call ⟨.builtin .append, #[x, xv], #[T, T2]⟩, t, pos, aft, gd⟩ Γ L K :=
  HO.shape (fun _ h0 => h_append0 hs h2 hz hzz hx hv p1 hr hdl h1 hz0 hb hy h0) hK
section lists
variable {α : Type} {T E z y : Nat} {x xv : Operand} {enc : α → List Value} {u v : Value} {xs ys : List α} {zs : List Value} {R : List HP} {K : Value → List HP → Prop}
theorem ones_append : ∀ {l m : List Value}, ones l = true → ones m = true → ones (l ++ m) = true
  | [], _, _, h => h
  | v :: l, m, h, h' => by
    simp only [ones, Bool.and_eq_true, List.cons_append] at h ⊢
    exact ⟨h.1, ones_append h.2 h'⟩
theorem ones_flat (he : EncOk z enc) : ∀ (l : List α), ones (l.flatMap enc) = true
  | [] => rfl
  | a :: l => by rw [List.flatMap_cons]; exact ones_append (he.one a) (ones_flat he l)
/-- append of a slice that is read. -/
theorem hl_append {B : HP} {N : List HP} (hs : slOf P T = some (E, z, y)) (he : EncOk z enc) (hz : zeroOf P E = some zs) (hB : RL B z enc v ys) (hb : xs.length + ys.length ≤ 68719476736) (hK : ∀ a m c, K (.slice a m c) (Sl E z enc (.slice a m c) (xs ++ ys) :: R)) (hzz : zs.length = z := by rfl) (hz0 : 0 < z := by decide) (hy : y ≤ 512 := by decide)
    (hx : ev Γ x = some u := by rfl) (hv : ev Γ xv = some v := by rfl) (p1 : Pick L (Sl E z enc u xs) R := by repeat first | exact .z | apply Pick.s) (p2 : Pick L B N := by repeat first | exact .z | apply Pick.s) : HO P r g ⟨dst, .call ⟨.builtin .append, #[x, xv], #[T, T]⟩, t, pos, aft, gd⟩ Γ L K := by
  refine h_append (ds := ys.flatMap enc) hs (notInt_sl hs) hz hzz hx hv p1 (fun w hw => (hw.rd p2 hB).read) (flat_len he ys) (ones_flat he ys) hz0 hb hy fun a m c => ?_
  have := hK a m c
  unfold Sl at this
  rwa [List.length_append, List.flatMap_append] at this
end lists

theorem rep_get (zs : List Value) {z : Nat} (h : zs.length = z) (h0 : 0 < z) : ∀ (n i : Nat), i < n * z → ((List.replicate n zs).flatten)[i]? = zs[i % z]?
  | 0, i, hi => by simp at hi
  | n + 1, i, hi => by
    rw [List.replicate_succ, List.flatten_cons]
    by_cases h1 : i < z
    · rw [List.getElem?_append_left (by omega), Nat.mod_eq_of_lt h1]
    · rw [List.getElem?_append_right (by omega), h, rep_get zs h h0 n (i - z) (by rw [Nat.add_mul] at hi; omega), ← Nat.mod_eq_sub_mod (by omega)]
theorem zeroCells_eq {zs : List Value} {n : Nat} : (Builtin.zeroCells zs.toArray n).toList = (List.replicate n zs).flatten := by
  rcases Nat.eq_zero_or_pos zs.length with h | h
  · have : zs = [] := by simpa using h
    subst this; simp [Builtin.zeroCells]
  · apply List.ext_getElem?
    intro i
    simp only [Builtin.zeroCells, List.size_toArray, Array.toList_map, List.getElem?_map, Array.toList_range]
    by_cases hi : i < n * zs.length
    · rw [List.getElem?_range hi, rep_get zs rfl h n i hi]
      simp [Nat.mod_lt _ h]
    · rw [List.getElem?_eq_none (by simp; omega), List.getElem?_eq_none (by simp; omega)]; rfl
/-! ### make, literals -/
theorem h_make0 {T E z y n c : Nat} {xl xc : Operand} {k k' : IntKind} {zs : List Value} {K : Value → List HP → Prop} (hs : slOf P T = some (E, z, y)) (hz : zeroOf P E = some zs) (hzz : zs.length = z) (hl : ev Γ xl = some (.int k n)) (hc : ev Γ xc = some (.int k' c)) (hn : n ≤ c) (hb : c ≤ 68719476736) (hy : y ≤ 512)
    (hK : ∀ u, K u (Own E z u n (List.replicate n zs).flatten :: L)) : HO P r g ⟨dst, .makeSlice T xl xc, t, pos, aft, gd⟩ Γ L K :=
  HO.run (by simp) fun a w ha hw => by
    unfold slOf at hs
    split at hs
    case h_2 => cases hs
    case h_1 hu =>
    simp only [Option.map_eq_some_iff] at hs
    obtain ⟨inf, hinf, hs⟩ := hs
    cases hs
    have hsz : szOf P E = some inf.size := by simp [szOf, hinf]
    unfold zeroOf at hz
    cases hzi : (P.info? E).bind (·.zero) with
    | none => rw [hzi] at hz; cases hz
    | some zv =>
    rw [hzi] at hz
    simp at hz
    have hz' : zv.cells = zs.toArray := by rw [← hz]
    have hmul : inf.bytes * c ≤ 512 * 68719476736 := Nat.mul_le_mul hy hb
    have w1 : IntKind.i64.wrap (n : Int) = n := IntWalk.i64_in _ (by omega)
    have w2 : IntKind.i64.wrap (c : Int) = c := IntWalk.i64_in _ (by omega)
    let row : Array Value := (Array.range (c * inf.size)).map (zs.toArray[· % zs.toArray.size]!)
    refine ⟨.slice (some ⟨w.heap.size, 0, none⟩) n c, _, w.alloc (.cells row E (0, 0)), ?_, hK _, ?_⟩
    · have e1 : ¬ ((281474976710656 : Int) < (inf.bytes : Int) * c) := by
        have h5 : ((inf.bytes * c : Nat) : Int) ≤ 35184372088832 := by omega
        rw [Int.natCast_mul] at h5; omega
      simp only [execOp, Instr.makeSlice, Sem.run_bind, run_underlying hu, ev_ok hl ha, ev_ok hc ha, asInt, asIntOf, Sem.run_pure, Result.andThen_ok, run_typeInfo hinf, w1, w2]
      by_cases h0 : c * inf.size = 0
      · have h0' : row = #[] := by simp only [row, h0]; simp
        simp [e1, h0, h0', newRow, run_sizeOf hsz, show ¬ (n : Int) < 0 by omega, show ¬ (c : Int) < 0 by omega, show ¬ (c : Int) < n by omega]
        congr 2; simp
      · simp [e1, h0, row, newRow, run_sizeOf hsz, hz', run_zeroValue hzi, show ¬ (n : Int) < 0 by omega, show ¬ (c : Int) < 0 by omega, show ¬ (c : Int) < n by omega]
    · have h' := hw.push (.cells row E (0, 0))
      obtain ⟨T1, T2, hd', m1, m2, hA1, hA2⟩ := h'.heap
      have hrow : row.size = c * inf.size := by simp [row]
      refine ⟨h'.os, h'.tape, h'.output, h'.size, T1, T2, hd', m1, m2, .inr ⟨w.heap.size, 0, c, row.toList, rfl, hn, by omega, by rw [hA1], by simp [hrow], ?_⟩, hA2⟩
      rw [List.drop_zero]
      have hnc : n * inf.size ≤ c * inf.size := Nat.mul_le_mul_right _ hn
      apply List.ext_getElem?
      intro i
      rw [List.getElem?_take]
      by_cases hi : i < n * inf.size
      · rw [if_pos hi]
        have hz0 : 0 < inf.size := by
          rcases Nat.eq_zero_or_pos inf.size with h | h
          · rw [h, Nat.mul_zero] at hi; omega
          · exact h
        have hmod : i % inf.size < zs.length := by rw [hzz]; exact Nat.mod_lt _ hz0
        have e1 : row.toList[i]? = zs[i % inf.size]? := by
          simp only [row, Array.toList_map, List.getElem?_map, List.size_toArray, hzz]
          rw [show (Array.range (c * inf.size)).toList = List.range (c * inf.size) by simp, List.getElem?_range (by omega)]
          simp [hmod]
        rw [e1]
        exact (rep_get zs hzz hz0 n i hi)
      · rw [if_neg hi, List.getElem?_eq_none (by simp [hzz]; omega)]
theorem h_make {T E z y n c : Nat} {xl xc : Operand} {k k' : IntKind} {zs : List Value} {K : Value → List HP → Prop} (hs : slOf P T = some (E, z, y)) (hz : zeroOf P E = some zs) (hzz : zs.length = z) (hl : ev Γ xl = some (.int k n)) (hc : ev Γ xc = some (.int k' c)) (hn : n ≤ c) (hb : c ≤ 68719476736) (hy : y ≤ 512)
    (hK : ∀ a m c', K (.slice a m c') (Own E z (.slice a m c') n (List.replicate n zs).flatten :: L)) : HO P r g ⟨dst, .makeSlice T xl xc, t, pos, aft, gd⟩ Γ L K :=
  HO.shape (fun _ h0 => h_make0 hs hz hzz hl hc hn hb hy h0) hK
theorem h_bs {T E z y m : Nat} {ps : List (Nat × Operand)} {zs cs : List Value} {vs : List (Nat × Value)} {K : Value → List HP → Prop} (hs : slOf P T = some (E, z, y)) (hz : zeroOf P E = some zs) (_ : Tm Γ cs) (hK : ∀ b, K (.slice (some ⟨b, 0, none⟩) m m) (cl b E cs :: L))
    (hm : Nat.ble (m * z) 10000 = true := by rfl) (hv : evps Γ ps = some vs := by rfl) (hc : Instr.fill (fun i => some (i * z, z)) (List.replicate m zs).flatten.toArray vs = some cs.toArray := by rfl) (hzz : zs.length = z := by rfl) (hm0 : Nat.beq (m * z) 0 = false := by rfl) :
    HO P r g ⟨dst, .buildSlice T m ps.toArray, t, pos, aft, gd⟩ Γ L K :=
  HO.run (by simp) fun a w ha hw => by
    have hc : Instr.fill (fun i => some (i * z, z)) ((Array.range (m * z)).map (zs.toArray[· % zs.toArray.size]!)) vs = some cs.toArray := by
      rw [← hc]; subst hzz; congr 1; apply Array.ext'; rw [List.toList_toArray, ← zeroCells_eq]; simp [Builtin.zeroCells]
    unfold slOf at hs
    split at hs
    case h_2 => cases hs
    case h_1 hu =>
    simp only [Option.map_eq_some_iff] at hs
    obtain ⟨inf, hinf, hs⟩ := hs
    cases hs
    have hsz : szOf P E = some inf.size := by simp [szOf, hinf]
    have h1 : (ps.toArray.map fun (i, x) => (i, a.eval x)) = vs.toArray := by
      rw [← evps_map hv (fun x u _ hx => ev_ok hx ha)]; simp
    unfold zeroOf at hz
    cases hzi : (P.info? E).bind (·.zero) with
    | none => rw [hzi] at hz; cases hz
    | some zv =>
    rw [hzi] at hz
    simp at hz
    have hz' : zv.cells = zs.toArray := by rw [← hz]
    have hle : m * inf.size ≤ 10000 := by simpa using hm
    have h0 : m * inf.size ≠ 0 := fun e => by rw [e] at hm0; simp at hm0
    refine ⟨_, _, w.alloc (.cells cs.toArray E (0, 0)), ?_, hK w.heap.size, hw.push (.cells cs.toArray E (0, 0))⟩
    simp only [execOp, Instr.buildSlice, Sem.run_bind, run_underlying hu, Result.andThen_ok, run_sizeOf hsz, h1]
    rw [if_neg (by omega)]
    simp only [h0, if_false, Sem.run_bind, run_zeroValue hzi, Result.andThen_ok, hz', Sem.run_pure, hc]
    simp [newRow]
theorem lit_rl {α : Type} {z b : Nat} {E : TypeId} {enc : α → List Value} (he : EncOk z enc) {l : List Value} (xs : List α) {n : Nat} (h : xs.flatMap enc = l) (hn : xs.length = n := by rfl) : RL (cl b E l) z enc (.slice (some ⟨b, 0, none⟩) n n) xs := by
  subst hn
  refine cl_rd (Nat.le_refl _) ?_ ?_
  · rw [← h, flat_len he, Nat.zero_add]; exact Nat.le_refl _
  · rw [← h, List.drop_zero, List.take_of_length_le (by rw [flat_len he]; exact Nat.le_refl _)]
end
end Go.SL
