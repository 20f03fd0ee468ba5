/- From the row to the walk: a slice of structs that came in is read as a list. -/
import Derived.Test.YtdfomffmfnpfoaaGreatSLu
import Derived.Deep.Slices
import Derived.ChangeSame
import Derived.SizedLaws
set_option linter.unusedSimpArgs false
set_option linter.unusedVariables false
namespace Go.SL
open Go Go.ChangeShapes Go.Deep
section
variable {H : Type} {enc : TypeId × Value → H} {P : Program} {W : World} {held : Bool}
theorem add_off (a : Addr) (n : Nat) (h : a.spot = none) : a.add n = ⟨a.block, a.off + n, none⟩ := by
  obtain ⟨b, o, s⟩ := a
  simp at h; subst h
  exact add_none b o n
theorem slice_rl {α : Type} {t e : TypeId} {fuel z : Nat} {cs : List Value} {x : DataW H × List MemPlace} {c : α → List Value} (ht : P.underlying t = some (.slice e)) (hz : P.cellsOf e = z) (h0 : 0 < z) (he : EncOk z c)
    (hel : ∀ n cs' y, DataW.trod enc P W 0 (fun _ => true) held n e cs' = some y → ∃ a : α, cs' = c a) (h : DataW.trod enc P W 0 (fun _ => true) held fuel t cs = some x) :
    ∃ (v : SV) (xs : List α), cs = [v.v] ∧ RL (Old W) z c v.v xs ∧ (xs = [] ∨ ∃ el sp, x.1 = .slice el sp ∧ el.length = xs.length) := by
  rcases open_slice ht h with ⟨hcs, _⟩ | ⟨a, len, cap, m, n, D, Pl, hcs, _, hl, hm, hmm, hxx, hi⟩
  · exact ⟨⟨none, 0, 0⟩, [], hcs, nil_rl, .inl rfl⟩
  simp only [if_true] at hmm
  subst hmm
  rw [hz] at hi
  have hi' : ∀ i : Fin m, ∃ y : α, ∀ j, j < z → W.cell? ((a.add (i * z)).add j) = (c y)[j]? := fun i => by
    obtain ⟨cs', h1, h2⟩ := hi i i.2
    obtain ⟨y, rfl⟩ := hel _ _ _ h2
    exact ⟨y, (World.cells?_some h1).2.2⟩
  by_cases hc0 : m = 0
  · have : len = 0 := by omega
    subst this
    exact ⟨⟨some a, 0, m⟩, [], hcs, nil_rl, .inl rfl⟩
  let Y : Fin m → α := fun i => Classical.choose (hi' i)
  have hY : ∀ i : Fin m, ∀ j, j < z → W.cell? ((a.add (i * z)).add j) = (c (Y i))[j]? := fun i => Classical.choose_spec (hi' i)
  have hsp : a.spot = none := by
    have := hY ⟨0, by omega⟩ 0 h0
    have hlt : 0 < (c (Y ⟨0, by omega⟩)).length := by rw [he.len]; exact h0
    rw [List.getElem?_eq_getElem hlt] at this
    have h2 := World.cell?_spot this
    cases hs : a.spot with
    | none => rfl
    | some s => simp [Addr.add, hs] at h2
  have hcell : ∀ k (hk : k < m * z), W.cell? ⟨a.block, a.off + k, none⟩ = (c (Y ⟨k / z, (Nat.div_lt_iff_lt_mul h0).2 hk⟩))[k % z]? := fun k hk => by
    have := hY ⟨k / z, (Nat.div_lt_iff_lt_mul h0).2 hk⟩ (k % z) (Nat.mod_lt _ h0)
    rw [add_off a _ hsp, add_none] at this
    have e : a.off + k / z * z + k % z = a.off + k := by have := Nat.div_add_mod k z; rw [Nat.mul_comm] at this; omega
    simp only [e] at this
    exact this
  have hmz : 0 < m * z := Nat.mul_pos (by omega) h0
  obtain ⟨arr, t', fr, hb⟩ : ∃ arr t' fr, W.heap[a.block]? = some (.cells arr t' fr) := by
    have := hcell 0 hmz
    rw [List.getElem?_eq_getElem (by rw [he.len]; exact Nat.mod_lt _ h0)] at this
    unfold World.cell? at this
    cases hh : W.heap[a.block]? with
    | none => rw [hh] at this; cases this
    | some o => rw [hh] at this; cases o <;> first | exact ⟨_, _, _, rfl⟩ | cases this
  have hval : ∀ k (hk : k < m * z), arr.toList[a.off + k]? = (c (Y ⟨k / z, (Nat.div_lt_iff_lt_mul h0).2 hk⟩))[k % z]? := fun k hk => by
    have := hcell k hk
    unfold World.cell? at this
    rw [hb] at this
    simpa using this
  have hlen : a.off + m * z ≤ arr.toList.length := by
    have := hval (m * z - 1) (by omega)
    have hlt : (m * z - 1) % z < (c (Y ⟨(m * z - 1) / z, (Nat.div_lt_iff_lt_mul h0).2 (by omega)⟩)).length := by rw [he.len]; exact Nat.mod_lt _ h0
    rw [List.getElem?_eq_getElem hlt] at this
    have := idx_lt this
    omega
  refine ⟨⟨some a, len, m⟩, List.ofFn fun i : Fin len => Y ⟨i, by omega⟩, hcs, fun S hS => ?_, .inr ⟨_, _, by rw [hxx], by simp⟩⟩
  refine .inr ⟨a.block, a.off, m, arr.toList, (t', fr), ?_, by simpa using hl, ?_, hlen, ?_⟩
  · obtain ⟨b, o, s⟩ := a
    simp at hsp; subst hsp
    simp
  · exact hS _ _ (by simpa [heapOf] using hb)
  · apply List.ext_getElem?
    intro k
    rw [td_get, List.length_ofFn]
    by_cases hk : k < len * z
    · rw [if_pos hk]
      have hkm : k < m * z := Nat.lt_of_lt_of_le hk (Nat.mul_le_mul_right _ hl)
      rw [hval k hkm]
      have hd : k / z < len := (Nat.div_lt_iff_lt_mul h0).2 hk
      have hx : (List.ofFn fun i : Fin len => Y ⟨i, by omega⟩)[k / z]? = some (Y ⟨k / z, by omega⟩) := by simp [hd]
      have := flat_at he hx (k % z) (Nat.mod_lt _ h0)
      rw [show k / z * z + k % z = k by have := Nat.div_add_mod k z; rw [Nat.mul_comm] at this; omega] at this
      exact this
    · rw [if_neg hk]
      apply List.getElem?_eq_none
      rw [flat_len he, List.length_ofFn]; omega
theorem sized_len {α : Type} {ts : List TypeId} {ds : List (DataW H)} {j : Nat} {t e : TypeId} {d : DataW H} {xs : List α} (h : (DataW.weightsEach P ts ds).all (· ≤ reachBytes) = true) (ht : ts[j]? = some t) (hd : ds[j]? = some d) (hu : P.underlying t = some (.slice e)) (hb : (P.bytesOf e == 0) = false)
    (hx : xs = [] ∨ ∃ el sp, d = .slice el sp ∧ el.length = xs.length) : xs.length ≤ 140737488351232 := by
  rcases hx with rfl | ⟨el, sp, rfl, he⟩
  · simp
  · have := sized_slice h ht hd hu
    have hp : 1 ≤ P.bytesOf e := by simp at hb; omega
    have : xs.length * 1 ≤ (el.length + sp.length) * P.bytesOf e := Nat.mul_le_mul (by omega) hp
    rw [show reachBytes = 140737488351232 from rfl] at *
    omega
theorem below_of_spec1 {P : Program} {w : World} {f : FuncId} {args : List Value} (h : Spec P w f args [Old w] fun K R => K (.bool true) (Old w :: R)) : Calls P f args.toArray w fun e w' => e = .returned (.bool true) ∧ Go.RowKit.Below w.heap.size w w' := by
  refine (h [] (fun v M => v = .bool true ∧ M = [Old w]) w (sat_old w) ⟨rfl, rfl⟩).mono ?_
  rintro e w' ⟨v, M, rfl, ⟨rfl, rfl⟩, hs⟩
  exact ⟨rfl, old_below hs⟩
theorem op_cells {t k s u : TypeId} {b0 b1 b2 b3 : Nat} {n0 n1 n2 n3 : String} {fuel : Nat} {cs : List Value} {y : DataW H × List MemPlace} (ht : P.underlying t = some (.struct #[⟨n0, k, 0, false, "", "", b0⟩, ⟨n1, s, 1, false, "", "", b1⟩, ⟨n2, s, 2, false, "", "", b2⟩, ⟨n3, u, 3, false, "", "", b3⟩]))
    (hk : P.underlying k = some (.int .u8)) (hs : P.underlying s = some .string) (hu : P.underlying u = some (.int .u32)) (ct : P.cellsOf t = 4) (ck : P.cellsOf k = 1) (c1 : P.cellsOf s = 1) (cu : P.cellsOf u = 1)
    (h : DataW.trod enc P W 0 (fun _ => true) held fuel t cs = some y) : ∃ x : OpM, cs = x.c := by
  obtain ⟨y0, y1, y2, y3, m, hx, hl, h0, h1, h2, h3⟩ := Go.Joins.trod_struct4 ht h
  rw [ct] at hl
  match cs, hl with
  | [a, b, c, d], _ =>
    simp only [ck, c1, cu] at h0 h1 h2 h3
    obtain ⟨n, e0, _, w0⟩ := DataW.trod_int hk h0
    obtain ⟨s1, e1, _, _⟩ := DataW.trod_string hs h1
    obtain ⟨s2, e2, _, _⟩ := DataW.trod_string hs h2
    obtain ⟨v, e3, _, w3⟩ := DataW.trod_int hu h3
    simp at e0 e1 e2 e3
    subst e0 e1 e2 e3
    refine ⟨⟨UInt8.ofNat n.toNat, s1, s2, UInt32.ofNat v.toNat⟩, ?_⟩
    simp only [OpM.c]
    rw [← u8_wf w0, ← u32_wf w3]
end
end Go.SL
