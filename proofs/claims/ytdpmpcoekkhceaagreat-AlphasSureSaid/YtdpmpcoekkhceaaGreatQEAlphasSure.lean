/- AlphasSure holds for every input. Conditions: none. -/
import Derived.Test.YtdpmpcoekkhceaaGreatRows
import Derived.Test.YtdpmpcoekkhceaaGreatQE22
namespace Go.Proofs.YtdpmpcoekkhceaaGreat.alphasSure
open Go.ChangeShapes Go.WideShapes Go.ChangeAt Go.RowKit Go.SL
set_option linter.unusedVariables false
theorem own : ownKnob Tryz.prog.godebug = none := by kernel_rfl
theorem laidOut : laidOutB Tryz.prog = true := by kernel_rfl
theorem ops_el {H : Type} {enc : TypeId × Value → H} {w : World} {held : Bool} (n : Nat) (cs : List Value) (y : DataW H × List MemPlace) (h : DataW.trod enc Tryz.prog w 0 (fun _ => true) held n 36 cs = some y) : ∃ x : OpM, cs = x.c :=
  op_cells Tryz.underlying36 Tryz.underlying34 Tryz.underlying9 Tryz.underlying22 (by kernel_rfl) (by kernel_rfl) (by kernel_rfl) (by kernel_rfl) h
theorem open_ops {H : Type} {enc : TypeId × Value → H} {w : World} {held : Bool} {n : Nat} {cs : List Value} {y : DataW H × List MemPlace} (h : DataW.trod enc Tryz.prog w 0 (fun _ => true) held n 60 cs = some y) :
    ∃ (v : SV) (xs : List OpM), cs = [v.v] ∧ RL (Old w) 4 OpM.c v.v xs ∧ (xs = [] ∨ ∃ el sp, y.1 = .slice el sp ∧ el.length = xs.length) :=
  slice_rl Tryz.underlying60 (by kernel_rfl) (by decide) opE ops_el h
theorem act_cells {P : Program} {W : World} {held : Bool} {H : Type} {enc : TypeId × Value → H} {t k u o q w : TypeId} {b0 b1 b2 b3 b4 : Nat} {n0 n1 n2 n3 n4 : String} {fuel : Nat} {cs : List Value} {y : DataW H × List MemPlace}
    (ht : P.underlying t = some (.struct #[⟨n0, k, 0, false, "", "", b0⟩, ⟨n1, u, 1, false, "", "", b1⟩, ⟨n2, o, 2, false, "", "", b2⟩, ⟨n3, q, 6, false, "", "", b3⟩, ⟨n4, w, 7, false, "", "", b4⟩]))
    (hk : P.underlying k = some (.int .u8)) (hu : P.underlying u = some (.int .u32)) (hq : P.underlying q = some (.int .u64)) (hw : P.underlying w = some (.int .i64)) (ct : P.cellsOf t = 8) (ck : P.cellsOf k = 1) (cu : P.cellsOf u = 1) (co : P.cellsOf o = 4) (cq : P.cellsOf q = 1) (cw : P.cellsOf w = 1)
    (ho : ∀ n cs' y', DataW.trod enc P W 0 (fun _ => true) held n o cs' = some y' → ∃ x : OpM, cs' = x.c)
    (h : DataW.trod enc P W 0 (fun _ => true) held fuel t cs = some y) : ∃ x : ActM, cs = x.c := by
  obtain ⟨xs, m, _, rfl, hl, hlen, hf⟩ := DataW.trod_struct ht h
  rw [ct] at hl
  match xs, hlen with
  | [y0, y1, y2, y3, y4], _ =>
  have h0 : DataW.trod enc P W 0 (fun _ => true) held m k ((cs.drop 0).take (P.cellsOf k)) = some y0 := hf 0 ⟨n0, k, 0, false, "", "", b0⟩ rfl
  have h1 : DataW.trod enc P W 0 (fun _ => true) held m u ((cs.drop 1).take (P.cellsOf u)) = some y1 := hf 1 ⟨n1, u, 1, false, "", "", b1⟩ rfl
  have h2 : DataW.trod enc P W 0 (fun _ => true) held m o ((cs.drop 2).take (P.cellsOf o)) = some y2 := hf 2 ⟨n2, o, 2, false, "", "", b2⟩ rfl
  have h3 : DataW.trod enc P W 0 (fun _ => true) held m q ((cs.drop 6).take (P.cellsOf q)) = some y3 := hf 3 ⟨n3, q, 6, false, "", "", b3⟩ rfl
  have h4 : DataW.trod enc P W 0 (fun _ => true) held m w ((cs.drop 7).take (P.cellsOf w)) = some y4 := hf 4 ⟨n4, w, 7, false, "", "", b4⟩ rfl
  match cs, hl with
  | [c0, c1, c2, c3, c4, c5, c6, c7], _ =>
    simp only [ck, cu, co, cq, cw] at h0 h1 h2 h3 h4
    obtain ⟨a, e0, _, w0⟩ := DataW.trod_int hk h0
    obtain ⟨b, e1, _, w1⟩ := DataW.trod_int hu h1
    obtain ⟨x, e2⟩ := ho _ _ _ h2
    obtain ⟨c, e3, _, _⟩ := DataW.trod_int hq h3
    obtain ⟨d, e4, _, _⟩ := DataW.trod_int hw h4
    simp at e0 e1 e2 e3 e4
    refine ⟨⟨UInt8.ofNat a.toNat, UInt32.ofNat b.toNat, x, c, d⟩, ?_⟩
    subst e0 e1 e3 e4
    simp only [OpM.c, List.cons.injEq, and_true] at e2
    obtain ⟨rfl, rfl, rfl, rfl⟩ := e2
    simp only [ActM.c]
    rw [← u8_wf w0, ← u32_wf w1]
theorem open_acts {H : Type} {enc : TypeId × Value → H} {w : World} {held : Bool} {n : Nat} {cs : List Value} {y : DataW H × List MemPlace} (h : DataW.trod enc Tryz.prog w 0 (fun _ => true) held n 73 cs = some y) :
    ∃ (v : SV) (xs : List ActM), cs = [v.v] ∧ RL (Old w) 8 ActM.c v.v xs ∧ (xs = [] ∨ ∃ el sp, y.1 = .slice el sp ∧ el.length = xs.length) :=
  slice_rl Tryz.underlying73 (by kernel_rfl) (by decide) actE (fun n cs' y hy => act_cells Tryz.underlying77 Tryz.underlying5 Tryz.underlying22 Tryz.underlying56 Tryz.underlying3 (by kernel_rfl) (by kernel_rfl) (by kernel_rfl) (by kernel_rfl) (by kernel_rfl) (by kernel_rfl) ops_el hy) h
set_option maxRecDepth 100000 in
theorem lifted (os : Os) (started : os.Started) (H : Type) (enc : TypeId × Value → H) :
    ReturnsInHanded {} Tryz.checked os 11 .any (Rows.alphasSureSpec.pre6 enc Tryz.prog Tryz.f11 Rows.alphasSureRow.domain false) (Rows.alphasSureSpec.post enc Tryz.prog Tryz.f11 false true false false) := by
  refine returnsInHanded_of_change_sized (C := Tryz.checked) own started (by kernel_rfl) Tryz.func11
    (ChangeSpec.witness6 (enc := enc) (C := Tryz.checked) false ⟨#[], #[.slice none 0 0, .int .u64 0, .int .i64 0], []⟩ 8 (by kernel_rfl) (by kernel_rfl) (by kernel_rfl) (by kernel_rfl)) ?_
  intro W base args ds gs before hval0 hW hcnd hsz0 _
  have hsz : (DataW.weightsEach Tryz.prog (Tryz.f11.params.toList ++ Rows.alphasSureSpec.plain.varTypes Tryz.prog) (ds ++ gs)).all (· ≤ reachBytes) = true := hsz0
  have hval : ∀ (j : Nat) t v, Tryz.f11.params[j]? = some t → args[j]? = some v → Value.okWide Tryz.prog W .any base t v := hval0
  have hW' := hW
  obtain ⟨p, q, hA0, hV, rfl, hfz, hnd⟩ := hW
  have hA : DataW.TrodAll enc Tryz.prog W 0 (fun _ => true) true Tryz.f11.params.toList args.toList ds p := hA0
  rw [Tryz.params11] at hA hval hsz
  obtain ⟨v0, vs0, d0, ds0, p0, q0, hargs, rfl, rfl, h0, r0⟩ := trodAll_cons hA
  obtain ⟨v1, vs1, d1, ds1, p1, q1, rfl, rfl, rfl, h1, r1⟩ := trodAll_cons r0
  obtain ⟨v2, vs2, d2, ds2, p2, q2, rfl, rfl, rfl, h2, r2⟩ := trodAll_cons r1
  obtain ⟨rfl, rfl, rfl⟩ := trodAll_nil r2
  obtain rfl : args = #[v0, v1, v2] := by cases args; simp_all
  obtain ⟨rfl, rfl⟩ := trodVars_none hV
  have k0 := h0
  have lt0 : ∀ x ∈ p0, x.block < W.heap.size := by obtain ⟨m, hm⟩ := k0; exact DataW.trod_lt m _ _ _ hm
  have k1 := h1
  have lt1 : ∀ x ∈ p1, x.block < W.heap.size := by obtain ⟨m, hm⟩ := k1; exact DataW.trod_lt m _ _ _ hm
  have k2 := h2
  have lt2 : ∀ x ∈ p2, x.block < W.heap.size := by obtain ⟨m, hm⟩ := k2; exact DataW.trod_lt m _ _ _ hm
  obtain ⟨a0, l0, c0, rfl⟩ := okWide_slice Tryz.underlying73 (hval 0 73 v0 rfl rfl)
  obtain ⟨w0, x0, e0, g0, m0⟩ := (fun ⟨fuel, hf⟩ => open_acts (by simpa [Value.cells] using hf) : (∃ fuel, DataW.trod enc Tryz.prog W 0 (fun _ => true) true fuel 73 _ = some _) → _) h0
  have e0 := (List.cons.inj e0).1
  rw [← e0] at g0
  obtain ⟨k1', rfl, rfl, rfl, z1⟩ := open_int Tryz.underlying56 (hval 1 56 v1 rfl rfl) h1
  obtain ⟨k2', rfl, rfl, rfl, z2⟩ := open_int Tryz.underlying3 (hval 2 3 v2 rfl rfl) h2
  clear hA0 hval0 hsz0
  refine (below_of_spec1 (Sure_spec (g := W) k1' k2' g0)).mono fun e W' ⟨he, bel⟩ => ?_
  subst he
  exact ⟨_, rfl, _, _, _, [], _, [], hW', trodAll_mk1 (shut_bool Tryz.underlying4 _), (trodAll_cons_mk (Below.trod laidOut (by kernel_rfl) (of_decide_eq_true (by kernel_rfl)) k0 bel lt0) (trodAll_cons_mk (Below.trod laidOut (by kernel_rfl) (of_decide_eq_true (by kernel_rfl)) k1 bel lt1) (trodAll_cons_mk (Below.trod laidOut (by kernel_rfl) (of_decide_eq_true (by kernel_rfl)) k2 bel lt2) trodAll_mk0))), rfl, bel.frame _, fun h => by cases h⟩
theorem over : Rows.alphasSureRow.holds Tryz.pinned (OpenSpec.ofChange Rows.alphasSureSpec) :=
  OpenClaim.holds_of_wide 11 Tryz.f11 rfl rfl rfl rfl rfl rfl rfl ⟨rfl, rfl, rfl, rfl, rfl⟩ rfl rfl rfl rfl rfl (by kernel_rfl) Tryz.func11 (by kernel_rfl)
    (of_decide_eq_true (by kernel_rfl)) (by unfold Func.isWrapper; first | (rw [if_pos (by decide +kernel)]; kernel_rfl) | (rw [if_neg (by decide +kernel)]; exact ⟨rfl, rfl⟩))
    (fun os started H enc _ => lifted os started H enc)
theorem proved : Rows.AlphasSureSaid := over
#print axioms proved
end Go.Proofs.YtdpmpcoekkhceaaGreat.alphasSure
namespace Go.Proofs.YtdpmpcoekkhceaaGreat
/-- The row, under a short name. -/
theorem alphasSure_holds : Rows.AlphasSureSaid := alphasSure.proved
end Go.Proofs.YtdpmpcoekkhceaaGreat
