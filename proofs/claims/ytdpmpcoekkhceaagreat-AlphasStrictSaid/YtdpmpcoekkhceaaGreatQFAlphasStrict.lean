/- AlphasStrict holds for every input. Conditions: none. -/
import Derived.Test.YtdpmpcoekkhceaaGreatRows
import Derived.Test.YtdpmpcoekkhceaaGreatQF22
namespace Go.Proofs.YtdpmpcoekkhceaaGreat.alphasStrict
open Go.ChangeShapes Go.WideShapes Go.ChangeAt Go.RowKit Go.SL
set_option linter.unusedVariables false
theorem own : ownKnob Tryz.prog.godebug = none := by kernel_rfl
theorem laidOut : laidOutB Tryz.prog = true := by kernel_rfl
set_option maxRecDepth 100000 in
theorem open_strict {H : Type} {enc : TypeId × Value → H} {w : World} {base : Nat} {spare : Nat → Bool} {held : Bool} {r : Reach} {b0 : Nat} {v : Value} {d : DataW H} {p : List MemPlace}
    (hv : Value.okWide Tryz.prog w r b0 47 v) (h : DataW.Trod enc Tryz.prog w base spare held 47 v d p) : ∃ (a b : UInt32) (c e : Bool), v = .agg #[.int .u32 a.toNat, .int .u32 b.toNat, .bool c, .bool e] := by
  obtain ⟨cs, rfl, hsz⟩ := okWide_struct Tryz.underlying47 hv
  have hC : Tryz.prog.cellsOf 47 = 4 := by kernel_rfl
  obtain ⟨c0, c1, c2, c3, rfl⟩ : ∃ c0 c1 c2 c3, cs = #[c0, c1, c2, c3] := by
    obtain ⟨l⟩ := cs
    match l, hsz.trans hC with
    | [c0, c1, c2, c3], _ => exact ⟨c0, c1, c2, c3, rfl⟩
  obtain ⟨fuel, hf⟩ := h
  obtain ⟨z0, z1, z2, z3, m, hx, _, g0, g1, g2, g3⟩ := Go.Joins.trod_struct4 Tryz.underlying47 hf
  obtain ⟨s0, e0, _, w0⟩ := DataW.trod_int Tryz.underlying22 g0
  obtain ⟨s1, e1, _, w1⟩ := DataW.trod_int Tryz.underlying22 g1
  obtain ⟨s2, e2, _⟩ := DataW.trod_bool Tryz.underlying4 g2
  obtain ⟨s3, e3, _⟩ := DataW.trod_bool Tryz.underlying4 g3
  have k9 : Tryz.prog.cellsOf 22 = 1 := by kernel_rfl
  have k8 : Tryz.prog.cellsOf 4 = 1 := by kernel_rfl
  simp only [k9, k8, Value.cells] at e0 e1 e2 e3
  simp at e0 e1 e2 e3
  subst e0 e1 e2 e3
  refine ⟨UInt32.ofNat s0.toNat, UInt32.ofNat s1.toNat, s2, s3, ?_⟩
  rw [← u32_wf w0, ← u32_wf w1]
set_option maxRecDepth 100000 in
theorem lifted (os : Os) (started : os.Started) (H : Type) (enc : TypeId × Value → H) :
    ReturnsInHanded {} Tryz.checked os 4 .any (Rows.alphasStrictSpec.pre6 enc Tryz.prog Tryz.f4 Rows.alphasStrictRow.domain false) (Rows.alphasStrictSpec.post enc Tryz.prog Tryz.f4 false true false false) := by
  refine returnsInHanded_of_change_sized (C := Tryz.checked) own started (by kernel_rfl) Tryz.func4
    (ChangeSpec.witness6 (enc := enc) (C := Tryz.checked) false ⟨#[], #[.agg #[.int .u32 0, .int .u32 0, .bool false, .bool false]], []⟩ 8 (by kernel_rfl) (by kernel_rfl) (by kernel_rfl) (by kernel_rfl)) ?_
  intro W base args ds gs before hval0 hW hcnd hsz0 _
  have hsz : (DataW.weightsEach Tryz.prog (Tryz.f4.params.toList ++ Rows.alphasStrictSpec.plain.varTypes Tryz.prog) (ds ++ gs)).all (· ≤ reachBytes) = true := hsz0
  have hval : ∀ (j : Nat) t v, Tryz.f4.params[j]? = some t → args[j]? = some v → Value.okWide Tryz.prog W .any base t v := hval0
  have hW' := hW
  obtain ⟨p, q, hA0, hV, rfl, hfz, hnd⟩ := hW
  have hA : DataW.TrodAll enc Tryz.prog W 0 (fun _ => true) true Tryz.f4.params.toList args.toList ds p := hA0
  rw [Tryz.params4] at hA hval hsz
  obtain ⟨v0, vs0, d0, ds0, p0, q0, hargs, rfl, rfl, h0, r0⟩ := trodAll_cons hA
  obtain ⟨rfl, rfl, rfl⟩ := trodAll_nil r0
  obtain rfl : args = #[v0] := by cases args; simp_all
  obtain ⟨rfl, rfl⟩ := trodVars_none hV
  have k0 := h0
  have lt0 : ∀ x ∈ p0, x.block < W.heap.size := by obtain ⟨m, hm⟩ := k0; exact DataW.trod_lt m _ _ _ hm
  obtain ⟨a, b, c, e, rfl⟩ := open_strict (hval 0 47 v0 rfl rfl) h0
  clear hA0 hval0 hsz0
  refine (below_of_spec (Strict_spec (g := W) a b c e)).mono fun e W' ⟨he, bel⟩ => ?_
  subst he
  exact ⟨_, rfl, _, _, _, [], _, [], hW', trodAll_mk1 (shut_bool Tryz.underlying4 _), (trodAll_cons_mk (Below.trod laidOut (by kernel_rfl) (of_decide_eq_true (by kernel_rfl)) k0 bel lt0) trodAll_mk0), rfl, bel.frame _, fun h => by cases h⟩
theorem over : Rows.alphasStrictRow.holds Tryz.pinned (OpenSpec.ofChange Rows.alphasStrictSpec) :=
  OpenClaim.holds_of_wide 4 Tryz.f4 rfl rfl rfl rfl rfl rfl rfl ⟨rfl, rfl, rfl, rfl, rfl⟩ rfl rfl rfl rfl rfl (by kernel_rfl) Tryz.func4 (by kernel_rfl)
    (of_decide_eq_true (by kernel_rfl)) (by unfold Func.isWrapper; first | (rw [if_pos (by decide +kernel)]; kernel_rfl) | (rw [if_neg (by decide +kernel)]; exact ⟨rfl, rfl⟩))
    (fun os started H enc _ => lifted os started H enc)
theorem proved : Rows.AlphasStrictSaid := over
#print axioms proved
end Go.Proofs.YtdpmpcoekkhceaaGreat.alphasStrict
namespace Go.Proofs.YtdpmpcoekkhceaaGreat
/-- The row, under a short name. -/
theorem alphasStrict_holds : Rows.AlphasStrictSaid := alphasStrict.proved
end Go.Proofs.YtdpmpcoekkhceaaGreat
