/- SitesTouched holds for every input. Conditions: none. -/
import Derived.Test.YtegjbklnhiionaaGreatRows
import Derived.Test.YtegjbklnhiionaaGreatQT24
namespace Go.Proofs.YtegjbklnhiionaaGreat.sitesTouched
open Go.ChangeShapes Go.WideShapes Go.ChangeAt Go.RowKit Go.SL
set_option linter.unusedVariables false
theorem own : ownKnob Tryz.prog.godebug = none := by kernel_rfl
theorem ZmW_ : laidOutB Tryz.prog = true := by kernel_rfl
set_option maxRecDepth 100000 in
theorem ZmX_ {H : Type} {enc : TypeId × Value → H} {w : World} {held : Bool} (n : Nat) (cs : List Value) (y : DataW H × List MemPlace) (h : DataW.trod enc Tryz.prog w 0 (fun _ => true) held n 45 cs = some y) : ∃ x : SpanM, cs = x.c := by
  obtain ⟨z0, z1, m2, hx2, hl, g0, g1⟩ := trod_struct2 Tryz.underlying45 h
  obtain ⟨s0, e0, _, _⟩ := DataW.trod_string Tryz.underlying9 g0
  obtain ⟨s1, e1, _, _⟩ := DataW.trod_string Tryz.underlying9 g1
  have k9 : Tryz.prog.cellsOf 9 = 1 := by kernel_rfl
  have k8 : Tryz.prog.cellsOf 45 = 2 := by kernel_rfl
  rw [k8] at hl
  match cs, hl with
  | [a, b], _ =>
    simp only [k9] at e0 e1
    simp at e0 e1
    subst e0 e1
    exact ⟨⟨s0, s1⟩, rfl⟩
theorem ZnI_ {H : Type} {enc : TypeId × Value → H} {w : World} {held : Bool} (n : Nat) (cs : List Value) (y : DataW H × List MemPlace) (h : DataW.trod enc Tryz.prog w 0 (fun _ => true) held n 26 cs = some y) : ∃ x : OpM, cs = x.c :=
  ZlD_ Tryz.underlying26 Tryz.underlying23 Tryz.underlying9 Tryz.underlying24 (by kernel_rfl) (by kernel_rfl) (by kernel_rfl) (by kernel_rfl) h
set_option maxRecDepth 100000 in
theorem ZdE_ {H : Type} {enc : TypeId × Value → H} {w : World} {held : Bool} {r : Reach} {b0 : Nat} {v : Value} {d : DataW H} {p : List MemPlace}
    (hv : Value.okWide Tryz.prog w r b0 52 v) (h : DataW.Trod enc Tryz.prog w 0 (fun _ => true) held 52 v d p) : ∃ (en : UInt8) (so sv : SV) (ops : List OpM) (l : List SpanM) (c : Bool), v = .agg #[.int .u8 en.toNat, so.v, sv.v, .bool c] ∧ RL (Old w) 4 OpM.c so.v ops ∧ RL (Old w) 2 SpanM.c sv.v l := by
  obtain ⟨cs, rfl, hsz⟩ := okWide_struct Tryz.underlying52 hv
  have hC : Tryz.prog.cellsOf 52 = 4 := by kernel_rfl
  obtain ⟨c0, c1, c2, c3, rfl⟩ : ∃ c0 c1 c2 c3, cs = #[c0, c1, c2, c3] := by
    obtain ⟨l⟩ := cs
    match l, hsz.trans hC with
    | [c0, c1, c2, c3], _ => exact ⟨c0, c1, c2, c3, rfl⟩
  obtain ⟨fuel, hf⟩ := h
  obtain ⟨z0, z1, z2, z3, m, hx, _, g0, g1, g2, g3⟩ := Go.Joins.trod_struct4 Tryz.underlying52 hf
  obtain ⟨s0, e0, _, w0⟩ := DataW.trod_int Tryz.underlying5 g0
  obtain ⟨so, ops, e1, hO, _⟩ := Zfq_ Tryz.underlying50 (by kernel_rfl) (by decide) opE ZnI_ g1
  obtain ⟨sv, l, e2, hA, _⟩ := Zfq_ Tryz.underlying22 (by kernel_rfl) (by decide) Ja' ZmX_ g2
  obtain ⟨s3, e3, _⟩ := DataW.trod_bool Tryz.underlying4 g3
  have k1 : Tryz.prog.cellsOf 5 = 1 := by kernel_rfl
  have k2 : Tryz.prog.cellsOf 50 = 1 := by kernel_rfl
  have k3 : Tryz.prog.cellsOf 22 = 1 := by kernel_rfl
  have k4 : Tryz.prog.cellsOf 4 = 1 := by kernel_rfl
  simp only [k1, k2, k3, k4, Value.cells] at e0 e1 e2 e3
  simp at e0 e1 e2 e3
  subst e0 e1 e2 e3
  refine ⟨UInt8.ofNat s0.toNat, so, sv, ops, l, s3, ?_, hO, hA⟩
  rw [← ZlS_ w0]
set_option maxRecDepth 100000 in
theorem ZnJ_ (os : Os) (started : os.Started) (H : Type) (enc : TypeId × Value → H) :
    ReturnsInHanded {} Tryz.checked os 4 .any (Rows.sitesTouchedSpec.pre6 enc Tryz.prog Tryz.f4 Rows.sitesTouchedRow.domain false) (Rows.sitesTouchedSpec.post enc Tryz.prog Tryz.f4 false true false false) := by
  refine returnsInHanded_of_change_sized (C := Tryz.checked) own started (by kernel_rfl) Tryz.func4
    (ChangeSpec.witness6 (enc := enc) (C := Tryz.checked) false ⟨#[], #[.agg #[.int .u8 0, .slice none 0 0, .slice none 0 0, .bool false]], []⟩ 8 (by kernel_rfl) (by kernel_rfl) (by kernel_rfl) (by kernel_rfl)) ?_
  intro W base args ds gs before hval0 hW hcnd hsz0 _
  have hsz : (DataW.weightsEach Tryz.prog (Tryz.f4.params.toList ++ Rows.sitesTouchedSpec.plain.varTypes Tryz.prog) (ds ++ gs)).all (· ≤ reachBytes) = true := hsz0
  have hval : ∀ (j : Nat) t v, Tryz.f4.params[j]? = some t → args[j]? = some v → Value.okWide Tryz.prog W .any base t v := hval0
  have hW' := hW
  obtain ⟨p, q, hA0, hV, rfl, hfz, hnd⟩ := hW
  have hA : DataW.TrodAll enc Tryz.prog W 0 (fun _ => true) true Tryz.f4.params.toList args.toList ds p := hA0
  rw [Tryz.params4] at hA hval hsz
  obtain ⟨v0, vs0, d0, ds0, p0, q0, hargs, rfl, rfl, h0, r0⟩ := trodAll_cons hA
  obtain ⟨rfl, rfl, rfl⟩ := trodAll_nil r0
  obtain rfl : args = #[v0] := by cases args; simp_all
  obtain ⟨rfl, rfl⟩ := trodVars_none hV
  have k0 := h0
  have lt0 : ∀ x ∈ p0, x.block < W.heap.size := by obtain ⟨m, hm⟩ := k0; exact DataW.trod_lt m _ _ _ hm
  obtain ⟨en, so, sv, ops, l, c, rfl, hO, hR⟩ := ZdE_ (hval 0 52 v0 rfl rfl) h0
  clear hA0 hval0 hsz0
  refine (Zc2_ (Zfp_ (g := W) en c hO hR)).mono fun e W' ⟨he, bel⟩ => ?_
  subst he
  exact ⟨_, rfl, _, _, _, [], _, [], hW', trodAll_mk1 (shut_bool Tryz.underlying4 _), (trodAll_cons_mk (Below.trod ZmW_ (by kernel_rfl) (of_decide_eq_true (by kernel_rfl)) k0 bel lt0) trodAll_mk0), rfl, bel.frame _, fun h => by cases h⟩
theorem over : Rows.sitesTouchedRow.holds Tryz.pinned (OpenSpec.ofChange Rows.sitesTouchedSpec) :=
  OpenClaim.holds_of_wide 4 Tryz.f4 rfl rfl rfl rfl rfl rfl rfl ⟨rfl, rfl, rfl, rfl, rfl⟩ rfl rfl rfl rfl rfl (by kernel_rfl) Tryz.func4 (by kernel_rfl)
    (of_decide_eq_true (by kernel_rfl)) (by unfold Func.isWrapper; first | (rw [if_pos (by decide +kernel)]; kernel_rfl) | (rw [if_neg (by decide +kernel)]; exact ⟨rfl, rfl⟩))
    (fun os started H enc _ => ZnJ_ os started H enc)
theorem proved : Rows.SitesTouchedSaid := over
#print axioms proved
end Go.Proofs.YtegjbklnhiionaaGreat.sitesTouched
namespace Go.Proofs.YtegjbklnhiionaaGreat
/-- The row, under a short name. -/
theorem sitesTouched_holds : Rows.SitesTouchedSaid := sitesTouched.proved
end Go.Proofs.YtegjbklnhiionaaGreat
