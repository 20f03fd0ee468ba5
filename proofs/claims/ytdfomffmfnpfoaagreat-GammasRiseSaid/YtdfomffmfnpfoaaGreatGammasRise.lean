/- GammasRise holds for every input. Conditions: none. -/
import Derived.Test.YtdfomffmfnpfoaaGreatRows
import Derived.Test.YtdfomffmfnpfoaaGreatWI
import Derived.Test.YtdfomffmfnpfoaaGreatSLv
namespace Go.Proofs.YtdfomffmfnpfoaaGreat.gammasRise
open Go.ChangeShapes Go.WideShapes Go.ChangeAt Go.RowKit Go.SL
set_option linter.unusedVariables false
theorem own : ownKnob Tryz.prog.godebug = none := by kernel_rfl
theorem laidOut : laidOutB Tryz.prog = true := by kernel_rfl
theorem ops_el {H : Type} {enc : TypeId × Value → H} {w : World} {held : Bool} (n : Nat) (cs : List Value) (y : DataW H × List MemPlace) (h : DataW.trod enc Tryz.prog w 0 (fun _ => true) held n 34 cs = some y) : ∃ x : OpM, cs = x.c :=
  op_cells Tryz.underlying34 Tryz.underlying32 Tryz.underlying9 Tryz.underlying31 (by kernel_rfl) (by kernel_rfl) (by kernel_rfl) (by kernel_rfl) h
theorem open_ops {H : Type} {enc : TypeId × Value → H} {w : World} {held : Bool} {n : Nat} {cs : List Value} {y : DataW H × List MemPlace} (h : DataW.trod enc Tryz.prog w 0 (fun _ => true) held n 41 cs = some y) :
    ∃ (v : SV) (xs : List OpM), cs = [v.v] ∧ RL (Old w) 4 OpM.c v.v xs ∧ (xs = [] ∨ ∃ el sp, y.1 = .slice el sp ∧ el.length = xs.length) :=
  slice_rl Tryz.underlying41 (by kernel_rfl) (by decide) opE ops_el h
abbrev SubL (w : World) := { x : SV × List OpM // RL (Old w) 4 OpM.c x.1.v x.2 }
def subC (w : World) (x : SubL w) : List Value := [x.1.1.v]
theorem subE (w : World) : EncOk 1 (subC w) := ⟨fun _ => rfl, fun _ => rfl⟩
theorem open_lists {H : Type} {enc : TypeId × Value → H} {w : World} {held : Bool} {n : Nat} {cs : List Value} {y : DataW H × List MemPlace} (h : DataW.trod enc Tryz.prog w 0 (fun _ => true) held n 58 cs = some y) :
    ∃ (v : SV) (ls : List (SV × List OpM)), cs = [v.v] ∧ RL (Old w) 1 lC v.v ls ∧ (∀ x ∈ ls, RL (Old w) 4 OpM.c x.1.v x.2) ∧ (ls = [] ∨ ∃ el sp, y.1 = .slice el sp ∧ el.length = ls.length) := by
  obtain ⟨v, xs, h1, h2, h3⟩ := slice_rl (c := subC w) Tryz.underlying58 (by kernel_rfl) (by decide) (subE w) (fun n cs' y hy => by
    obtain ⟨v, xs, e, h1, _⟩ := open_ops hy
    exact ⟨⟨(v, xs), h1⟩, e⟩) h
  refine ⟨v, xs.map (·.1), h1, ?_, fun x hx => ?_, by rcases h3 with rfl | h3; exact .inl rfl; exact .inr (by simpa using h3)⟩
  · have e : (xs.map (·.1)).flatMap lC = xs.flatMap (subC w) := by rw [List.flatMap_map]; rfl
    unfold RL at h2 ⊢
    rw [e, List.length_map]; exact h2
  · obtain ⟨z, _, rfl⟩ := List.mem_map.1 hx
    exact z.2
set_option maxRecDepth 100000 in
theorem lifted (os : Os) (started : os.Started) (H : Type) (enc : TypeId × Value → H) :
    ReturnsInHanded {} Tryz.checked os 5 .any (Rows.gammasRiseSpec.pre6 enc Tryz.prog Tryz.f5 Rows.gammasRiseRow.domain false) (Rows.gammasRiseSpec.post enc Tryz.prog Tryz.f5 false true false false) := by
  refine returnsInHanded_of_change_sized (C := Tryz.checked) own started (by kernel_rfl) Tryz.func5
    (ChangeSpec.witness6 (enc := enc) (C := Tryz.checked) false ⟨#[], #[.slice none 0 0], []⟩ 8 (by kernel_rfl) (by kernel_rfl) (by kernel_rfl) (by kernel_rfl)) ?_
  intro W base args ds gs before hval0 hW hcnd hsz0 _
  have hsz : (DataW.weightsEach Tryz.prog (Tryz.f5.params.toList ++ Rows.gammasRiseSpec.plain.varTypes Tryz.prog) (ds ++ gs)).all (· ≤ reachBytes) = true := hsz0
  have hval : ∀ (j : Nat) t v, Tryz.f5.params[j]? = some t → args[j]? = some v → Value.okWide Tryz.prog W .any base t v := hval0
  have hW' := hW
  obtain ⟨p, q, hA0, hV, rfl, hfz, hnd⟩ := hW
  have hA : DataW.TrodAll enc Tryz.prog W 0 (fun _ => true) true Tryz.f5.params.toList args.toList ds p := hA0
  rw [Tryz.params5] at hA hval hsz
  obtain ⟨v0, vs0, d0, ds0, p0, q0, hargs, rfl, rfl, h0, r0⟩ := trodAll_cons hA
  obtain ⟨rfl, rfl, rfl⟩ := trodAll_nil r0
  obtain rfl : args = #[v0] := by cases args; simp_all
  obtain ⟨rfl, rfl⟩ := trodVars_none hV
  have k0 := h0
  have lt0 : ∀ x ∈ p0, x.block < W.heap.size := by obtain ⟨m, hm⟩ := k0; exact DataW.trod_lt m _ _ _ hm
  obtain ⟨a0, l0, c0, rfl⟩ := okWide_slice Tryz.underlying58 (hval 0 58 v0 rfl rfl)
  obtain ⟨w0, x0, e0, g0, g1, m0⟩ := (fun ⟨fuel, hf⟩ => open_lists (by simpa [Value.cells] using hf) : (∃ fuel, DataW.trod enc Tryz.prog W 0 (fun _ => true) true fuel 58 _ = some _) → _) h0
  have e0 := (List.cons.inj e0).1
  rw [← e0] at g0
  have m0 := sized_len hsz (j := 0) (t := 58) rfl rfl Tryz.underlying58 (by kernel_rfl) m0
  clear hA0 hval0 hsz0
  refine (below_of_spec1 (Rise_spec (g := W) g0 g1 m0)).mono fun e W' ⟨he, bel⟩ => ?_
  subst he
  exact ⟨_, rfl, _, _, _, [], _, [], hW', trodAll_mk1 (shut_bool Tryz.underlying4 _), (trodAll_cons_mk (Below.trod laidOut (by kernel_rfl) (of_decide_eq_true (by kernel_rfl)) k0 bel lt0) trodAll_mk0), rfl, bel.frame _, fun h => by cases h⟩
theorem over : Rows.gammasRiseRow.holds Tryz.pinned (OpenSpec.ofChange Rows.gammasRiseSpec) :=
  OpenClaim.holds_of_wide 5 Tryz.f5 rfl rfl rfl rfl rfl rfl rfl ⟨rfl, rfl, rfl, rfl, rfl⟩ rfl rfl rfl rfl rfl (by kernel_rfl) Tryz.func5 (by kernel_rfl)
    (of_decide_eq_true (by kernel_rfl)) (by unfold Func.isWrapper; first | (rw [if_pos (by decide +kernel)]; kernel_rfl) | (rw [if_neg (by decide +kernel)]; exact ⟨rfl, rfl⟩))
    (fun os started H enc _ => lifted os started H enc)
theorem proved : Rows.GammasRiseSaid := over
#print axioms proved
end Go.Proofs.YtdfomffmfnpfoaaGreat.gammasRise
namespace Go.Proofs.YtdfomffmfnpfoaaGreat
/-- The row, under a short name. -/
theorem gammasRise_holds : Rows.GammasRiseSaid := gammasRise.proved
end Go.Proofs.YtdfomffmfnpfoaaGreat
