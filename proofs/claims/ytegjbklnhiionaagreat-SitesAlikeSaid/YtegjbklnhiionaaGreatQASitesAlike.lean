/- SitesAlike holds for every input. Conditions: none. -/
import Derived.Test.YtegjbklnhiionaaGreatRows
import Derived.Test.YtegjbklnhiionaaGreatQA24
namespace Go.Proofs.YtegjbklnhiionaaGreat.sitesAlike
open Go.ChangeShapes Go.WideShapes Go.ChangeAt Go.RowKit Go.SL
set_option linter.unusedVariables false
theorem own : ownKnob Tryz.prog.godebug = none := by kernel_rfl
theorem ZgN_ : laidOutB Tryz.prog = true := by kernel_rfl
theorem ZnC_ {H : Type} {enc : TypeId × Value → H} {w : World} {held : Bool} (n : Nat) (cs : List Value) (y : DataW H × List MemPlace) (h : DataW.trod enc Tryz.prog w 0 (fun _ => true) held n 26 cs = some y) : ∃ x : OpM, cs = x.c :=
  Zlz_ Tryz.underlying26 Tryz.underlying23 Tryz.underlying9 Tryz.underlying24 (by kernel_rfl) (by kernel_rfl) (by kernel_rfl) (by kernel_rfl) h
theorem ZlA_ {H : Type} {enc : TypeId × Value → H} {w : World} {held : Bool} {n : Nat} {cs : List Value} {y : DataW H × List MemPlace} (h : DataW.trod enc Tryz.prog w 0 (fun _ => true) held n 50 cs = some y) :
    ∃ (v : SV) (xs : List OpM), cs = [v.v] ∧ RL (Old w) 4 OpM.c v.v xs ∧ (xs = [] ∨ ∃ el sp, y.1 = .slice el sp ∧ el.length = xs.length) :=
  ZbC_ Tryz.underlying50 (by kernel_rfl) (by decide) opE ZnC_ h
theorem Zka_ {H : Type} {enc : TypeId × Value → H} {w : World} {held : Bool} {n : Nat} {cs : List Value} {y : DataW H × List MemPlace} (h : DataW.trod enc Tryz.prog w 0 (fun _ => true) held n 56 cs = some y) :
    ∃ (v : SV) (xs : List (Zfp_ (Old w))), cs = [v.v] ∧ RL (Old w) 1 opsC v.v xs ∧ (xs = [] ∨ ∃ el sp, y.1 = .slice el sp ∧ el.length = xs.length) :=
  ZbC_ Tryz.underlying56 (by kernel_rfl) (by decide) opsE (fun n cs y h => by obtain ⟨v, xs, e, hR, _⟩ := ZlA_ h; exact ⟨⟨(v, xs), hR⟩, e⟩) h
theorem Zih_ {H : Type} {enc : TypeId × Value → H} {w : World} {held : Bool} {n : Nat} {cs : List Value} {y : DataW H × List MemPlace} (h : DataW.trod enc Tryz.prog w 0 (fun _ => true) held n 57 cs = some y) :
    ∃ (v : SV) (xs : List Bool), cs = [v.v] ∧ RL (Old w) 1 Zif_ v.v xs ∧ (xs = [] ∨ ∃ el sp, y.1 = .slice el sp ∧ el.length = xs.length) :=
  ZbC_ Tryz.underlying57 (by kernel_rfl) (by decide) ZlX_ (fun n cs y h => by obtain ⟨b, e, _⟩ := DataW.trod_bool Tryz.underlying4 h; exact ⟨b, e⟩) h
set_option maxRecDepth 100000 in
theorem ZnD_ (os : Os) (started : os.Started) (H : Type) (enc : TypeId × Value → H) :
    ReturnsInHanded {} Tryz.checked os 5 .any (Rows.sitesAlikeSpec.pre6 enc Tryz.prog Tryz.f5 Rows.sitesAlikeRow.domain false) (Rows.sitesAlikeSpec.post enc Tryz.prog Tryz.f5 false true false false) := by
  refine returnsInHanded_of_change_sized (C := Tryz.checked) own started (by kernel_rfl) Tryz.func5
    (ChangeSpec.witness6 (enc := enc) (C := Tryz.checked) false ⟨#[], #[.slice none 0 0, .slice none 0 0], []⟩ 8 (by kernel_rfl) (by kernel_rfl) (by kernel_rfl) (by kernel_rfl)) ?_
  intro W base args ds gs before hval0 hW hcnd hsz0 _
  have hsz : (DataW.weightsEach Tryz.prog (Tryz.f5.params.toList ++ Rows.sitesAlikeSpec.plain.varTypes Tryz.prog) (ds ++ gs)).all (· ≤ reachBytes) = true := hsz0
  have hval : ∀ (j : Nat) t v, Tryz.f5.params[j]? = some t → args[j]? = some v → Value.okWide Tryz.prog W .any base t v := hval0
  have hW' := hW
  obtain ⟨p, q, hA0, hV, rfl, hfz, hnd⟩ := hW
  have hA : DataW.TrodAll enc Tryz.prog W 0 (fun _ => true) true Tryz.f5.params.toList args.toList ds p := hA0
  rw [Tryz.params5] at hA hval hsz
  obtain ⟨v0, vs0, d0, ds0, p0, q0, hargs, rfl, rfl, h0, r0⟩ := trodAll_cons hA
  obtain ⟨v1, vs1, d1, ds1, p1, q1, rfl, rfl, rfl, h1, r1⟩ := trodAll_cons r0
  obtain ⟨rfl, rfl, rfl⟩ := trodAll_nil r1
  obtain rfl : args = #[v0, v1] := by cases args; simp_all
  obtain ⟨rfl, rfl⟩ := trodVars_none hV
  have k0 := h0
  have lt0 : ∀ x ∈ p0, x.block < W.heap.size := by obtain ⟨m, hm⟩ := k0; exact DataW.trod_lt m _ _ _ hm
  have k1 := h1
  have lt1 : ∀ x ∈ p1, x.block < W.heap.size := by obtain ⟨m, hm⟩ := k1; exact DataW.trod_lt m _ _ _ hm
  obtain ⟨a0, l0, c0, rfl⟩ := okWide_slice Tryz.underlying56 (hval 0 56 v0 rfl rfl)
  obtain ⟨w0, x0, e0, g0, m0⟩ := (fun ⟨fuel, hf⟩ => Zka_ (by simpa [Value.cells] using hf) : (∃ fuel, DataW.trod enc Tryz.prog W 0 (fun _ => true) true fuel 56 _ = some _) → _) h0
  have e0 := (List.cons.inj e0).1
  rw [← e0] at g0
  obtain ⟨a1, l1, c1, rfl⟩ := okWide_slice Tryz.underlying57 (hval 1 57 v1 rfl rfl)
  obtain ⟨w1, x1, e1, g1, m1⟩ := (fun ⟨fuel, hf⟩ => Zih_ (by simpa [Value.cells] using hf) : (∃ fuel, DataW.trod enc Tryz.prog W 0 (fun _ => true) true fuel 57 _ = some _) → _) h1
  have e1 := (List.cons.inj e1).1
  rw [← e1] at g1
  clear hA0 hval0 hsz0
  refine (Zc3_ (Zig_ (g := W) g0 g1)).mono fun e W' ⟨he, bel⟩ => ?_
  subst he
  exact ⟨_, rfl, _, _, _, [], _, [], hW', trodAll_mk1 (shut_bool Tryz.underlying4 _), (trodAll_cons_mk (Below.trod ZgN_ (by kernel_rfl) (of_decide_eq_true (by kernel_rfl)) k0 bel lt0) (trodAll_cons_mk (Below.trod ZgN_ (by kernel_rfl) (of_decide_eq_true (by kernel_rfl)) k1 bel lt1) trodAll_mk0)), rfl, bel.frame _, fun h => by cases h⟩
theorem over : Rows.sitesAlikeRow.holds Tryz.pinned (OpenSpec.ofChange Rows.sitesAlikeSpec) :=
  OpenClaim.holds_of_wide 5 Tryz.f5 rfl rfl rfl rfl rfl rfl rfl ⟨rfl, rfl, rfl, rfl, rfl⟩ rfl rfl rfl rfl rfl (by kernel_rfl) Tryz.func5 (by kernel_rfl)
    (of_decide_eq_true (by kernel_rfl)) (by unfold Func.isWrapper; first | (rw [if_pos (by decide +kernel)]; kernel_rfl) | (rw [if_neg (by decide +kernel)]; exact ⟨rfl, rfl⟩))
    (fun os started H enc _ => ZnD_ os started H enc)
theorem proved : Rows.SitesAlikeSaid := over
#print axioms proved
end Go.Proofs.YtegjbklnhiionaaGreat.sitesAlike
namespace Go.Proofs.YtegjbklnhiionaaGreat
/-- The row, under a short name. -/
theorem sitesAlike_holds : Rows.SitesAlikeSaid := sitesAlike.proved
end Go.Proofs.YtegjbklnhiionaaGreat
