/- BetasPlay holds for every input. Condition: three tables of the library hold what the program lays in them (the card ties that to its text). -/
import Derived.Test.YtjllpjpokkmaiaaGreatDoorCards
import Derived.Test.YtjllpjpokkmaiaaGreatDoorTie
import Derived.WalkKit
import Derived.ProofKit
import Derived.OpenShut
import Derived.Deep.DeepHandedRow
import Derived.Lib.LaidTab
import Derived.LaidSub
import Derived.SevenTiedAt
import Derived.Test.YtjllpjpokkmaiaaGreatDoorQB22
namespace Go.Proofs.YtjllpjpokkmaiaaGreatDoor.betasPlay
open Go.ChangeShapes Go.WideShapes Go.ChangeAt Go.RowKit Go.SL
set_option linter.unusedVariables false
theorem own : ownKnob Tryz.prog.godebug = none := by kernel_rfl
theorem laidOut : laidOutB Tryz.prog = true := by kernel_rfl
theorem op_big {H : Type} {enc : TypeId × Value → H} {P : Program} {W : World} {held : Bool} {t k s u : TypeId} {b0 b1 b2 b3 : Nat} {n0 n1 n2 n3 : String} {fuel : Nat} {cs : List Value} {y : DataW H × List MemPlace} (ht : P.underlying t = some (.struct #[⟨n0, k, 0, false, "", "", b0⟩, ⟨n1, s, 1, false, "", "", b1⟩, ⟨n2, s, 2, false, "", "", b2⟩, ⟨n3, u, 3, false, "", "", b3⟩]))
    (hk : P.underlying k = some (.int .u8)) (hs : P.underlying s = some .string) (hu : P.underlying u = some (.int .u32)) (ct : P.cellsOf t = 4) (ck : P.cellsOf k = 1) (c1 : P.cellsOf s = 1) (cu : P.cellsOf u = 1)
    (h : DataW.trod enc P W 0 (fun _ => true) held fuel t cs = some y) : ∃ x : OpM, cs = x.c ∧ x.key.size ≤ 9223372036854775807 ∧ x.to.size ≤ 9223372036854775807 := by
  obtain ⟨y0, y1, y2, y3, m, hx, hl, h0, h1, h2, h3⟩ := Go.Joins.trod_struct4 ht h
  rw [ct] at hl
  match cs, hl with
  | [a, b, c, d], _ =>
    simp only [ck, c1, cu] at h0 h1 h2 h3
    obtain ⟨n, e0, _, w0⟩ := DataW.trod_int hk h0
    obtain ⟨s1, e1, _, z1⟩ := DataW.trod_string hs h1
    obtain ⟨s2, e2, _, z2⟩ := DataW.trod_string hs h2
    obtain ⟨v, e3, _, w3⟩ := DataW.trod_int hu h3
    simp at e0 e1 e2 e3
    subst e0 e1 e2 e3
    have hm : maxLen ≤ 9223372036854775807 := by decide
    refine ⟨⟨UInt8.ofNat n.toNat, s1, s2, UInt32.ofNat v.toNat⟩, ?_, by show s1.size ≤ _; omega, by show s2.size ≤ _; omega⟩
    simp only [OpM.c]
    rw [← u8_wf w0, ← u32_wf w3]
theorem ops_el {H : Type} {enc : TypeId × Value → H} {w : World} {held : Bool} (n : Nat) (cs : List Value) (y : DataW H × List MemPlace) (h : DataW.trod enc Tryz.prog w 0 (fun _ => true) held n 51 cs = some y) : ∃ x : OpM, cs = x.c ∧ x.key.size ≤ 9223372036854775807 ∧ x.to.size ≤ 9223372036854775807 :=
  op_big Tryz.underlying51 Tryz.underlying49 Tryz.underlying9 Tryz.underlying48 (by kernel_rfl) (by kernel_rfl) (by kernel_rfl) (by kernel_rfl) h
def Big (x : ActM) : Prop := x.op.key.size ≤ 9223372036854775807 ∧ x.op.to.size ≤ 9223372036854775807
theorem act_big {P : Program} {W : World} {held : Bool} {H : Type} {enc : TypeId × Value → H} {t k u o q w : TypeId} {b0 b1 b2 b3 b4 : Nat} {n0 n1 n2 n3 n4 : String} {fuel : Nat} {cs : List Value} {y : DataW H × List MemPlace}
    (ht : P.underlying t = some (.struct #[⟨n0, k, 0, false, "", "", b0⟩, ⟨n1, u, 1, false, "", "", b1⟩, ⟨n2, o, 2, false, "", "", b2⟩, ⟨n3, q, 6, false, "", "", b3⟩, ⟨n4, w, 7, false, "", "", b4⟩]))
    (hk : P.underlying k = some (.int .u8)) (hu : P.underlying u = some (.int .u32)) (hq : P.underlying q = some (.int .u64)) (hw : P.underlying w = some (.int .i64)) (ct : P.cellsOf t = 8) (ck : P.cellsOf k = 1) (cu : P.cellsOf u = 1) (co : P.cellsOf o = 4) (cq : P.cellsOf q = 1) (cw : P.cellsOf w = 1)
    (ho : ∀ n cs' y', DataW.trod enc P W 0 (fun _ => true) held n o cs' = some y' → ∃ x : OpM, cs' = x.c ∧ x.key.size ≤ 9223372036854775807 ∧ x.to.size ≤ 9223372036854775807)
    (h : DataW.trod enc P W 0 (fun _ => true) held fuel t cs = some y) : ∃ x : { x : ActM // Big x }, cs = x.1.c := by
  obtain ⟨xs, m, _, rfl, hl, hlen, hf⟩ := DataW.trod_struct ht h
  rw [ct] at hl
  match xs, hlen with
  | [y0, y1, y2, y3, y4], _ =>
  have h0 : DataW.trod enc P W 0 (fun _ => true) held m k ((cs.drop 0).take (P.cellsOf k)) = some y0 := hf 0 ⟨n0, k, 0, false, "", "", b0⟩ rfl
  have h1 : DataW.trod enc P W 0 (fun _ => true) held m u ((cs.drop 1).take (P.cellsOf u)) = some y1 := hf 1 ⟨n1, u, 1, false, "", "", b1⟩ rfl
  have h2 : DataW.trod enc P W 0 (fun _ => true) held m o ((cs.drop 2).take (P.cellsOf o)) = some y2 := hf 2 ⟨n2, o, 2, false, "", "", b2⟩ rfl
  have h3 : DataW.trod enc P W 0 (fun _ => true) held m q ((cs.drop 6).take (P.cellsOf q)) = some y3 := hf 3 ⟨n3, q, 6, false, "", "", b3⟩ rfl
  have h4 : DataW.trod enc P W 0 (fun _ => true) held m w ((cs.drop 7).take (P.cellsOf w)) = some y4 := hf 4 ⟨n4, w, 7, false, "", "", b4⟩ rfl
  match cs, hl with
  | [c0, c1, c2, c3, c4, c5, c6, c7], _ =>
    simp only [ck, cu, co, cq, cw] at h0 h1 h2 h3 h4
    obtain ⟨a, e0, _, w0⟩ := DataW.trod_int hk h0
    obtain ⟨b, e1, _, w1⟩ := DataW.trod_int hu h1
    obtain ⟨x, e2, z1, z2⟩ := ho _ _ _ h2
    obtain ⟨c, e3, _, _⟩ := DataW.trod_int hq h3
    obtain ⟨d, e4, _, _⟩ := DataW.trod_int hw h4
    simp at e0 e1 e2 e3 e4
    refine ⟨⟨⟨UInt8.ofNat a.toNat, UInt32.ofNat b.toNat, x, c, d⟩, z1, z2⟩, ?_⟩
    subst e0 e1 e3 e4
    simp only [OpM.c, List.cons.injEq, and_true] at e2
    obtain ⟨rfl, rfl, rfl, rfl⟩ := e2
    simp only [ActM.c]
    rw [← u8_wf w0, ← u32_wf w1]
theorem actBE : EncOk 8 (fun x : { x : ActM // Big x } => x.1.c) := ⟨fun _ => rfl, fun _ => rfl⟩
theorem open_acts {H : Type} {enc : TypeId × Value → H} {w : World} {held : Bool} {n : Nat} {cs : List Value} {y : DataW H × List MemPlace} (h : DataW.trod enc Tryz.prog w 0 (fun _ => true) held n 22 cs = some y) :
    ∃ (v : SV) (xs : List ActM), cs = [v.v] ∧ RL (Old w) 8 ActM.c v.v xs ∧ ∀ x ∈ xs, x.op.key.size ≤ 9223372036854775807 ∧ x.op.to.size ≤ 9223372036854775807 := by
  obtain ⟨v, xs, e, h1, _⟩ := slice_rl Tryz.underlying22 (by kernel_rfl) (by decide) actBE (fun n cs' y hy => act_big Tryz.underlying54 Tryz.underlying5 Tryz.underlying48 Tryz.underlying52 Tryz.underlying3 (by kernel_rfl) (by kernel_rfl) (by kernel_rfl) (by kernel_rfl) (by kernel_rfl) (by kernel_rfl) ops_el hy) h
  refine ⟨v, xs.map (·.1), e, ?_, fun x hx => ?_⟩
  · unfold RL at h1 ⊢
    rw [List.length_map, List.flatMap_map]
    exact h1
  · obtain ⟨y, _, rfl⟩ := List.mem_map.1 hx
    exact y.2
theorem gTab : Tryz.prog.globalNamed "internal/strconv.uint64pow10" = some 0 := by kernel_rfl
theorem gTabType : (Tryz.prog.globals[0]?).map (·.type) = some 354 := by kernel_rfl
theorem cellsT : Tryz.prog.cellsOf 354 = 20 := by kernel_rfl
theorem cellsE : Tryz.prog.cellsOf 52 = 1 := by kernel_rfl
theorem table {W : World} (h : laidMetH Tryz.prog Rows.betasPlayRow.laid W) : Lib.TabIs Tryz.prog W "internal/strconv.uint64pow10" .u64 Lib.pow10Tab :=
  Lib.tabIs_of_head (rest := []) gTab gTabType Tryz.underlying354 Tryz.underlying52 cellsE cellsT (laidMet.filter (fun x => x.1 == "internal/strconv.uint64pow10") h)
theorem tab_old {W : World} (h : laidMetH Tryz.prog Rows.betasPlayRow.laid W) : Tab Tryz.prog (Old W) := fun S w hS hl => by
  have h1 := table h
  unfold Lib.TabIs World.var? at h1 ⊢
  rw [gTab] at h1 ⊢
  simp only [Option.bind_some] at h1 ⊢
  cases hh : W.heap[0]? with
  | none => rw [hh] at h1; cases h1
  | some o =>
    rw [hh] at h1
    rw [show w.heap[0]? = some o from hl _ _ (hS _ _ hh)]
    exact h1
set_option maxRecDepth 100000 in
theorem contract (H : Type) (enc : TypeId × Value → H) (W : World) (base : Nat) (args : Array Value) (ds gs : List (DataW H)) (before : List MemPlace)
    (hval : ∀ (j : Nat) t v, Tryz.f3.params[j]? = some t → args[j]? = some v → Value.okWide Tryz.prog W .any base t v)
    (hW : DataW.Whole enc Tryz.prog Tryz.f3.params.toList Rows.betasPlaySpec.vars false W args.toList ds gs before) (hL : laidMetH Tryz.prog Rows.betasPlayRow.laid W) :
    Calls Tryz.prog 3 args W fun e W' => ∃ v, e = .returned v ∧ Rows.betasPlaySpec.post enc Tryz.prog Tryz.f3 false true false false W args v W' := by
  have hW' := hW
  obtain ⟨p, q, hA0, hV, rfl, hfz, hnd⟩ := hW
  have hA : DataW.TrodAll enc Tryz.prog W 0 (fun _ => true) true Tryz.f3.params.toList args.toList ds p := hA0
  rw [Tryz.params3] at hA hval
  obtain ⟨v0, vs0, d0, ds0, p0, q0, hargs, rfl, rfl, h0, r0⟩ := trodAll_cons hA
  obtain ⟨rfl, rfl, rfl⟩ := trodAll_nil r0
  obtain rfl : args = #[v0] := by cases args; simp_all
  obtain ⟨rfl, rfl⟩ := trodVars_none hV
  have k0 := h0
  have lt0 : ∀ x ∈ p0, x.block < W.heap.size := by obtain ⟨m, hm⟩ := k0; exact DataW.trod_lt m _ _ _ hm
  obtain ⟨a0, l0, c0, rfl⟩ := okWide_slice Tryz.underlying22 (hval 0 22 v0 rfl rfl)
  obtain ⟨w0, x0, e0, g0, m0⟩ := (fun ⟨fuel, hf⟩ => open_acts (by simpa [Value.cells] using hf) : (∃ fuel, DataW.trod enc Tryz.prog W 0 (fun _ => true) true fuel 22 _ = some _) → _) h0
  have e0 := (List.cons.inj e0).1
  rw [← e0] at g0
  clear hA0
  refine (below_of_spec1 (Play_spec (g := W) g0 (tab_old hL) m0)).mono fun e W' ⟨he, bel⟩ => ?_
  subst he
  exact ⟨_, rfl, _, _, _, [], _, [], hW', trodAll_mk1 (shut_bool Tryz.underlying4 _), (trodAll_cons_mk (Below.trod laidOut (by kernel_rfl) (of_decide_eq_true (by kernel_rfl)) k0 bel lt0) trodAll_mk0), rfl, bel.frame _, fun h => by cases h⟩
/-- A world for the witness: the settled one, the tables in their blocks. -/
def lay (cs : Array Value) : Obj → Obj
  | .cells _ t frozen => .cells cs t frozen
  | o => o
noncomputable def laidWorld (os : Os) : World :=
  { World.holding Tryz.prog os ⟨#[], #[], []⟩ with heap := ((((World.holding Tryz.prog os ⟨#[], #[], []⟩).heap.modify 0 (lay #[.int .u64 1, .int .u64 10, .int .u64 100, .int .u64 1000, .int .u64 10000, .int .u64 100000, .int .u64 1000000, .int .u64 10000000, .int .u64 100000000, .int .u64 1000000000, .int .u64 10000000000, .int .u64 100000000000, .int .u64 1000000000000, .int .u64 10000000000000, .int .u64 100000000000000, .int .u64 1000000000000000, .int .u64 10000000000000000, .int .u64 100000000000000000, .int .u64 1000000000000000000, .int .u64 10000000000000000000])).modify 1 (lay #[.int .u8 0, .int .u8 1, .int .u8 28, .int .u8 2, .int .u8 29, .int .u8 14, .int .u8 24, .int .u8 3, .int .u8 30, .int .u8 22, .int .u8 20, .int .u8 15, .int .u8 25, .int .u8 17, .int .u8 4, .int .u8 8, .int .u8 31, .int .u8 27, .int .u8 13, .int .u8 23, .int .u8 21, .int .u8 19, .int .u8 16, .int .u8 7, .int .u8 26, .int .u8 12, .int .u8 18, .int .u8 6, .int .u8 11, .int .u8 5, .int .u8 10, .int .u8 9])).modify 2 (lay #[.int .u8 0, .int .u8 1, .int .u8 56, .int .u8 2, .int .u8 57, .int .u8 49, .int .u8 28, .int .u8 3, .int .u8 61, .int .u8 58, .int .u8 42, .int .u8 50, .int .u8 38, .int .u8 29, .int .u8 17, .int .u8 4, .int .u8 62, .int .u8 47, .int .u8 59, .int .u8 36, .int .u8 45, .int .u8 43, .int .u8 51, .int .u8 22, .int .u8 53, .int .u8 39, .int .u8 33, .int .u8 30, .int .u8 24, .int .u8 18, .int .u8 12, .int .u8 5, .int .u8 63, .int .u8 55, .int .u8 48, .int .u8 27, .int .u8 60, .int .u8 41, .int .u8 37, .int .u8 16, .int .u8 46, .int .u8 35, .int .u8 44, .int .u8 21, .int .u8 52, .int .u8 32, .int .u8 23, .int .u8 11, .int .u8 54, .int .u8 26, .int .u8 40, .int .u8 15, .int .u8 34, .int .u8 20, .int .u8 31, .int .u8 10, .int .u8 25, .int .u8 14, .int .u8 19, .int .u8 9, .int .u8 13, .int .u8 8, .int .u8 7, .int .u8 6])) }
theorem laid_met (os : Os) : laidMet Tryz.prog Rows.betasPlayRow.laid ((laidWorld os).forCall (fun _ _ => 0) ⟨#[], #[.slice none 0 0], []⟩).memory :=
  laidMet_of_run' 8 (by kernel_rfl) (by kernel_rfl)
theorem reads (os : Os) {H : Type} (enc : TypeId × Value → H) : ∃ places, DataW.whole enc Tryz.prog ((laidWorld os).forCall (fun _ _ => 0) ⟨#[], #[.slice none 0 0], []⟩).memory Tryz.f3.params.toList Rows.betasPlaySpec.vars false #[Value.slice none 0 0].toList 8 = some ([.nil], [], places) :=
  ⟨[], by kernel_rfl⟩
set_option maxRecDepth 100000 in
theorem lifted (os : Os) (started : os.Started) (H : Type) (enc : TypeId × Value → H) (F : Stop.Interp) :
    ReturnsInHanded {} Tryz.checked os 3 .any ((OpenSpec.ofChange Rows.betasPlaySpec).preRow enc Tryz.prog Tryz.f3 Rows.betasPlayRow.domain false Rows.betasPlayRow.laid) (((OpenSpec.ofChange Rows.betasPlaySpec).at F).post enc Tryz.prog Tryz.f3 false true false false) := by
  obtain ⟨places, hx⟩ := reads os enc
  refine returnsInHanded_of_row (C := Tryz.checked) (s := OpenSpec.ofChange Rows.betasPlaySpec) own started (by kernel_rfl) Tryz.func3
    (witness_row_at (enc := enc) (C := Tryz.checked) false (laidWorld os) #[.slice none 0 0] rfl (by kernel_rfl) (by kernel_rfl) (by kernel_rfl)
      (OpenSpec.preRow_of_cond 8 hx (by kernel_rfl) (fun k hk => by cases hk) (by kernel_rfl) (laid_met os))) ?_
  intro W base args ds gs before hval hW _ _ _ hL _ _
  exact contract H enc W base args ds gs before hval hW hL
theorem said : Rows.BetasPlaySaid :=
  OpenClaim.holds_of_cond 3 Tryz.f3 rfl rfl rfl rfl rfl rfl rfl ⟨rfl, rfl, rfl, rfl, rfl⟩ rfl rfl rfl rfl rfl (by kernel_rfl) Tryz.func3 (by kernel_rfl)
    (of_decide_eq_true (by kernel_rfl)) (by unfold Func.isWrapper; first | (rw [if_pos (by decide +kernel)]; kernel_rfl) | (rw [if_neg (by decide +kernel)]; exact ⟨rfl, rfl⟩))
    (fun os started H enc _ F => by rw [OpenClaim.pre_eq_preRow]; exact lifted os started H enc F)
theorem plain (f : FuncId) (fn : Func) (hf : Tryz.pinned.checked.prog.funcNamed "concordat/concordatlaw16.BetasPlay" = some f) (hfn : Tryz.pinned.checked.prog.funcs[f]? = some fn) :
    false = Tryz.pinned.checked.prog.looks [] ∧ ∀ (j : Nat) t, fn.params[j]? = some t → Tryz.pinned.checked.prog.wantsStandIn t = false := by
  obtain rfl : f = 3 := Option.some.inj ((show Tryz.prog.funcNamed "concordat/concordatlaw16.BetasPlay" = some 3 by kernel_rfl).symm.trans hf) |>.symm
  obtain rfl : fn = Tryz.f3 := (Option.some.inj (Tryz.func3.symm.trans hfn)).symm
  refine ⟨by kernel_rfl, fun j t ht => ?_⟩
  rw [Tryz.params3] at ht
  obtain rfl : t = 22 := by simpa using Array.mem_of_getElem? ht
  exact (show Tryz.prog.wantsStandIn 22 = false by kernel_rfl)
/-- The card. -/
theorem card : Rows.BetasPlayCardSaid :=
  Claim7.holds_tied_plain_at .later [] _ _ _ _ said (fun _ h => by cases h) (by kernel_rfl) (fun _ h => by cases h) betasPlay_row_tie rfl ⟨rfl, rfl⟩ (by kernel_rfl) rfl plain (by kernel_rfl)
#print axioms card
end Go.Proofs.YtjllpjpokkmaiaaGreatDoor.betasPlay
namespace Go.Proofs.YtjllpjpokkmaiaaGreatDoor
/-- The card, under a short name. -/
theorem betasPlay_holds : Rows.BetasPlayCardSaid := betasPlay.card
end Go.Proofs.YtjllpjpokkmaiaaGreatDoor
