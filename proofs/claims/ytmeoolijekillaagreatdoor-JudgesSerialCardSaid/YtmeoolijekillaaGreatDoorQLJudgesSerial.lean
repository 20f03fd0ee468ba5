/- JudgesSerial holds for every input. Condition: three tables of the library hold what the program lays in them (the card ties that to its text). -/
import Derived.Test.YtmeoolijekillaaGreatDoorCards
import Derived.Test.YtmeoolijekillaaGreatDoorTie
import Derived.WalkKit
import Derived.ProofKit
import Derived.OpenShut
import Derived.Deep.DeepHandedRow
import Derived.LaidSub
import Derived.SevenTiedAt
import Derived.Lib.LaidTab
import Derived.Laws.IdiomArrays
import Derived.Test.YtmeoolijekillaaGreatDoorQL1
import Derived.Test.YtmeoolijekillaaGreatDoorQL2
import Derived.Test.YtmeoolijekillaaGreatDoorQL3
import Derived.Test.YtmeoolijekillaaGreatDoorQL4
import Derived.Test.YtmeoolijekillaaGreatDoorQL5
import Derived.Test.YtmeoolijekillaaGreatDoorQL27
namespace Go.Proofs.YtmeoolijekillaaGreatDoor.judgesSerial
open Go.ChangeShapes Go.WideShapes Go.ChangeAt Go.RowKit Go.SL
set_option linter.unusedVariables false
theorem own : ownKnob Tryz.prog.godebug = none := by kernel_rfl
theorem laidOut : laidOutB Tryz.prog = true := by kernel_rfl
set_option maxRecDepth 100000 in
theorem row_el {H : Type} {enc : TypeId × Value → H} {w : World} {held : Bool} (n : Nat) (cs : List Value) (y : DataW H × List MemPlace) (h : DataW.trod enc Tryz.prog w 0 (fun _ => true) held n 59 cs = some y) (hw : Light Tryz.prog 59 y.1) : ∃ x : { r : RowM // r.key.size ≤ 140737488351232 }, cs = x.1.c := by
  obtain ⟨xs, m, _, rfl, hl, hlen, hf⟩ := DataW.trod_struct Tryz.underlying59 h
  have hwe := light_agg Tryz.underlying59 hw
  have hC : Tryz.prog.cellsOf 59 = 2 := by kernel_rfl
  rw [hC] at hl
  replace hlen : xs.length = 2 := hlen
  match xs, hlen with
  | [y0, y1], _ =>
  have g0 : DataW.trod enc Tryz.prog w 0 (fun _ => true) held m 9 ((cs.drop 0).take (Tryz.prog.cellsOf 9)) = some y0 := hf 0 _ rfl
  have w0 : Light Tryz.prog 9 y0.1 := light_each hwe (j := 0) rfl rfl
  have g1 : DataW.trod enc Tryz.prog w 0 (fun _ => true) held m 35 ((cs.drop 1).take (Tryz.prog.cellsOf 35)) = some y1 := hf 1 _ rfl
  have w1 : Light Tryz.prog 35 y1.1 := light_each hwe (j := 1) rfl rfl
  match cs, hl with
  | [c0, c1], _ =>
    have k9 : Tryz.prog.cellsOf 9 = 1 := by kernel_rfl
    have k35 : Tryz.prog.cellsOf 35 = 1 := by kernel_rfl
    simp only [k9, k35] at g0 g1
    obtain ⟨a, e0, rfl, _⟩ := DataW.trod_string Tryz.underlying9 g0
    have z0 : a.size ≤ 140737488351232 := by have h9 := light_str w0; rw [Array.length_toList] at h9; exact h9
    obtain ⟨v, e1, _, q1⟩ := DataW.trod_int Tryz.underlying35 g1
    simp at e0 e1
    subst e0 e1
    refine ⟨⟨⟨a, UInt32.ofNat v.toNat⟩, z0⟩, ?_⟩
    simp only [RowM.c]
    rw [← u32_wf q1]
theorem rowWE : EncOk 2 (fun x : { r : RowM // r.key.size ≤ 140737488351232 } => x.1.c) := ⟨fun _ => rfl, fun _ => rfl⟩
set_option maxRecDepth 100000 in
theorem op_el {H : Type} {enc : TypeId × Value → H} {w : World} {held : Bool} (n : Nat) (cs : List Value) (y : DataW H × List MemPlace) (h : DataW.trod enc Tryz.prog w 0 (fun _ => true) held n 115 cs = some y) (hw : Light Tryz.prog 115 y.1) : ∃ x : { x : OpM // x.key.size ≤ 140737488351232 ∧ x.to.size ≤ 140737488351232 }, cs = x.1.c := by
  obtain ⟨xs, m, _, rfl, hl, hlen, hf⟩ := DataW.trod_struct Tryz.underlying115 h
  have hwe := light_agg Tryz.underlying115 hw
  have hC : Tryz.prog.cellsOf 115 = 4 := by kernel_rfl
  rw [hC] at hl
  replace hlen : xs.length = 4 := hlen
  match xs, hlen with
  | [y0, y1, y2, y3], _ =>
  have g0 : DataW.trod enc Tryz.prog w 0 (fun _ => true) held m 113 ((cs.drop 0).take (Tryz.prog.cellsOf 113)) = some y0 := hf 0 _ rfl
  have w0 : Light Tryz.prog 113 y0.1 := light_each hwe (j := 0) rfl rfl
  have g1 : DataW.trod enc Tryz.prog w 0 (fun _ => true) held m 9 ((cs.drop 1).take (Tryz.prog.cellsOf 9)) = some y1 := hf 1 _ rfl
  have w1 : Light Tryz.prog 9 y1.1 := light_each hwe (j := 1) rfl rfl
  have g2 : DataW.trod enc Tryz.prog w 0 (fun _ => true) held m 9 ((cs.drop 2).take (Tryz.prog.cellsOf 9)) = some y2 := hf 2 _ rfl
  have w2 : Light Tryz.prog 9 y2.1 := light_each hwe (j := 2) rfl rfl
  have g3 : DataW.trod enc Tryz.prog w 0 (fun _ => true) held m 35 ((cs.drop 3).take (Tryz.prog.cellsOf 35)) = some y3 := hf 3 _ rfl
  have w3 : Light Tryz.prog 35 y3.1 := light_each hwe (j := 3) rfl rfl
  match cs, hl with
  | [c0, c1, c2, c3], _ =>
    have k113 : Tryz.prog.cellsOf 113 = 1 := by kernel_rfl
    have k9 : Tryz.prog.cellsOf 9 = 1 := by kernel_rfl
    have k35 : Tryz.prog.cellsOf 35 = 1 := by kernel_rfl
    simp only [k113, k9, k35] at g0 g1 g2 g3
    obtain ⟨k, e0, _, q0⟩ := DataW.trod_int Tryz.underlying113 g0
    obtain ⟨a, e1, rfl, _⟩ := DataW.trod_string Tryz.underlying9 g1
    have z1 : a.size ≤ 140737488351232 := by have h9 := light_str w1; rw [Array.length_toList] at h9; exact h9
    obtain ⟨b, e2, rfl, _⟩ := DataW.trod_string Tryz.underlying9 g2
    have z2 : b.size ≤ 140737488351232 := by have h9 := light_str w2; rw [Array.length_toList] at h9; exact h9
    obtain ⟨v, e3, _, q3⟩ := DataW.trod_int Tryz.underlying35 g3
    simp at e0 e1 e2 e3
    subst e0 e1 e2 e3
    refine ⟨⟨⟨UInt8.ofNat k.toNat, a, b, UInt32.ofNat v.toNat⟩, z1, z2⟩, ?_⟩
    simp only [OpM.c]
    rw [← u8_wf q0, ← u32_wf q3]
theorem opWE : EncOk 4 (fun x : { x : OpM // x.key.size ≤ 140737488351232 ∧ x.to.size ≤ 140737488351232 } => x.1.c) := ⟨fun _ => rfl, fun _ => rfl⟩
set_option maxRecDepth 100000 in
theorem res_el {H : Type} {enc : TypeId × Value → H} {w : World} {held : Bool} (n : Nat) (cs : List Value) (y : DataW H × List MemPlace) (h : DataW.trod enc Tryz.prog w 0 (fun _ => true) held n 123 cs = some y) (hw : Light Tryz.prog 123 y.1) : ∃ x : { x : ResV // RL (Old w) 2 RowM.c x.1.v x.2 ∧ x.2.length ≤ 140737488351232 ∧ ∀ r ∈ x.2, r.key.size ≤ 140737488351232 }, cs = resC x.1 := by
  obtain ⟨xs, m, _, rfl, hl, hlen, hf⟩ := DataW.trod_struct Tryz.underlying123 h
  have hwe := light_agg Tryz.underlying123 hw
  have hC : Tryz.prog.cellsOf 123 = 1 := by kernel_rfl
  rw [hC] at hl
  replace hlen : xs.length = 1 := hlen
  match xs, hlen with
  | [y0], _ =>
  have g0 : DataW.trod enc Tryz.prog w 0 (fun _ => true) held m 24 ((cs.drop 0).take (Tryz.prog.cellsOf 24)) = some y0 := hf 0 _ rfl
  have w0 : Light Tryz.prog 24 y0.1 := light_each hwe (j := 0) rfl rfl
  match cs, hl with
  | [c0], _ =>
    have k24 : Tryz.prog.cellsOf 24 = 1 := by kernel_rfl
    simp only [k24] at g0
    obtain ⟨s0, x0, e0, r0, z0⟩ := slice_rlw Tryz.underlying24 (by kernel_rfl) (by decide) rowWE (by kernel_rfl) row_el g0 w0
    simp at e0
    subst e0
    exact ⟨⟨(s0, x0.map (·.1)), rl_val r0, by simpa using z0, fun r hr => by
      obtain ⟨y, _, rfl⟩ := List.mem_map.1 hr
      exact y.2⟩, rfl⟩
theorem resWE {w : World} : EncOk 1 (fun x : { x : ResV // RL (Old w) 2 RowM.c x.1.v x.2 ∧ x.2.length ≤ 140737488351232 ∧ ∀ r ∈ x.2, r.key.size ≤ 140737488351232 } => resC x.1) := ⟨fun _ => rfl, fun _ => rfl⟩
set_option maxRecDepth 100000 in
theorem deed_el {H : Type} {enc : TypeId × Value → H} {w : World} {held : Bool} (n : Nat) (cs : List Value) (y : DataW H × List MemPlace) (h : DataW.trod enc Tryz.prog w 0 (fun _ => true) held n 39 cs = some y) (hw : Light Tryz.prog 39 y.1) : ∃ x : { x : DX // DpD (Old w) x ∧ SzP x.2 }, cs = dxC x.1 := by
  obtain ⟨xs, m, _, rfl, hl, hlen, hf⟩ := DataW.trod_struct Tryz.underlying39 h
  have hwe := light_agg Tryz.underlying39 hw
  have hC : Tryz.prog.cellsOf 39 = 5 := by kernel_rfl
  rw [hC] at hl
  replace hlen : xs.length = 5 := hlen
  match xs, hlen with
  | [y0, y1, y2, y3, y4], _ =>
  have g0 : DataW.trod enc Tryz.prog w 0 (fun _ => true) held m 35 ((cs.drop 0).take (Tryz.prog.cellsOf 35)) = some y0 := hf 0 _ rfl
  have w0 : Light Tryz.prog 35 y0.1 := light_each hwe (j := 0) rfl rfl
  have g1 : DataW.trod enc Tryz.prog w 0 (fun _ => true) held m 5 ((cs.drop 1).take (Tryz.prog.cellsOf 5)) = some y1 := hf 1 _ rfl
  have w1 : Light Tryz.prog 5 y1.1 := light_each hwe (j := 1) rfl rfl
  have g2 : DataW.trod enc Tryz.prog w 0 (fun _ => true) held m 35 ((cs.drop 2).take (Tryz.prog.cellsOf 35)) = some y2 := hf 2 _ rfl
  have w2 : Light Tryz.prog 35 y2.1 := light_each hwe (j := 2) rfl rfl
  have g3 : DataW.trod enc Tryz.prog w 0 (fun _ => true) held m 36 ((cs.drop 3).take (Tryz.prog.cellsOf 36)) = some y3 := hf 3 _ rfl
  have w3 : Light Tryz.prog 36 y3.1 := light_each hwe (j := 3) rfl rfl
  have g4 : DataW.trod enc Tryz.prog w 0 (fun _ => true) held m 37 ((cs.drop 4).take (Tryz.prog.cellsOf 37)) = some y4 := hf 4 _ rfl
  have w4 : Light Tryz.prog 37 y4.1 := light_each hwe (j := 4) rfl rfl
  match cs, hl with
  | [c0, c1, c2, c3, c4], _ =>
    have k35 : Tryz.prog.cellsOf 35 = 1 := by kernel_rfl
    have k5 : Tryz.prog.cellsOf 5 = 1 := by kernel_rfl
    have k36 : Tryz.prog.cellsOf 36 = 1 := by kernel_rfl
    have k37 : Tryz.prog.cellsOf 37 = 1 := by kernel_rfl
    simp only [k35, k5, k36, k37] at g0 g1 g2 g3 g4
    obtain ⟨a, e0, _, q0⟩ := DataW.trod_int Tryz.underlying35 g0
    obtain ⟨b, e1, _, q1⟩ := DataW.trod_int Tryz.underlying5 g1
    obtain ⟨c, e2, _, q2⟩ := DataW.trod_int Tryz.underlying35 g2
    obtain ⟨s3, x3, e3, r3, z3⟩ := slice_rlw Tryz.underlying36 (by kernel_rfl) (by decide) opWE (by kernel_rfl) op_el g3 w3
    obtain ⟨s4, x4, e4, r4, z4⟩ := slice_rlw Tryz.underlying37 (by kernel_rfl) (by decide) resWE (by kernel_rfl) res_el g4 w4
    simp at e0 e1 e2 e3 e4
    subst e0 e1 e2 e3 e4
    refine ⟨⟨(⟨UInt32.ofNat a.toNat, UInt8.ofNat b.toNat, UInt32.ofNat c.toNat, s3, s4⟩, ⟨UInt32.ofNat a.toNat, UInt8.ofNat b.toNat, UInt32.ofNat c.toNat, x3.map (·.1), (x4.map (·.1)).map (·.2)⟩), ⟨rfl, rfl, rfl, rl_val r3, x4.map (·.1), rl_val r4, ?_, rfl⟩, ⟨by simpa using z3, ?_, by simpa using z4, ?_, ?_⟩⟩, ?_⟩
    · intro r hr
      obtain ⟨y, _, rfl⟩ := List.mem_map.1 hr
      exact y.2.1
    · intro x hx
      obtain ⟨y, _, rfl⟩ := List.mem_map.1 hx
      exact y.2
    · intro l hl
      obtain ⟨r, hr, rfl⟩ := List.mem_map.1 hl
      obtain ⟨y, _, rfl⟩ := List.mem_map.1 hr
      exact y.2.2.1
    · intro l hl
      obtain ⟨r, hr, rfl⟩ := List.mem_map.1 hl
      obtain ⟨y, _, rfl⟩ := List.mem_map.1 hr
      exact y.2.2.2
    · simp only [dxC, DeedM.c]
      rw [← u32_wf q0, ← u8_wf q1, ← u32_wf q2]
theorem deedWE {w : World} : EncOk 5 (fun x : { x : DX // DpD (Old w) x ∧ SzP x.2 } => dxC x.1) := ⟨fun _ => rfl, fun _ => rfl⟩
theorem int_el {H : Type} {enc : TypeId × Value → H} {w : World} {held : Bool} (n : Nat) (cs : List Value) (y : DataW H × List MemPlace) (h : DataW.trod enc Tryz.prog w 0 (fun _ => true) held n 3 cs = some y) : ∃ x : Int, cs = intC x := by
  obtain ⟨m, e, _, z⟩ := DataW.trod_int Tryz.underlying3 h
  exact ⟨m, by simpa [intC] using e⟩
theorem open_deeds {H : Type} {enc : TypeId × Value → H} {w : World} {held : Bool} {n : Nat} {cs : List Value} {y : DataW H × List MemPlace} (h : DataW.trod enc Tryz.prog w 0 (fun _ => true) held n 22 cs = some y) (hw : Light Tryz.prog 22 y.1) :
    ∃ (v : SV) (ps : List PDeed), cs = [v.v] ∧ DpL (Old w) v.v ps ∧ ps.length ≤ 140737488351232 ∧ ∀ p ∈ ps, SzP p := by
  obtain ⟨v, xs, e, hA, hl⟩ := slice_rlw Tryz.underlying22 (by kernel_rfl) (by decide) deedWE (by kernel_rfl) deed_el h hw
  refine ⟨v, (xs.map (·.1)).map (·.2), e, ⟨xs.map (·.1), rl_val hA, fun x hx => ?_, rfl⟩, by simpa using hl, fun p hp => ?_⟩
  · obtain ⟨y, _, rfl⟩ := List.mem_map.1 hx
    exact y.2.1
  · obtain ⟨x, hx, rfl⟩ := List.mem_map.1 hp
    obtain ⟨y, _, rfl⟩ := List.mem_map.1 hx
    exact y.2.2
theorem open_rows {H : Type} {enc : TypeId × Value → H} {w : World} {held : Bool} {n : Nat} {c : Value} {y : DataW H × List MemPlace} (h : DataW.trod enc Tryz.prog w 0 (fun _ => true) held n 24 [c] = some y) (hw : Light Tryz.prog 24 y.1) :
    ∃ (v : SV) (l : List RowM), c = v.v ∧ RL (Old w) 2 RowM.c v.v l ∧ l.length ≤ 140737488351232 := by
  obtain ⟨v, xs, e, hA, hl⟩ := slice_rlw Tryz.underlying24 (by kernel_rfl) (by decide) rowWE (by kernel_rfl) row_el h hw
  exact ⟨v, xs.map (·.1), by simpa using e, rl_val hA, by simpa using hl⟩
set_option maxRecDepth 100000 in
theorem open_three {H : Type} {enc : TypeId × Value → H} {w : World} {held : Bool} {r : Reach} {b0 : Nat} {v : Value} {d : DataW H} {p : List MemPlace} (hv : Value.okWide Tryz.prog w r b0 25 v) (h : DataW.Trod enc Tryz.prog w 0 (fun _ => true) held 25 v d p) (hw : Light Tryz.prog 25 d) :
    ∃ (r0 r1 r2 : SV) (l0 l1 l2 : List RowM), v = .agg #[r0.v, r1.v, r2.v] ∧ RL (Old w) 2 RowM.c r0.v l0 ∧ RL (Old w) 2 RowM.c r1.v l1 ∧ RL (Old w) 2 RowM.c r2.v l2 ∧ l0.length ≤ 140737488351232 ∧ l1.length ≤ 140737488351232 ∧ l2.length ≤ 140737488351232 := by
  obtain ⟨cs, rfl, hsz⟩ := okWide_array Tryz.underlying25 hv
  have hC : Tryz.prog.cellsOf 25 = 3 := by kernel_rfl
  obtain ⟨c0, c1, c2, rfl⟩ : ∃ c0 c1 c2, cs = #[c0, c1, c2] := by
    obtain ⟨l⟩ := cs
    match l, hsz.trans hC with
    | [c0, c1, c2], _ => exact ⟨c0, c1, c2, rfl⟩
  obtain ⟨fuel, hf⟩ := h
  obtain ⟨y0, y1, y2, m, hx, g0, g1, g2⟩ := trod_array3 Tryz.underlying25 (by kernel_rfl) (show DataW.trod enc Tryz.prog w 0 (fun _ => true) held fuel 25 [c0, c1, c2] = _ from hf)
  obtain rfl : d = .agg [y0.1, y1.1, y2.1] := congrArg Prod.fst hx
  have hwa := light_arr Tryz.underlying25 hw
  obtain ⟨r0, l0, rfl, a0, b0⟩ := open_rows g0 (hwa _ (by simp))
  obtain ⟨r1, l1, rfl, a1, b1⟩ := open_rows g1 (hwa _ (by simp))
  obtain ⟨r2, l2, rfl, a2, b2⟩ := open_rows g2 (hwa _ (by simp))
  exact ⟨r0, r1, r2, l0, l1, l2, rfl, a0, a1, a2, b0, b1, b2⟩
theorem gTab : Tryz.prog.globalNamed "internal/strconv.uint64pow10" = some 0 := by kernel_rfl
theorem gTabType : (Tryz.prog.globals[0]?).map (·.type) = some 412 := by kernel_rfl
theorem cellsT : Tryz.prog.cellsOf 412 = 20 := by kernel_rfl
theorem cellsE : Tryz.prog.cellsOf 193 = 1 := by kernel_rfl
theorem table {W : World} (h : laidMetH Tryz.prog Rows.judgesSerialRow.laid W) : Lib.TabIs Tryz.prog W "internal/strconv.uint64pow10" .u64 Lib.pow10Tab :=
  Lib.tabIs_of_head (rest := []) gTab gTabType Tryz.underlying412 Tryz.underlying193 cellsE cellsT (laidMet.filter (fun x => x.1 == "internal/strconv.uint64pow10") h)
theorem tab_old {W : World} (h : laidMetH Tryz.prog Rows.judgesSerialRow.laid W) : Tab Tryz.prog (Old W) := fun S w hS hl => by
  have h1 := table h
  unfold Lib.TabIs World.var? at h1 ⊢
  rw [gTab] at h1 ⊢
  simp only [Option.bind_some] at h1 ⊢
  cases hh : W.heap[0]? with
  | none => rw [hh] at h1; cases h1
  | some o =>
    rw [hh] at h1
    rw [show w.heap[0]? = some o from hl _ _ (hS _ _ hh)]
    exact h1
set_option maxRecDepth 100000 in
theorem contract (H : Type) (enc : TypeId × Value → H) (W : World) (base : Nat) (args : Array Value) (ds gs : List (DataW H)) (before : List MemPlace)
    (hval : ∀ (j : Nat) t v, Tryz.f3.params[j]? = some t → args[j]? = some v → Value.okWide Tryz.prog W .any base t v)
    (hW : DataW.Whole enc Tryz.prog Tryz.f3.params.toList Rows.judgesSerialSpec.vars false W args.toList ds gs before)
    (hsz : (DataW.weightsEach Tryz.prog (Tryz.f3.params.toList ++ (OpenSpec.ofChange Rows.judgesSerialSpec).bare.plain.varTypes Tryz.prog) (ds ++ gs)).all (· ≤ reachBytes) = true) (hL : laidMetH Tryz.prog Rows.judgesSerialRow.laid W) :
    Calls Tryz.prog 3 args W fun e W' => ∃ v, e = .returned v ∧ Rows.judgesSerialSpec.post enc Tryz.prog Tryz.f3 false true false false W args v W' := by
  have hW' := hW
  obtain ⟨p, q, hA0, hV, rfl, hfz, hnd⟩ := hW
  have hA : DataW.TrodAll enc Tryz.prog W 0 (fun _ => true) true Tryz.f3.params.toList args.toList ds p := hA0
  rw [Tryz.params3] at hA hval hsz
  obtain ⟨v0, vs0, d0, ds0, p0, q0, hargs, rfl, rfl, h0, r0⟩ := trodAll_cons hA
  obtain ⟨v1, vs1, d1, ds1, p1, q1, rfl, rfl, rfl, h1, r1⟩ := trodAll_cons r0
  obtain ⟨v2, vs2, d2, ds2, p2, q2, rfl, rfl, rfl, h2, r2⟩ := trodAll_cons r1
  obtain ⟨rfl, rfl, rfl⟩ := trodAll_nil r2
  obtain rfl : args = #[v0, v1, v2] := by cases args; simp_all
  obtain ⟨rfl, rfl⟩ := trodVars_none hV
  have k0 := h0
  have lt0 : ∀ x ∈ p0, x.block < W.heap.size := by obtain ⟨m, hm⟩ := k0; exact DataW.trod_lt m _ _ _ hm
  have k1 := h1
  have lt1 : ∀ x ∈ p1, x.block < W.heap.size := by obtain ⟨m, hm⟩ := k1; exact DataW.trod_lt m _ _ _ hm
  have k2 := h2
  have lt2 : ∀ x ∈ p2, x.block < W.heap.size := by obtain ⟨m, hm⟩ := k2; exact DataW.trod_lt m _ _ _ hm
  have lg : ∀ m ∈ DataW.weightsEach Tryz.prog _ _, m ≤ reachBytes := fun m hm => by have := List.all_eq_true.1 hsz m hm; simpa using this
  obtain ⟨a0, m0, c0, rfl⟩ := okWide_slice Tryz.underlying22 (hval 0 22 v0 rfl rfl)
  obtain ⟨s0, ps, e0, hD, hpn, hz⟩ := (fun ⟨fuel, hf⟩ => open_deeds (by simpa [Value.cells] using hf) (light_each lg (j := 0) rfl rfl) : (∃ fuel, DataW.trod enc Tryz.prog W 0 (fun _ => true) true fuel 22 _ = some _) → _) h0
  have e0 := (List.cons.inj e0).1
  rw [← e0] at hD
  obtain ⟨a1, m1, c1, rfl⟩ := okWide_slice Tryz.underlying23 (hval 1 23 v1 rfl rfl)
  obtain ⟨s1, order, e1, hO, _⟩ := (fun ⟨fuel, hf⟩ => slice_rl Tryz.underlying23 (by kernel_rfl) (by decide) intE int_el (by simpa [Value.cells] using hf) : (∃ fuel, DataW.trod enc Tryz.prog W 0 (fun _ => true) true fuel 23 _ = some _) → _) h1
  have e1 := (List.cons.inj e1).1
  rw [← e1] at hO
  obtain ⟨r0', r1', r2', l0, l1, l2, rfl, b0, b1, b2, hl⟩ := open_three (hval 2 25 v2 rfl rfl) h2 (light_each lg (j := 2) rfl rfl)
  clear hA0
  refine (below_of_spec1 (JSerial_spec (g := W) (tab_old hL) hD hpn hz hO b0 b1 b2 hl)).mono fun e W' ⟨he, bel⟩ => ?_
  subst he
  exact ⟨_, rfl, _, _, _, [], _, [], hW', trodAll_mk1 (shut_bool Tryz.underlying4 _), (trodAll_cons_mk (Below.trod laidOut (by kernel_rfl) (of_decide_eq_true (by kernel_rfl)) k0 bel lt0) (trodAll_cons_mk (Below.trod laidOut (by kernel_rfl) (of_decide_eq_true (by kernel_rfl)) k1 bel lt1) (trodAll_cons_mk (Below.trod laidOut (by kernel_rfl) (of_decide_eq_true (by kernel_rfl)) k2 bel lt2) trodAll_mk0))), rfl, bel.frame _, fun h => by cases h⟩
/-- A world for the witness: the settled one, the tables in their blocks. -/
def lay (cs : Array Value) : Obj → Obj
  | .cells _ t frozen => .cells cs t frozen
  | o => o
noncomputable def laidWorld (os : Os) : World :=
  { World.holding Tryz.prog os ⟨#[], #[], []⟩ with heap := ((((World.holding Tryz.prog os ⟨#[], #[], []⟩).heap.modify 0 (lay #[.int .u64 1, .int .u64 10, .int .u64 100, .int .u64 1000, .int .u64 10000, .int .u64 100000, .int .u64 1000000, .int .u64 10000000, .int .u64 100000000, .int .u64 1000000000, .int .u64 10000000000, .int .u64 100000000000, .int .u64 1000000000000, .int .u64 10000000000000, .int .u64 100000000000000, .int .u64 1000000000000000, .int .u64 10000000000000000, .int .u64 100000000000000000, .int .u64 1000000000000000000, .int .u64 10000000000000000000])).modify 1 (lay #[.int .u8 0, .int .u8 1, .int .u8 28, .int .u8 2, .int .u8 29, .int .u8 14, .int .u8 24, .int .u8 3, .int .u8 30, .int .u8 22, .int .u8 20, .int .u8 15, .int .u8 25, .int .u8 17, .int .u8 4, .int .u8 8, .int .u8 31, .int .u8 27, .int .u8 13, .int .u8 23, .int .u8 21, .int .u8 19, .int .u8 16, .int .u8 7, .int .u8 26, .int .u8 12, .int .u8 18, .int .u8 6, .int .u8 11, .int .u8 5, .int .u8 10, .int .u8 9])).modify 2 (lay #[.int .u8 0, .int .u8 1, .int .u8 56, .int .u8 2, .int .u8 57, .int .u8 49, .int .u8 28, .int .u8 3, .int .u8 61, .int .u8 58, .int .u8 42, .int .u8 50, .int .u8 38, .int .u8 29, .int .u8 17, .int .u8 4, .int .u8 62, .int .u8 47, .int .u8 59, .int .u8 36, .int .u8 45, .int .u8 43, .int .u8 51, .int .u8 22, .int .u8 53, .int .u8 39, .int .u8 33, .int .u8 30, .int .u8 24, .int .u8 18, .int .u8 12, .int .u8 5, .int .u8 63, .int .u8 55, .int .u8 48, .int .u8 27, .int .u8 60, .int .u8 41, .int .u8 37, .int .u8 16, .int .u8 46, .int .u8 35, .int .u8 44, .int .u8 21, .int .u8 52, .int .u8 32, .int .u8 23, .int .u8 11, .int .u8 54, .int .u8 26, .int .u8 40, .int .u8 15, .int .u8 34, .int .u8 20, .int .u8 31, .int .u8 10, .int .u8 25, .int .u8 14, .int .u8 19, .int .u8 9, .int .u8 13, .int .u8 8, .int .u8 7, .int .u8 6])) }
theorem laid_met (os : Os) : laidMet Tryz.prog Rows.judgesSerialRow.laid ((laidWorld os).forCall (fun _ _ => 0) ⟨#[], #[.slice none 0 0, .slice none 0 0, .agg #[.slice none 0 0, .slice none 0 0, .slice none 0 0]], []⟩).memory :=
  laidMet_of_run' 8 (by kernel_rfl) (by kernel_rfl)
theorem reads (os : Os) {H : Type} (enc : TypeId × Value → H) : ∃ places, DataW.whole enc Tryz.prog ((laidWorld os).forCall (fun _ _ => 0) ⟨#[], #[.slice none 0 0, .slice none 0 0, .agg #[.slice none 0 0, .slice none 0 0, .slice none 0 0]], []⟩).memory Tryz.f3.params.toList Rows.judgesSerialSpec.vars false #[(.slice none 0 0 : Value), (.slice none 0 0 : Value), (.agg #[.slice none 0 0, .slice none 0 0, .slice none 0 0] : Value)].toList 8 = some ([.nil, .nil, .agg [.nil, .nil, .nil]], [], places) :=
  ⟨[], by kernel_rfl⟩
set_option maxRecDepth 100000 in
theorem lifted (os : Os) (started : os.Started) (H : Type) (enc : TypeId × Value → H) (F : Stop.Interp) :
    ReturnsInHanded {} Tryz.checked os 3 .any ((OpenSpec.ofChange Rows.judgesSerialSpec).preRow enc Tryz.prog Tryz.f3 Rows.judgesSerialRow.domain false Rows.judgesSerialRow.laid) (((OpenSpec.ofChange Rows.judgesSerialSpec).at F).post enc Tryz.prog Tryz.f3 false true false false) := by
  obtain ⟨places, hx⟩ := reads os enc
  refine returnsInHanded_of_row (C := Tryz.checked) (s := OpenSpec.ofChange Rows.judgesSerialSpec) own started (by kernel_rfl) Tryz.func3
    (witness_row_at (enc := enc) (C := Tryz.checked) false (laidWorld os) #[.slice none 0 0, .slice none 0 0, .agg #[.slice none 0 0, .slice none 0 0, .slice none 0 0]] rfl (by kernel_rfl) (by kernel_rfl) (by kernel_rfl)
      (OpenSpec.preRow_of_cond 8 hx (by kernel_rfl) (fun k hk => by cases hk) (by kernel_rfl) (laid_met os))) ?_
  intro W base args ds gs before hval hW _ _ hsz hL _ _
  exact contract H enc W base args ds gs before hval hW hsz hL
theorem closed : joinedFacts Tryz.pinned.checked.prog 3 Tryz.f3 (OpenSpec.ofChange Rows.judgesSerialSpec).bare Rows.judgesSerialRow = true := by
  unfold joinedFacts
  rw [j1, j2, j3, j4]
  kernel_rfl
theorem said : Rows.JudgesSerialSaid :=
  OpenClaim.holds_of_cond 3 Tryz.f3 rfl rfl rfl rfl rfl rfl rfl ⟨rfl, rfl, rfl, rfl, rfl⟩ rfl rfl rfl rfl rfl (by kernel_rfl) Tryz.func3 closed
    (of_decide_eq_true (by kernel_rfl)) (by unfold Func.isWrapper; first | (rw [if_pos (by decide +kernel)]; kernel_rfl) | (rw [if_neg (by decide +kernel)]; exact ⟨rfl, rfl⟩))
    (fun os started H enc _ F => by rw [OpenClaim.pre_eq_preRow]; exact lifted os started H enc F)
theorem plain (f : FuncId) (fn : Func) (hf : Tryz.pinned.checked.prog.funcNamed "concordat/concordatlaw23.JudgesSerial" = some f) (hfn : Tryz.pinned.checked.prog.funcs[f]? = some fn) :
    false = Tryz.pinned.checked.prog.looks [] ∧ ∀ (j : Nat) t, fn.params[j]? = some t → Tryz.pinned.checked.prog.wantsStandIn t = false := by
  obtain rfl : f = 3 := Option.some.inj ((show Tryz.prog.funcNamed "concordat/concordatlaw23.JudgesSerial" = some 3 by kernel_rfl).symm.trans hf) |>.symm
  obtain rfl : fn = Tryz.f3 := (Option.some.inj (Tryz.func3.symm.trans hfn)).symm
  refine ⟨by kernel_rfl, fun j t ht => ?_⟩
  rw [Tryz.params3] at ht
  have hm := Array.mem_of_getElem? ht
  simp only [List.mem_toArray, List.mem_cons, List.not_mem_nil, or_false] at hm
  rcases hm with rfl | rfl | rfl
  · exact (show Tryz.prog.wantsStandIn 22 = false by kernel_rfl)
  · exact (show Tryz.prog.wantsStandIn 23 = false by kernel_rfl)
  · exact (show Tryz.prog.wantsStandIn 25 = false by kernel_rfl)
/-- The card. -/
theorem card : Rows.JudgesSerialCardSaid :=
  Claim7.holds_tied_plain_at .later [] _ _ _ _ said (fun _ h => by cases h) (by kernel_rfl) (fun _ h => by cases h) judgesSerial_row_tie rfl ⟨rfl, rfl⟩ (by kernel_rfl) rfl plain goes
#print axioms card
end Go.Proofs.YtmeoolijekillaaGreatDoor.judgesSerial
namespace Go.Proofs.YtmeoolijekillaaGreatDoor
/-- The card, under a short name. -/
theorem judgesSerial_holds : Rows.JudgesSerialCardSaid := judgesSerial.card
end Go.Proofs.YtmeoolijekillaaGreatDoor
