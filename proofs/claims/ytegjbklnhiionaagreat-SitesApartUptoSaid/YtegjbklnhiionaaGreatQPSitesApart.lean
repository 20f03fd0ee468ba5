/- SitesApart holds where what it reads is of bulk at most 1048576. -/
import Derived.Test.YtegjbklnhiionaaGreatRows
import Derived.JoinedCond
import Derived.Test.YtegjbklnhiionaaGreatQP24
namespace Go.Proofs.YtegjbklnhiionaaGreat.sitesApart
open Go.ChangeShapes Go.WideShapes Go.ChangeAt Go.RowKit Go.SL
set_option linter.unusedVariables false
theorem own : ownKnob Tryz.prog.godebug = none := by kernel_rfl
theorem Zhj_ : laidOutB Tryz.prog = true := by kernel_rfl
theorem ZkH_ {H : Type} {enc : TypeId × Value → H} {w : World} {held : Bool} (n : Nat) (cs : List Value) (y : DataW H × List MemPlace) (h : DataW.trod enc Tryz.prog w 0 (fun _ => true) held n 26 cs = some y) : ∃ x : OpM, cs = x.c :=
  Zmh_ Tryz.underlying26 Tryz.underlying23 Tryz.underlying9 Tryz.underlying24 (by kernel_rfl) (by kernel_rfl) (by kernel_rfl) (by kernel_rfl) h
theorem ZoU_ {H : Type} {enc : TypeId × Value → H} {w : World} {held : Bool} {n : Nat} {cs : List Value} {y : DataW H × List MemPlace} (h : DataW.trod enc Tryz.prog w 0 (fun _ => true) held n 50 cs = some y) :
    ∃ (v : SV) (xs : List OpM), cs = [v.v] ∧ RL (Old w) 4 OpM.c v.v xs ∧ (xs = [] ∨ ∃ el sp, y.1 = .slice el sp ∧ el.length = xs.length) :=
  ZbJ_ Tryz.underlying50 (by kernel_rfl) (by decide) opE ZkH_ h
set_option maxRecDepth 100000 in
theorem ZnF_ {H : Type} {enc : TypeId × Value → H} {w : World} {held : Bool} (n : Nat) (cs : List Value) (y : DataW H × List MemPlace) (h : DataW.trod enc Tryz.prog w 0 (fun _ => true) held n 45 cs = some y) : ∃ x : SpanM, cs = x.c := by
  obtain ⟨z0, z1, m2, hx2, hl, g0, g1⟩ := trod_struct2 Tryz.underlying45 h
  obtain ⟨s0, e0, _, _⟩ := DataW.trod_string Tryz.underlying9 g0
  obtain ⟨s1, e1, _, _⟩ := DataW.trod_string Tryz.underlying9 g1
  have k9 : Tryz.prog.cellsOf 9 = 1 := by kernel_rfl
  have k8 : Tryz.prog.cellsOf 45 = 2 := by kernel_rfl
  rw [k8] at hl
  match cs, hl with
  | [a, b], _ =>
    simp only [k9] at e0 e1
    simp at e0 e1
    subst e0 e1
    exact ⟨⟨s0, s1⟩, rfl⟩
theorem ZkI_ {P : Program} {W : World} {held : Bool} {H : Type} {enc : TypeId × Value → H} {t k u b o s : TypeId} {b0 b1 b2 b3 b4 b5 : Nat} {n0 n1 n2 n3 n4 n5 : String} {fuel : Nat} {cs : List Value} {y : DataW H × List MemPlace}
    (ht : P.underlying t = some (.struct #[⟨n0, k, 0, false, "", "", b0⟩, ⟨n1, u, 1, false, "", "", b1⟩, ⟨n2, u, 2, false, "", "", b2⟩, ⟨n3, b, 3, false, "", "", b3⟩, ⟨n4, o, 4, false, "", "", b4⟩, ⟨n5, s, 8, false, "", "", b5⟩]))
    (hk : P.underlying k = some (.int .u8)) (hu : P.underlying u = some (.int .u32)) (hb : P.underlying b = some .bool) (ct : P.cellsOf t = 9) (ck : P.cellsOf k = 1) (cu : P.cellsOf u = 1) (cb : P.cellsOf b = 1) (co : P.cellsOf o = 4) (cs1 : P.cellsOf s = 1)
    (ho : ∀ n cs' y', DataW.trod enc P W 0 (fun _ => true) held n o cs' = some y' → ∃ x : OpM, cs' = x.c)
    (hs : ∀ n cs' y', DataW.trod enc P W 0 (fun _ => true) held n s cs' = some y' → ∃ x : SV, cs' = [x.v])
    (h : DataW.trod enc P W 0 (fun _ => true) held fuel t cs = some y) : ∃ x : ActS, cs = x.c := by
  obtain ⟨xs, m, _, rfl, hl, hlen, hf⟩ := DataW.trod_struct ht h
  rw [ct] at hl
  match xs, hlen with
  | [y0, y1, y2, y3, y4, y5], _ =>
  have h0 : DataW.trod enc P W 0 (fun _ => true) held m k ((cs.drop 0).take (P.cellsOf k)) = some y0 := hf 0 ⟨n0, k, 0, false, "", "", b0⟩ rfl
  have h1 : DataW.trod enc P W 0 (fun _ => true) held m u ((cs.drop 1).take (P.cellsOf u)) = some y1 := hf 1 ⟨n1, u, 1, false, "", "", b1⟩ rfl
  have h2 : DataW.trod enc P W 0 (fun _ => true) held m u ((cs.drop 2).take (P.cellsOf u)) = some y2 := hf 2 ⟨n2, u, 2, false, "", "", b2⟩ rfl
  have h3 : DataW.trod enc P W 0 (fun _ => true) held m b ((cs.drop 3).take (P.cellsOf b)) = some y3 := hf 3 ⟨n3, b, 3, false, "", "", b3⟩ rfl
  have h4 : DataW.trod enc P W 0 (fun _ => true) held m o ((cs.drop 4).take (P.cellsOf o)) = some y4 := hf 4 ⟨n4, o, 4, false, "", "", b4⟩ rfl
  have h5 : DataW.trod enc P W 0 (fun _ => true) held m s ((cs.drop 8).take (P.cellsOf s)) = some y5 := hf 5 ⟨n5, s, 8, false, "", "", b5⟩ rfl
  match cs, hl with
  | [c0, c1, c2, c3, c4, c5, c6, c7, c8], _ =>
    simp only [ck, cu, cb, co, cs1] at h0 h1 h2 h3 h4 h5
    obtain ⟨a, e0, _, w0⟩ := DataW.trod_int hk h0
    obtain ⟨b, e1, _, w1⟩ := DataW.trod_int hu h1
    obtain ⟨c, e2, _, w2⟩ := DataW.trod_int hu h2
    obtain ⟨d, e3, _⟩ := DataW.trod_bool hb h3
    obtain ⟨x, e4⟩ := ho _ _ _ h4
    obtain ⟨v, e5⟩ := hs _ _ _ h5
    simp at e0 e1 e2 e3 e4 e5
    refine ⟨⟨UInt8.ofNat a.toNat, UInt32.ofNat b.toNat, UInt32.ofNat c.toNat, d, x, v⟩, ?_⟩
    subst e0 e1 e2 e3 e5
    simp only [OpM.c, List.cons.injEq, and_true] at e4
    obtain ⟨rfl, rfl, rfl, rfl⟩ := e4
    simp only [ActS.c]
    rw [← ZhX_ w0, ← ZeQ_ w1, ← ZeQ_ w2]
theorem Zmi_ {H : Type} {enc : TypeId × Value → H} {w : World} {held : Bool} (n : Nat) (cs : List Value) (y : DataW H × List MemPlace) (h : DataW.trod enc Tryz.prog w 0 (fun _ => true) held n 22 cs = some y) : ∃ x : SV, cs = [x.v] := by
  obtain ⟨v, xs, e, _⟩ := ZbJ_ Tryz.underlying22 (by kernel_rfl) (by decide) Jk' ZnF_ h
  exact ⟨v, e⟩
theorem ZkJ_ {H : Type} {enc : TypeId × Value → H} {w : World} {held : Bool} {n : Nat} {cs : List Value} {y : DataW H × List MemPlace} (h : DataW.trod enc Tryz.prog w 0 (fun _ => true) held n 62 cs = some y) :
    ∃ (v : SV) (xs : List ActS), cs = [v.v] ∧ RL (Old w) 9 ActS.c v.v xs ∧ (xs = [] ∨ ∃ el sp, y.1 = .slice el sp ∧ el.length = xs.length) :=
  ZbJ_ Tryz.underlying62 (by kernel_rfl) (by decide) ZiN_ (fun n cs' y hy => ZkI_ Tryz.underlying68 Tryz.underlying5 Tryz.underlying24 Tryz.underlying4 (by kernel_rfl) (by kernel_rfl) (by kernel_rfl) (by kernel_rfl) (by kernel_rfl) (by kernel_rfl) ZkH_ Zmi_ hy) h
theorem Zop_ {H : Type} (d : DataW H) : 1 ≤ Rows.uptoBulk d := by
  cases d with
  | lit l => cases l <;> simp [Rows.uptoBulk]
  | nil => simp [Rows.uptoBulk]
  | ptr d => simp [Rows.uptoBulk]
  | slice elems spare => simp [Rows.uptoBulk]
  | agg parts => simp [Rows.uptoBulk]
  | iface t d => simp [Rows.uptoBulk]
  | map entries => simp [Rows.uptoBulk]
  | held h => simp [Rows.uptoBulk]
theorem length_le {H : Type} (l : List (DataW H)) : l.length ≤ Rows.uptoBulkAll l := by
  induction l with
  | nil => simp [Rows.uptoBulkAll]
  | cons x r ih => have := Zop_ x; simp only [Rows.uptoBulkAll, List.length_cons]; omega
set_option maxRecDepth 100000 in
theorem Zoq_ (os : Os) (started : os.Started) (H : Type) (enc : TypeId × Value → H) (F : Stop.Interp) :
    ReturnsInHanded {} Tryz.checked os 6 .any ((Rows.OpenSpec.upto Rows.sitesApartSpec).pre6 enc Tryz.prog Tryz.f6 Rows.sitesApartUptoRow.domain false) (((Rows.OpenSpec.upto Rows.sitesApartSpec).at F).post enc Tryz.prog Tryz.f6 false true false false) := by
  refine returnsInHanded_of_cond (C := Tryz.checked) (s := (Rows.OpenSpec.upto Rows.sitesApartSpec)) (k := Rows.uptoSmall) rfl own started (by kernel_rfl) Tryz.func6
    (OpenSpec.witness (enc := enc) (C := Tryz.checked) (s := (Rows.OpenSpec.upto Rows.sitesApartSpec)) (k := Rows.uptoSmall) rfl false ⟨#[], #[.int .u8 0, .slice none 0 0], []⟩ 8 (by kernel_rfl) (by kernel_rfl) (by kernel_rfl)
      (x := ([.lit (.int .u8 0), .nil], [], [])) (by kernel_rfl) rfl (by kernel_rfl)) ?_
  intro W base args ds gs before hval0 hW _ hk _
  have hval : ∀ (j : Nat) t v, Tryz.f6.params[j]? = some t → args[j]? = some v → Value.okWide Tryz.prog W .any base t v := hval0
  have hW' := hW
  obtain ⟨p, q, hA0, hV, rfl, hfz, hnd⟩ := hW
  have hA : DataW.TrodAll enc Tryz.prog W 0 (fun _ => true) true Tryz.f6.params.toList args.toList ds p := hA0
  rw [Tryz.params6] at hA hval
  obtain ⟨v0, vs0, d0, ds0, p0, q0, hargs, rfl, rfl, h0, r0⟩ := trodAll_cons hA
  obtain ⟨v1, vs1, d1, ds1, p1, q1, rfl, rfl, rfl, h1, r1⟩ := trodAll_cons r0
  obtain ⟨rfl, rfl, rfl⟩ := trodAll_nil r1
  obtain rfl : args = #[v0, v1] := by cases args; simp_all
  obtain ⟨rfl, rfl⟩ := trodVars_none hV
  have k0 := h0
  have lt0 : ∀ x ∈ p0, x.block < W.heap.size := by obtain ⟨m, hm⟩ := k0; exact DataW.trod_lt m _ _ _ hm
  have k1 := h1
  have lt1 : ∀ x ∈ p1, x.block < W.heap.size := by obtain ⟨m, hm⟩ := k1; exact DataW.trod_lt m _ _ _ hm
  obtain ⟨e0, rfl, rfl, rfl, z0⟩ := open_int Tryz.underlying5 (hval 0 5 v0 rfl rfl) h0
  obtain ⟨a1, l1, c1, rfl⟩ := okWide_slice Tryz.underlying62 (hval 1 62 v1 rfl rfl)
  obtain ⟨w1, x1, e1, g1, m1⟩ := (fun ⟨fuel, hf⟩ => ZkJ_ (by simpa [Value.cells] using hf) : (∃ fuel, DataW.trod enc Tryz.prog W 0 (fun _ => true) true fuel 62 _ = some _) → _) h1
  have e1 := (List.cons.inj e1).1
  rw [← e1] at g1
  have hn : x1.length ≤ 1048576 := by
    rcases m1 with rfl | ⟨el, sp, hd, hl⟩
    · exact Nat.zero_le _
    · replace hd : d1 = .slice el sp := hd
      subst hd
      have h3 := of_decide_eq_true hk
      simp only [List.append_nil, Rows.uptoBulkAll, Rows.uptoBulk] at h3
      have := length_le el
      omega
  obtain ⟨u0, rfl⟩ : ∃ u : UInt8, e0 = (u.toNat : Int) := ⟨_, ZhX_ z0⟩
  clear hA0 hval0
  refine (Zdc_ (ZiP_ (g := W) u0 g1 hn)).mono fun e W' ⟨he, bel⟩ => ?_
  subst he
  exact ⟨_, rfl, _, _, _, [], _, [], hW', trodAll_mk1 (shut_bool Tryz.underlying4 _), (trodAll_cons_mk (Below.trod Zhj_ (by kernel_rfl) (of_decide_eq_true (by kernel_rfl)) k0 bel lt0) (trodAll_cons_mk (Below.trod Zhj_ (by kernel_rfl) (of_decide_eq_true (by kernel_rfl)) k1 bel lt1) trodAll_mk0)), rfl, bel.frame _, fun h => by cases h⟩
theorem over : Rows.sitesApartUptoRow.holds Tryz.pinned (Rows.OpenSpec.upto Rows.sitesApartSpec) :=
  OpenClaim.holds_of_cond 6 Tryz.f6 rfl rfl rfl rfl rfl rfl rfl ⟨rfl, rfl, rfl, rfl, rfl⟩ rfl rfl rfl rfl rfl (by kernel_rfl) Tryz.func6 (by kernel_rfl)
    (of_decide_eq_true (by kernel_rfl)) (by unfold Func.isWrapper; first | (rw [if_pos (by decide +kernel)]; kernel_rfl) | (rw [if_neg (by decide +kernel)]; exact ⟨rfl, rfl⟩))
    (fun os started H enc _ F => Zoq_ os started H enc F)
theorem proved : Rows.SitesApartUptoSaid := over
#print axioms proved
end Go.Proofs.YtegjbklnhiionaaGreat.sitesApart
namespace Go.Proofs.YtegjbklnhiionaaGreat
/-- The row, under a short name. -/
theorem sitesApart_holds : Rows.SitesApartUptoSaid := sitesApart.proved
end Go.Proofs.YtegjbklnhiionaaGreat
