/- VQ VR NE: rules and walks, several texts in one. -/
import Derived.Test.YtdpmpcoekkhceaaGreatQD13
import Derived.Test.YtdpmpcoekkhceaaGreatProg
import Derived.KernelRfl
set_option linter.unusedSimpArgs false
set_option linter.unusedVariables false
namespace Go.SL.VQ
open Go Go.Proofs Go.SL
theorem a22 : aggOf Tryz.prog 22 = some none := by kernel_rfl
theorem k155 : callable Tryz.prog 155 = true := by kernel_rfl
theorem mixedOk : Tryz.prog.follows .mixedOrders = true := by kernel_rfl
theorem sl82 : slOf Tryz.prog 82 = some (22, 1, 4) := by kernel_rfl
theorem z22 : zeroOf Tryz.prog 22 = some [.int .u32 0] := by kernel_rfl
theorem zz3 : (Tryz.prog.info? 3).bind (·.zero) = some (.int .i64 0) := by kernel_rfl
theorem zz82 : (Tryz.prog.info? 82).bind (·.zero) = some (.slice none 0 0) := by kernel_rfl
end Go.SL.VQ
namespace Go.SL
open Go Go.Proofs VQ
set_option maxHeartbeats 2000000 in
theorem waits_spec {g : World} {A B : HP} {u v : Value} {fs ts : List UInt32} (hA : RL A 1 u32C u fs) (hB : RL B 1 u32C v ts) (hl : fs.length = ts.length) (hn : fs.length ≤ 68719476000) : Spec Tryz.prog g 155 [u, v] [A, B] fun K R => ∀ mb es, AllOk es fs ts fs.length → K (.map (some mb)) (Mp eU32 (.map (some mb)) (List.map kvE (es)) :: Ents 22 1 u32C (es) :: A :: B :: R) := by
  refine Spec.intro Tryz.func155 rfl Tryz.ntmps155 rfl fun R K hK => ?_
  refine WP.seq ?_
  refine WP.reg ?_
  refine WL.e e_assign ?_
  refine WL.next ?_
  refine WP.seq ?_
  refine WP.reg ?_
  refine WL.h (h_makeMapB (ek := eU32) fun mb => ?_)
  refine WL.e e_assign ?_
  refine WL.next ?_
  refine WP.seq ?_
  refine WP.seq ?_
  refine WP.reg ?_
  refine WL.e e_move ?_
  refine WL.e (el_len (xs := fs) sl82 hA) <| WL.e e_move ?_
  refine WL.next ?_
  refine WP.block ?_
  refine WP.conv (fun S h => Ents_nil (κ := UInt32) (E := 22) (z := 1) (enc := u32C) h) ?_
  refine WP.loopK (fun (x : Nat × List (EntV UInt32 UInt32)) => [(13, .int .i64 x.1)]) (fun (x : Nat × List (EntV UInt32 UInt32)) => Ents 22 1 u32C (x.2) :: Mp eU32 (.map (some mb)) (List.map kvE (x.2)) :: A :: B :: R) [(1, _), (4, _), (5, _), (11, _), (12, _)] (fun (x : Nat × List (EntV UInt32 UInt32)) => x.1 ≤ fs.length ∧ AllOk x.2 fs ts x.1) (fun (x : Nat × List (EntV UInt32 UInt32)) => fs.length - x.1) (0, []) (⟨Nat.zero_le _, AllOk.init _ _⟩) ?_
  rintro ⟨i, es⟩ ⟨hi, hO⟩
  simp only at hi hO
  dsimp only
  refine WP.seq ?_
  refine WP.reg ?_
  refine WL.e e_lss ?_
  refine WL.next ?_
  refine WP.seq ?_
  refine WP.cond rfl (fun h1 => ?_) (fun h1 => ?_)
  · have hlt : i < fs.length := by rw [decide_eq_true_eq] at h1; omega
    obtain ⟨x, hx⟩ : ∃ x, fs[i]? = some x := ⟨_, List.getElem?_eq_getElem hlt⟩
    obtain ⟨y, hy⟩ : ∃ y, ts[i]? = some y := ⟨_, List.getElem?_eq_getElem (by omega)⟩
    have hwl := hO.len x
    refine WP.opn (Ents_take es x) fun _ => ?_
    refine WP.skip ?_
    refine PO.next ?_
    refine WP.seq ?_
    refine WP.block ?_
    refine WP.seq ?_
    refine WP.reg ?_
    refine WL.e e_move ?_
    refine WL.e (el_ia (j := i) (xs := fs) sl82 hA hlt) ?_
    refine WL.e (el_load0 (j := i) (a := x) a22 u32E hA hx) <| WL.e e_assign <| WL.e e_assign ?_
    refine WL.next ?_
    refine WP.seq ?_
    refine WP.draws mixedOk 12 ?_
    refine RW.e 0 rfl e_move <| RW.e 1 rfl e_move <| RW.e 2 rfl e_move <| RW.e 3 rfl e_move ?_
    refine RW.e 4 rfl (eu_look (k := x) (es := es) Tryz.underlying254 (key_u32 Tryz.underlying22) zz82) <| RW.e 5 rfl e_move <| RW.e 6 rfl e_move ?_
    refine RW.e 7 rfl (el_ia (j := i) (xs := ts) sl82 hB (by omega)) ?_
    refine RW.e 8 rfl (el_load0 (j := i) (a := y) a22 u32E hB hy) ?_
    refine RW.any (is := [9]) rfl ⟨?_, trivial⟩
    refine RWat.h rfl rfl rfl ?_
    refine (h_bs sl82 z22 (.o (.tmp 26) rfl <| .n) fun b1 => ?_)
    refine ⟨⟨⟨_, rfl, .inl ⟨rfl, (eu_look (k := x) (es := es) Tryz.underlying254 (key_u32 Tryz.underlying22) zz82)⟩⟩, ⟨_, rfl, .inl ⟨rfl, e_move⟩⟩, ⟨_, rfl, .inl ⟨rfl, e_move⟩⟩, ⟨_, rfl, .inl ⟨rfl, e_move⟩⟩, ⟨_, rfl, .inl ⟨rfl, e_move⟩⟩, trivial⟩, ?_⟩
    refine RW.any (is := [10]) rfl ⟨?_, trivial⟩
    refine RWat.h rfl rfl rfl ?_
    refine (hl_append (xs := wsE es x) (ys := [y]) sl82 u32E z22 (lit_rl u32E [y] rfl) (by simp; omega) (fun a5 n5 c5 => ?_))
    refine ⟨⟨⟨_, rfl, .inl ⟨rfl, e_move⟩⟩, ⟨_, rfl, .inl ⟨rfl, e_move⟩⟩, trivial⟩, ?_⟩
    refine RW.any (is := [11]) rfl ⟨?_, trivial⟩
    refine RWat.h' rfl rfl rfl ?_
    refine (h_mapUpdate (k := x) (kvs := List.map kvE es) Tryz.underlying254 (key_u32 Tryz.underlying22) ?_)
    rw [show mset (List.map kvE es) x (.slice a5 n5 c5) = List.map kvE (setE es x ⟨a5, n5, c5⟩ (wsE es x ++ [y])) from mset_kvE es x ⟨a5, n5, c5⟩ _]
    have hO2 := hO.step hx hy ⟨a5, n5, c5⟩
    refine ⟨trivial, ?_⟩
    refine RW.done ?_
    refine PO.next ?_
    refine WP.seq ?_
    refine WP.reg ?_
    refine WL.e e_move <| WL.e e_move <| WL.e e_move ?_
    refine WL.e (el_ia (j := i) (xs := ts) sl82 hB (by omega)) ?_
    refine WL.e (el_load0 (j := i) (a := y) a22 u32E hB hy) ?_
    refine WL.e (eu_look2 (k := y) (es := (setE es x ⟨a5, n5, c5⟩ (wsE es x ++ [y]))) Tryz.underlying254 (key_u32 Tryz.underlying22) zz82) <| WL.e e_move <| WL.e e_extract <| WL.e e_extract <| WL.e e_assign <| WL.e e_assign ?_
    refine WL.next ?_
    refine WP.seq ?_
    refine WP.reg ?_
    refine WL.e e_move <| WL.e e_not ?_
    refine WL.next ?_
    refine WP.cond rfl (fun h6 => ?_) (fun h6 => ?_)
    · replace h6 : findE (setE es x ⟨a5, n5, c5⟩ (wsE es x ++ [y])) y = none := by cases e : findE (setE es x ⟨a5, n5, c5⟩ (wsE es x ++ [y])) y with
        | none => rfl
        | some z => rw [e] at h6; cases h6
      refine WP.reg ?_
      refine WL.e e_move <| WL.e e_move <| WL.e e_move ?_
      refine WL.e (el_ia (j := i) (xs := ts) sl82 hB (by omega)) ?_
      refine WL.e (el_load0 (j := i) (a := y) a22 u32E hB hy) ?_
      refine WL.h' (h_mapUpdate (k := y) (kvs := List.map kvE (setE es x ⟨a5, n5, c5⟩ (wsE es x ++ [y]))) Tryz.underlying254 (key_u32 Tryz.underlying22) ?_)
      rw [show mset (List.map kvE (setE es x ⟨a5, n5, c5⟩ (wsE es x ++ [y]))) y (.slice none 0 0) = List.map kvE (setE (setE es x ⟨a5, n5, c5⟩ (wsE es x ++ [y])) y ⟨none, 0, 0⟩ []) from mset_kvE (setE es x ⟨a5, n5, c5⟩ (wsE es x ++ [y])) y ⟨none, 0, 0⟩ []]
      refine WL.nil ?_
      refine PO.blockN ?_
      refine PO.next ?_
      refine WP.reg ?_
      refine WL.e (e_add rfl rfl (w_i64 (by omega) (by omega))) <| WL.e e_move ?_
      refine WL.nil ?_
      refine PO.cls (A := Ents 22 1 u32C ((setE es x ⟨a5, n5, c5⟩ (wsE es x ++ [y])))) (B := [Sl 22 1 u32C (.slice a5 n5 c5) (wsE es x ++ [y]), Ents 22 1 u32C (delE es x)]) (Ents_put es x ⟨a5, n5, c5⟩ (wsE es x ++ [y])) ?_
      refine PO.conv (conv1 (A := Ents 22 1 u32C ((setE es x ⟨a5, n5, c5⟩ (wsE es x ++ [y])))) (B := Ents 22 1 u32C (delE (setE es x ⟨a5, n5, c5⟩ (wsE es x ++ [y])) y)) (fun S h => by rw [(delE_none h6).1]; exact h) (by repeat first | exact .z | apply Put.s)) ?_
      refine PO.nils 22 1 u32C none ?_
      refine PO.cls (A := Ents 22 1 u32C (setE (setE es x ⟨a5, n5, c5⟩ (wsE es x ++ [y])) y ⟨none, 0, 0⟩ [])) (B := [Sl 22 1 u32C (.slice none 0 0) [], Ents 22 1 u32C (delE (setE es x ⟨a5, n5, c5⟩ (wsE es x ++ [y])) y)]) (Ents_put (setE es x ⟨a5, n5, c5⟩ (wsE es x ++ [y])) y ⟨none, 0, 0⟩ []) ?_
      exact PO.againK (i + 1, setE (setE es x ⟨a5, n5, c5⟩ (wsE es x ++ [y])) y ⟨none, 0, 0⟩ []) ⟨by simp only; omega, hO2.nil h6 _⟩ (by simp only; omega)
    · skip
      refine WP.skip ?_
      refine PO.blockN ?_
      refine PO.next ?_
      refine WP.reg ?_
      refine WL.e (e_add rfl rfl (w_i64 (by omega) (by omega))) <| WL.e e_move ?_
      refine WL.nil ?_
      refine PO.cls (A := Ents 22 1 u32C ((setE es x ⟨a5, n5, c5⟩ (wsE es x ++ [y])))) (B := [Sl 22 1 u32C (.slice a5 n5 c5) (wsE es x ++ [y]), Ents 22 1 u32C (delE es x)]) (Ents_put es x ⟨a5, n5, c5⟩ (wsE es x ++ [y])) ?_
      exact PO.againK (i + 1, (setE es x ⟨a5, n5, c5⟩ (wsE es x ++ [y]))) ⟨by simp only; omega, hO2⟩ (by simp only; omega)
  · obtain rfl : i = fs.length := by rw [decide_eq_false_iff_not] at h1; omega
    refine WP.exit ?_
    refine PO.past nofun ?_
    refine PO.round nofun ?_
    refine PO.blockX ?_
    refine PO.next ?_
    refine WP.seq ?_
    refine WP.reg ?_
    refine WL.e e_move <| WL.e e_assign ?_
    refine WL.next ?_
    refine WP.ret ?_
    exact PO.fin Tryz.results155 (rv_tmp rv_nil) (hK mb es hO)
set_option maxHeartbeats 4000000 in
theorem Closes_spec {g : World} {A B : HP} {u v : Value} {fs ts : List UInt32} (who whom : UInt32) (hA : RL A 1 u32C u fs) (hB : RL B 1 u32C v ts) (hl : fs.length = ts.length) (hn : fs.length ≤ 68719476000) : Spec Tryz.prog g 118 [u, v, .int .u32 who.toNat, .int .u32 whom.toNat] [A, B] fun K R => ∀ b, (b = true ↔ Reach (EdgeL fs ts fs.length) whom who) → K (.tuple #[.bool b, .int .i64 0]) (A :: B :: R) := by
  refine Spec.intro Tryz.func118 rfl Tryz.ntmps118 rfl fun R K hK => ?_
  refine WP.seq ?_
  refine WP.reg ?_
  refine WL.e e_assign <| WL.e e_assign ?_
  refine WL.next ?_
  refine WP.scope ?_
  refine WP.seq ?_
  refine WP.seq ?_
  refine WP.reg ?_
  refine WL.e e_move ?_
  refine WL.e (el_len (xs := fs) sl82 hA) <| WL.e e_move ?_
  refine WL.e (el_len (xs := ts) sl82 hB) <| WL.e e_neq ?_
  refine WL.next ?_
  refine WP.cond rfl (fun h0 => ?_) (fun h0 => ?_)
  · (simp at h0; omega)
  · skip
    refine WP.skip ?_
    refine PO.next ?_
    refine WP.seq ?_
    refine WP.reg ?_
    refine WL.e e_move <| WL.e e_move ?_
    refine WL.h (h_call (waits_spec hA hB hl hn) k155 ?_)
    intro mb es hO
    refine WL.e e_assign ?_
    refine WL.next ?_
    refine WP.seq ?_
    refine WP.reg ?_
    refine WL.h (h_makeMapB (ek := eU32) fun sm => ?_)
    refine WL.e e_move ?_
    refine WL.h' (h_insert (k := whom) (kvs := ([] : List (UInt32 × Value))) Tryz.underlying256 (key_u32 Tryz.underlying22) ?_)
    refine WL.e e_move <| WL.e e_assign ?_
    refine WL.next ?_
    refine WP.seq ?_
    refine WP.reg ?_
    refine WL.e e_move ?_
    refine WL.h (h_bs sl82 z22 (.o (.tmp 27) rfl <| .n) fun b1 => ?_)
    refine WL.e e_assign ?_
    refine WL.next ?_
    refine WP.seq ?_
    refine WP.label ?_
    refine PO.next ?_
    refine WP.seq ?_
    refine WP.block ?_
    refine WP.conv (conv1 (A := cl b1 22 [.int .u32 whom.toNat]) (B := Sl 22 1 u32C (.slice (some ⟨b1, 0, none⟩) 1 1) ([whom])) (lit_own u32E [whom] rfl rfl (by decide)) (by repeat first | exact .z | apply Put.s)) ?_
    refine WP.loopK (fun (x : List UInt32 × SV × List UInt32 × Nat) => [(12, x.2.1.v)]) (fun (x : List UInt32 × SV × List UInt32 × Nat) => Sl 22 1 u32C (x.2.1.v) (x.2.2.1) :: Mp eU32 (.map (some sm)) (List.map seenV (x.1)) :: Mp eU32 (.map (some mb)) (List.map kvE (es)) :: Ents 22 1 u32C (es) :: A :: B :: R) [(2, _), (8, _), (9, _), (10, _), (11, _)] (fun (x : List UInt32 × SV × List UInt32 × Nat) => DfsOk (EdgeL fs ts fs.length) whom x.1 x.2.2.1 x.2.2.2 ts ∧ x.2.2.2 ≤ ts.length + 1) (fun (x : List UInt32 × SV × List UInt32 × Nat) => x.2.2.2) ([whom], ⟨some ⟨b1, 0, none⟩, 1, 1⟩, [whom], ts.length + 1) (⟨DfsOk.init _ _ _, Nat.le_refl _⟩) ?_
    rintro ⟨S, w, N, M⟩ ⟨hD, hM⟩
    simp only at hD hM
    dsimp only
    refine WP.seq ?_
    refine WP.seq ?_
    refine WP.reg ?_
    refine WL.e e_move ?_
    refine WL.e (el_len (xs := N) sl82 sl_rl) <| WL.e e_gtr ?_
    refine WL.next ?_
    refine WP.cond rfl (fun h1 => ?_) (fun h1 => ?_)
    · have hlt : 0 < N.length := by rw [decide_eq_true_eq] at h1; omega
      obtain ⟨xx, hx⟩ : ∃ x, N[N.length - 1]? = some x := ⟨_, List.getElem?_eq_getElem (by omega)⟩
      have hmu := hD.mu
      have hNl : N.length ≤ ts.length + 1 := by omega
      obtain ⟨M1, rfl⟩ : ∃ k, M = k + 1 := ⟨M - 1, by omega⟩
      have hI := hD.pop hx (wsE es xx)
      refine WP.skip ?_
      refine PO.next ?_
      refine WP.block ?_
      refine WP.seq ?_
      refine WP.reg ?_
      refine WL.e e_move <| WL.e e_move ?_
      refine WL.e (el_len (xs := N) sl82 sl_rl) <| WL.e (e_sub (c := ((N.length - 1 : Nat) : Int)) rfl rfl (by rw [w_i64 (by omega) (by omega)]; omega)) ?_
      refine WL.e (el_ia (j := N.length - 1) (xs := N) sl82 sl_rl (by omega)) ?_
      refine WL.e (el_load0 (j := N.length - 1) (a := xx) a22 u32E sl_rl hx) <| WL.e e_assign ?_
      refine WL.next ?_
      refine WP.seq ?_
      refine WP.reg ?_
      refine WL.e e_move <| WL.e e_move ?_
      refine WL.e (el_len (xs := N) sl82 sl_rl) <| WL.e (e_sub (c := ((N.length - 1 : Nat) : Int)) rfl rfl (by rw [w_i64 (by omega) (by omega)]; omega)) ?_
      refine WL.e (el_to (hi := N.length - 1) (xs := N) sl82 sl_rl (by omega)) <| WL.e e_assign ?_
      refine WL.next ?_
      refine WP.seq ?_
      refine WP.seq ?_
      refine WP.reg ?_
      refine WL.e e_move <| WL.e e_move <| WL.e (e_eql32) ?_
      refine WL.next ?_
      refine WP.cond rfl (fun h2 => ?_) (fun h2 => ?_)
      · have hxw : xx = who := by simpa using h2
        have hwin : who ∈ S := hxw ▸ hI.xin
        have hst : who ∈ S ↔ Reach (EdgeL fs ts fs.length) whom who := ⟨hI.can who, fun _ => hwin⟩
        refine WP.exit ?_
        refine PO.past nofun ?_
        refine PO.blockY rfl ?_
        refine PO.round nofun ?_
        refine PO.blockX ?_
        refine PO.next ?_
        refine WP.seq ?_
        refine WP.reg ?_
        refine WL.e e_move <| WL.e e_move ?_
        refine WL.e (eu_seen (k := who) (S := S) Tryz.underlying256 (key_u32 Tryz.underlying22) zz3) <| WL.e e_gtr <| WL.e e_assign <| WL.e e_assign ?_
        refine WL.next ?_
        refine WP.ret ?_
        refine PO.scopeR ?_
        exact PO.fin Tryz.results118 (rv_tmp (rv_tmp rv_nil)) (hK _ (by rw [← hst]; by_cases e : who ∈ S <;> simp [e]))
      · skip
        refine WP.skip ?_
        refine PO.next ?_
        refine WP.seq ?_
        refine WP.reg ?_
        refine WL.e e_move <| WL.e e_move ?_
        refine WL.e (eu_look (k := xx) (es := es) Tryz.underlying254 (key_u32 Tryz.underlying22) zz82) ?_
        refine WL.e (el_len (xs := wsE es xx) sl82 (ents_keyU xx)) <| WL.e e_move ?_
        refine WL.next ?_
        refine WP.block ?_
        refine WP.conv (conv1 (A := Sl 22 1 u32C (w.v) (N)) (B := Sl 22 1 u32C (subV w.v 0 (N.length - 1) none 1) (N.take (N.length - 1))) (fun S h => sl_to u32E h (by omega)) (by repeat first | exact .z | apply Put.s)) ?_
        refine WP.sh (u := subV w.v 0 (N.length - 1) none 1) fun a8 n8 c8 e8 => ?_
        rw [e8]
        refine WP.loopK (fun (x : Nat × List UInt32 × SV × List UInt32) => [(50, .int .i64 x.1), (12, x.2.2.1.v)]) (fun (x : Nat × List UInt32 × SV × List UInt32) => Sl 22 1 u32C (x.2.2.1.v) (x.2.2.2) :: Mp eU32 (.map (some sm)) (List.map seenV (x.2.1)) :: Mp eU32 (.map (some mb)) (List.map kvE (es)) :: Ents 22 1 u32C (es) :: A :: B :: R) [(2, _), (8, _), (9, _), (10, _), (11, _), (13, _), (29, _), (30, _), (31, _), (32, _), (33, _), (34, _), (35, _), (36, _), (37, _), (38, _), (39, _), (40, _), (41, _), (42, _), (43, _), (44, _), (45, _), (46, _), (47, _), (48, _), (49, _)] (fun (x : Nat × List UInt32 × SV × List UInt32) => x.1 ≤ (wsE es xx).length ∧ DfsIn (EdgeL fs ts fs.length) whom xx (wsE es xx) x.2.1 x.2.2.2 x.1 M1 ts) (fun (x : Nat × List UInt32 × SV × List UInt32) => (wsE es xx).length - x.1) (0, S, ⟨a8, n8, c8⟩, N.take (N.length - 1)) (⟨Nat.zero_le _, hI⟩) ?_
        rintro ⟨k, S2, w2, N2⟩ ⟨hk, hI2⟩
        simp only at hk hI2
        dsimp only
        refine WP.seq ?_
        refine WP.reg ?_
        refine WL.e e_lss ?_
        refine WL.next ?_
        refine WP.seq ?_
        refine WP.cond rfl (fun h3 => ?_) (fun h3 => ?_)
        · have hlt2 : k < (wsE es xx).length := by rw [decide_eq_true_eq] at h3; omega
          obtain ⟨y, hy⟩ : ∃ y, (wsE es xx)[k]? = some y := ⟨_, List.getElem?_eq_getElem hlt2⟩
          have hRy := (hO.mem xx y).1 (List.mem_of_getElem? hy)
          have hyt : y ∈ ts := by obtain ⟨j, _, _, h⟩ := hRy; exact List.mem_of_getElem? h
          have hmu2 := hI2.mu
          have hwsl := hO.len xx
          refine WP.skip ?_
          refine PO.next ?_
          refine WP.seq ?_
          refine WP.block ?_
          refine WP.seq ?_
          refine WP.reg ?_
          refine WL.e (el_ia (j := k) (xs := wsE es xx) sl82 (ents_keyU xx) hlt2) ?_
          refine WL.e (el_load0 (j := k) (a := y) a22 u32E (ents_keyU xx) hy) <| WL.e e_assign ?_
          refine WL.next ?_
          refine WP.seq ?_
          refine WP.seq ?_
          refine WP.reg ?_
          refine WL.e e_move <| WL.e e_move ?_
          refine WL.e (eu_seen (k := y) (S := S2) Tryz.underlying256 (key_u32 Tryz.underlying22) zz3) <| WL.e e_gtr ?_
          refine WL.next ?_
          refine WP.cond rfl (fun h4 => ?_) (fun h4 => ?_)
          · have hin : y ∈ S2 := by by_cases e : y ∈ S2; exact e; rw [if_neg e] at h4; exact absurd h4 (by decide)
            refine WP.exit ?_
            refine PO.past nofun ?_
            refine PO.blockX ?_
            refine PO.next ?_
            refine WP.reg ?_
            refine WL.e (e_add rfl rfl (w_i64 (by omega) (by omega))) <| WL.e e_move ?_
            refine WL.nil ?_
            exact PO.againK (k + 1, S2, w2, N2) ⟨by simp only; omega, hI2.old hy hin⟩ (by simp only; omega)
          · have hin : y ∉ S2 := fun e => by rw [if_pos e] at h4; exact absurd h4 (by decide)
            refine WP.skip ?_
            refine PO.next ?_
            refine WP.seq ?_
            refine WP.reg ?_
            refine WL.e e_move <| WL.e e_move ?_
            refine WL.e (eu_seen (k := y) (S := S2) Tryz.underlying256 (key_u32 Tryz.underlying22) zz3) <| WL.e (e_add (c := 1) rfl rfl (by rw [if_neg hin]; rfl)) ?_
            refine WL.h' (h_mapUpdate (k := y) (kvs := List.map seenV S2) Tryz.underlying256 (key_u32 Tryz.underlying22) ?_)
            rw [mset_seen hin]
            refine WL.next ?_
            refine WP.reg ?_
            refine WL.e e_move <| WL.e e_move ?_
            refine WL.h (h_bs sl82 z22 (.o (.tmp 63) rfl <| .n) fun b2 => ?_)
            refine WL.h (hl_append (xs := N2) (ys := [y]) sl82 u32E z22 (lit_rl u32E [y] rfl) (by simp; omega) (fun a5 n5 c5 => ?_))
            refine WL.e e_assign ?_
            refine WL.nil ?_
            refine PO.blockN ?_
            refine PO.next ?_
            refine WP.reg ?_
            refine WL.e (e_add rfl rfl (w_i64 (by omega) (by omega))) <| WL.e e_move ?_
            refine WL.nil ?_
            exact PO.againK (k + 1, S2 ++ [y], ⟨a5, n5, c5⟩, N2 ++ [y]) ⟨by simp only; omega, hI2.push hy hin hRy hyt⟩ (by simp only; omega)
        · have hD2 := hI2.done (by rw [decide_eq_false_iff_not] at h3; omega) (fun y hy => (hO.mem xx y).2 hy)
          refine WP.exit ?_
          refine PO.past nofun ?_
          refine PO.round nofun ?_
          refine PO.blockX ?_
          refine PO.blockN ?_
          exact PO.againK (S2, w2, N2, M1) ⟨hD2, by simp only; omega⟩ (by simp only; omega)
    · have hN0 : N = [] := List.length_eq_zero_iff.1 (by rw [decide_eq_false_iff_not] at h1; omega)
      have hst := hD.stop (who := who) hN0
      refine WP.exit ?_
      refine PO.past nofun ?_
      refine PO.round nofun ?_
      refine PO.blockX ?_
      refine PO.next ?_
      refine WP.seq ?_
      refine WP.reg ?_
      refine WL.e e_move <| WL.e e_move ?_
      refine WL.e (eu_seen (k := who) (S := S) Tryz.underlying256 (key_u32 Tryz.underlying22) zz3) <| WL.e e_gtr <| WL.e e_assign <| WL.e e_assign ?_
      refine WL.next ?_
      refine WP.ret ?_
      refine PO.scopeR ?_
      exact PO.fin Tryz.results118 (rv_tmp (rv_tmp rv_nil)) (hK _ (by rw [← hst]; by_cases e : who ∈ S <;> simp [e]))
end Go.SL
set_option linter.unusedSimpArgs false
set_option linter.unusedVariables false
namespace Go.SL.VR
open Go Go.Proofs Go.SL
theorem a200 : aggOf Tryz.prog 200 = some none := by kernel_rfl
theorem a205 : aggOf Tryz.prog 205 = some (some 3) := by kernel_rfl
theorem a69 : aggOf Tryz.prog 69 = some (some 2) := by kernel_rfl
theorem a9 : aggOf Tryz.prog 9 = some none := by kernel_rfl
theorem eqgSpan : Tryz.prog.eqGuardType Tryz.prog.depth 69 = false := by kernel_rfl
theorem f202_0 : fldOf Tryz.prog 202 0 = some 0 := by kernel_rfl
theorem f205_0 : fldOf Tryz.prog 205 0 = some 0 := by kernel_rfl
theorem k110 : callable Tryz.prog 110 = true := by kernel_rfl
theorem k63 : callable Tryz.prog 63 = true := by kernel_rfl
theorem p202 : placesOf Tryz.prog 202 = some [(0, 1)] := by kernel_rfl
theorem pt125 : isPtr Tryz.prog 125 = true := by kernel_rfl
theorem sl199 : slOf Tryz.prog 199 = some (205, 3, 40) := by kernel_rfl
theorem stoodSpan : Tryz.prog.stoodInHeld 69 = false := by kernel_rfl
theorem z202 : zeroOf Tryz.prog 202 = some [.map none] := by kernel_rfl
theorem zz199 : (Tryz.prog.info? 199).bind (·.zero) = some (.slice none 0 0) := by kernel_rfl
end Go.SL.VR
namespace Go.SL
open Go Go.Proofs VR
def Lk (p : Nat) (L : LkT) : HP := fun S => ∃ x : Nat × List (EntV UInt32 LockM), stars [pu (List.map stE (x.2) = L), cl p 202 [.map (some x.1)], Mp eU32 (.map (some x.1)) (List.map kvE (x.2)), Ents 205 3 LockM.c (x.2)] S
theorem Lk_op {p : Nat} {L : LkT} : ∀ S, Lk p L S → ∃ x : Nat × List (EntV UInt32 LockM), stars [pu (List.map stE (x.2) = L), cl p 202 [.map (some x.1)], Mp eU32 (.map (some x.1)) (List.map kvE (x.2)), Ents 205 3 LockM.c (x.2)] S := fun _ h => h
theorem LNew_spec {g : World} : Spec Tryz.prog g 81 [] [] fun K R => ∀ p, K (.pointer (some ⟨p, 0, none⟩)) (Lk p [] :: R) := by
  refine Spec.intro Tryz.func81 rfl Tryz.ntmps81 rfl fun R K hK => ?_
  refine WP.seq ?_
  refine WP.reg ?_
  refine WL.e e_assign ?_
  refine WL.next ?_
  refine WP.seq ?_
  refine WP.reg ?_
  refine WL.h (h_makeMapB (ek := eU32) fun m => ?_)
  refine WL.e (e_build z202 p202 (.o (.tmp 1) rfl <| .n)) ?_
  refine WL.h (h_box fun b1 => ?_)
  refine WL.e e_assign ?_
  refine WL.next ?_
  refine WP.ret ?_
  refine PO.conv (fun S h => Ents_nil (κ := UInt32) (E := 205) (z := 3) (enc := LockM.c) h) ?_
  refine PO.conv (fun S h => pu_stars (show List.map stE ([] : List (EntV UInt32 LockM)) = [] from rfl) h) ?_
  refine PO.cls (A := Lk b1 []) (B := [pu (List.map stE ([]) = []), cl b1 202 [.map (some m)], Mp eU32 (.map (some m)) (List.map kvE ([])), Ents 205 3 LockM.c ([])]) (fun S h => ⟨(m, []), h⟩) ?_
  exact PO.fin Tryz.results81 (rv_tmp rv_nil) (hK b1)
theorem Lthere_spec {g : World} {p : Nat} {L : LkT} : Spec Tryz.prog g 110 [.pointer (some ⟨p, 0, none⟩)] [Lk p L] fun K R => K (.bool true) (Lk p L :: R) := by
  refine Spec.intro Tryz.func110 rfl Tryz.ntmps110 rfl fun R K hK => ?_
  refine WP.opn (Lk_op (p := p) (L := L)) fun x => ?_
  obtain ⟨m, es⟩ := x
  dsimp only
  refine WP.pull (φ := List.map stE es = L) (k := fun hes => ?_)
  refine WP.seq ?_
  refine WP.reg ?_
  refine WL.e e_assign ?_
  refine WL.next ?_
  refine WP.seq ?_
  refine WP.reg ?_
  refine WL.e e_move <| WL.e (e_pne pt125) <| WL.e e_move ?_
  refine WL.bool 5 rfl (fun h => ?_) (fun h => ?_)
  · skip
    refine WL.e e_move <| WL.e e_nil <| WL.e (e_fa f202_0) <| WL.e (e_load a200) <| WL.e (e_mne Tryz.underlying200) <| WL.e e_pick_t <| WL.e e_assign ?_
    refine WL.next ?_
    refine WP.ret ?_
    refine PO.conv (fun S h => pu_stars (show List.map stE (es) = L from hes) h) ?_
    refine PO.cls (A := Lk p (L)) (B := [pu (List.map stE (es) = L), cl p 202 [.map (some m)], Mp eU32 (.map (some m)) (List.map kvE (es)), Ents 205 3 LockM.c (es)]) (fun S h => ⟨(m, es), h⟩) ?_
    exact PO.fin Tryz.results110 (rv_tmp rv_nil) hK
  · cases h -- end
theorem Lmay_spec {g : World} (n : UInt32) (s : SpanM) : Spec Tryz.prog g 111 [.int .u32 n.toNat, s.v] [] fun K R => K (.bool (n != 0 && meet s s)) R := by
  refine Spec.intro Tryz.func111 rfl Tryz.ntmps111 rfl fun R K hK => ?_
  refine WP.seq ?_
  refine WP.reg ?_
  refine WL.h (h_box fun b1 => ?_)
  refine WL.e e_assign ?_
  refine WL.next ?_
  refine WP.seq ?_
  refine WP.reg ?_
  refine WL.e e_move <| WL.e (e_neq32 (b := 0)) <| WL.e e_move ?_
  refine WL.bool 7 rfl (fun h => ?_) (fun h => ?_)
  · skip
    refine WL.e (e_loadN a69) <| WL.e (e_loadN a69) ?_
    refine WL.h (h_call (Meet_spec ⟨_, _⟩ ⟨_, _⟩) k63 ?_)
    refine WL.e e_pick_t <| WL.e e_assign ?_
    refine WL.next ?_
    refine WP.ret ?_
    exact PO.finE Tryz.results111 (rv_tmp rv_nil) (by rw [show (n != 0) = true from h]; rfl) hK
  · skip
    refine WL.skip <| WL.skip <| WL.skip <| WL.e e_pick_f <| WL.e e_assign ?_
    refine WL.next ?_
    refine WP.ret ?_
    exact PO.finE Tryz.results111 (rv_tmp rv_nil) (by rw [show (n != 0) = false from h]; rfl) hK
theorem LFree_spec {g : World} {p : Nat} {L : LkT} (n : UInt32) : Spec Tryz.prog g 119 [.pointer (some ⟨p, 0, none⟩), .int .u32 n.toNat] [Lk p L] fun K R => ∀ k : Nat, K (.int .i64 k) (Lk p (freeL L n) :: R) := by
  refine Spec.intro Tryz.func119 rfl Tryz.ntmps119 rfl fun R K hK => ?_
  refine WP.seq ?_
  refine WP.reg ?_
  refine WL.e e_assign ?_
  refine WL.next ?_
  refine WP.seq ?_
  refine WP.seq ?_
  refine WP.reg ?_
  refine WL.e e_move ?_
  refine WL.h (h_call (Lthere_spec) k110 ?_)
  refine WL.e e_not ?_
  refine WL.next ?_
  refine WP.cond_f rfl ?_
  refine WP.opn (Lk_op (p := p) (L := L)) fun x => ?_
  obtain ⟨m, es⟩ := x
  dsimp only
  refine WP.pull (φ := List.map stE es = L) (k := fun hes => ?_)
  refine WP.skip ?_
  refine PO.next ?_
  refine WP.seq ?_
  refine WP.reg ?_
  refine WL.e e_move <| WL.e e_nil <| WL.e (e_fa f202_0) <| WL.e (e_load a200) <| WL.e e_move ?_
  refine WL.e (eu_look (k := n) (es := es) Tryz.underlying200 (key_u32 Tryz.underlying22) zz199) ?_
  refine WL.e (el_len (xs := wsE es n) sl199 (ents_keyU n)) <| WL.e e_assign ?_
  refine WL.next ?_
  refine WP.seq ?_
  refine WP.reg ?_
  refine WL.e e_move <| WL.e e_nil <| WL.e (e_fa f202_0) <| WL.e (e_load a200) <| WL.e e_move ?_
  refine WL.h' (h_delete (k := n) (kvs := List.map kvE es) Tryz.underlying200 (key_u32 Tryz.underlying22) ?_)
  rw [mdel_kvE]
  refine WL.next ?_
  refine WP.seq ?_
  refine WP.reg ?_
  refine WL.e e_move <| WL.e e_assign ?_
  refine WL.next ?_
  refine WP.ret ?_
  refine PO.conv (conv1 (A := Ents 205 3 LockM.c (es)) (B := Ents 205 3 LockM.c (delE es n)) (fun S h => Ents_del h) (by repeat first | exact .z | apply Put.s)) ?_
  refine PO.conv (fun S h => pu_stars (show List.map stE (delE es n) = freeL L n from (by rw [delE_st, hes])) h) ?_
  refine PO.cls (A := Lk p (freeL L n)) (B := [pu (List.map stE (delE es n) = freeL L n), cl p 202 [.map (some m)], Mp eU32 (.map (some m)) (List.map kvE (delE es n)), Ents 205 3 LockM.c (delE es n)]) (fun S h => ⟨(m, delE es n), h⟩) ?_
  exact PO.fin Tryz.results119 (rv_tmp rv_nil) (hK _)
theorem IndexL_spec {g : World} {A B : HP} {u y : Value} {xs : List (LockM)} {p : LockM → Bool} (hA : RL A 3 LockM.c u xs) (hn : xs.length ≤ 68719476736) (hy : ∀ x, CallV Tryz.prog g y [.agg (LockM.c x).toArray] [B] fun K R => K (.bool (p x)) (B :: R)) :
    Spec Tryz.prog g 113 [u, y] [A, B] fun K R => K (.int .i64 (if xs.any p then (xs.findIdx p : Nat) else -1)) (A :: B :: R) := by
  refine Spec.intro Tryz.func113 rfl Tryz.ntmps113 rfl fun R K hK => ?_
  refine WP.seq ?_
  refine WP.reg ?_
  refine WL.e e_assign ?_
  refine WL.next ?_
  refine WP.seq ?_
  refine WP.seq ?_
  refine WP.reg ?_
  refine WL.e e_move ?_
  refine WL.e (el_len sl199 hA) <| WL.e e_move ?_
  refine WL.next ?_
  refine WP.block ?_
  refine WP.loopK (fun (i : Nat) => [(8, .int .i64 i)]) (fun (i : Nat) => A :: B :: R) [(0, _), (1, _), (7, _)] (fun (i : Nat) => i ≤ xs.length ∧ (xs.take i).any p = false) (fun (i : Nat) => xs.length - i) 0 (⟨Nat.zero_le _, by simp⟩) ?_
  rintro i ⟨h1, h2⟩
  refine WP.seq ?_
  refine WP.reg ?_
  refine WL.e e_lss ?_
  refine WL.next ?_
  refine WP.seq ?_
  refine WP.cond rfl (fun h3 => ?_) (fun h3 => ?_)
  · have hlt : i < xs.length := by rw [decide_eq_true_eq] at h3; omega
    obtain ⟨x, hx⟩ : ∃ x, xs[i]? = some x := ⟨_, List.getElem?_eq_getElem hlt⟩
    refine WP.skip ?_
    refine PO.next ?_
    refine WP.seq ?_
    refine WP.block ?_
    refine WP.seq ?_
    refine WP.reg ?_
    refine WL.e e_move <| WL.e e_assign ?_
    refine WL.next ?_
    refine WP.seq ?_
    refine WP.reg ?_
    refine WL.e e_move <| WL.e e_move <| WL.e e_move ?_
    refine WL.e (el_ia sl199 hA hlt) ?_
    refine WL.e (el_loadN (vs := LockM.c x) a205 lockE hA hx (hv := ext_of (lockE.len x))) ?_
    refine WL.h (h_cally (hy x) ?_)
    refine WL.next ?_
    refine WP.cond rfl (fun h4 => ?_) (fun h4 => ?_)
    · skip
      refine WP.seq ?_
      refine WP.reg ?_
      refine WL.e e_move <| WL.e e_assign ?_
      refine WL.next ?_
      refine WP.ret ?_
      refine PO.blockR ?_
      refine PO.past nofun ?_
      refine PO.round nofun ?_
      refine PO.blockR ?_
      refine PO.past nofun ?_
      exact PO.finE Tryz.results113 (rv_tmp rv_nil) (by rw [index_at h2 hx h4]; rfl) hK
    · skip
      refine WP.skip ?_
      refine PO.blockN ?_
      refine PO.next ?_
      refine WP.reg ?_
      refine WL.e (e_add rfl rfl (w_i64 (by omega) (by omega))) <| WL.e e_move ?_
      refine WL.nil ?_
      exact PO.againK (i + 1) ⟨by omega, by rw [take_snoc hx, List.any_append, h2]; simp [h4]⟩ (by omega)
  · have hall : xs.any p = false := by rw [decide_eq_false_iff_not] at h3; rwa [List.take_of_length_le (by omega)] at h2
    refine WP.exit ?_
    refine PO.past nofun ?_
    refine PO.round nofun ?_
    refine PO.blockX ?_
    refine PO.next ?_
    refine WP.seq ?_
    refine WP.reg ?_
    refine WL.e e_assign ?_
    refine WL.next ?_
    refine WP.ret ?_
    exact PO.finE Tryz.results113 (rv_tmp rv_nil) (by rw [hall]; rfl) hK
theorem Ask1_spec {g : World} {q : Nat} (l : LockM) (s : SpanM) : Spec Tryz.prog g 114 [.agg (LockM.c l).toArray, .pointer (some ⟨q, 0, none⟩)] [cl q 69 (SpanM.c s)] fun K R => K (.bool (eqS l.s s)) (cl q 69 (SpanM.c s) :: R) := by
  refine Spec.intro Tryz.func114 rfl Tryz.ntmps114 rfl fun R K hK => ?_
  refine WP.seq ?_
  refine WP.reg ?_
  refine WL.h (h_box fun b1 => ?_)
  refine WL.e e_assign ?_
  refine WL.next ?_
  refine WP.seq ?_
  refine WP.reg ?_
  refine WL.e (e_fa f205_0) <| WL.e (e_loadN a69) <| WL.e (e_loadN a69) ?_
  refine WL.e (e_speql (a := l.s) (b := s) Tryz.underlying69 Tryz.underlying9 a9 stoodSpan eqgSpan rfl rfl) <| WL.e e_assign ?_
  refine WL.next ?_
  refine WP.ret ?_
  exact PO.fin Tryz.results114 (rv_tmp rv_nil) hK
end Go.SL
/- Those that come twice left out, in plain Lean. -/
set_option linter.unusedSimpArgs false
set_option linter.unusedVariables false
set_option linter.unusedSectionVars false
namespace Go.SL
open Go
abbrev SortedU (xs : List UInt32) : Prop := xs.Pairwise fun x y => x ≤ y
abbrev StrictU (xs : List UInt32) : Prop := xs.Pairwise fun x y => x < y
theorem sorted_get {xs : List UInt32} (h : SortedU xs) {i j : Nat} {a b : UInt32} (hij : i ≤ j) (ha : xs[i]? = some a) (hb : xs[j]? = some b) : a ≤ b := by
  rcases Nat.lt_or_ge i j with hlt | hge
  · have h1 := idx_lt ha
    have h2 := idx_lt hb
    have := List.pairwise_iff_getElem.1 h i j h1 h2 hlt
    rw [List.getElem?_eq_getElem h1] at ha
    rw [List.getElem?_eq_getElem h2] at hb
    cases ha; cases hb; exact this
  · obtain rfl : i = j := by omega
    rw [ha] at hb; cases hb; exact UInt32.le_refl _
structure CmpI (xs ds : List UInt32) (i c : Nat) : Prop where
  len : ds.length = xs.length
  i1 : 1 ≤ i
  ic : i ≤ c
  cn : c ≤ xs.length
  str : StrictU (ds.take i)
  mem : ∀ x, x ∈ ds.take i ↔ x ∈ xs.take c
  rest : ∀ j, c - 1 ≤ j → ds[j]? = xs[j]?
  last : ds[i - 1]? = xs[c - 1]?
theorem CmpI.start {xs : List UInt32} {i : Nat} (h : StrictU (xs.take i)) (h1 : 1 ≤ i) {a : UInt32} (ha : xs[i]? = some a) (hb : xs[i - 1]? = some a) : CmpI xs xs i (i + 1) := by
  have := idx_lt ha
  refine ⟨rfl, h1, Nat.le_succ _, by omega, h, fun x => ?_, fun _ _ => rfl, by rw [hb, Nat.add_sub_cancel, ha]⟩
  rw [take_snoc ha, List.mem_append]
  constructor
  · exact .inl
  · rintro (h | h)
    · exact h
    · simp at h; subst h
      exact List.mem_of_getElem? (i := i - 1) (by rw [List.getElem?_take_of_lt (by omega)]; exact hb)
theorem CmpI.same {xs ds : List UInt32} {i c : Nat} (h : CmpI xs ds i c) {a : UInt32} (ha : xs[c]? = some a) (hb : xs[c - 1]? = some a) : CmpI xs ds i (c + 1) := by
  have := idx_lt ha
  have := h.i1; have := h.ic
  refine ⟨h.len, h.i1, by omega, by omega, h.str, fun x => ?_, fun j hj => h.rest j (by omega), by rw [h.last, hb, Nat.add_sub_cancel, ha]⟩
  rw [h.mem, take_snoc ha, List.mem_append]
  constructor
  · exact .inl
  · rintro (h2 | h2)
    · exact h2
    · simp at h2; subst h2
      exact List.mem_of_getElem? (i := c - 1) (by rw [List.getElem?_take_of_lt (by omega)]; exact hb)
theorem CmpI.put {xs ds : List UInt32} (hs : SortedU xs) {i c : Nat} (h : CmpI xs ds i c) {a b : UInt32} (ha : xs[c]? = some a) (hb : xs[c - 1]? = some b) (hne : a ≠ b) : CmpI xs (ds.set i a) (i + 1) (c + 1) := by
  have hc := idx_lt ha
  have h1 := h.i1; have h2 := h.ic; have h3 := h.len
  have hba : b < a := UInt32.lt_of_le_of_ne (sorted_get hs (Nat.sub_le _ _) hb ha) (fun e => hne e.symm)
  have ht : (ds.set i a).take (i + 1) = ds.take i ++ [a] := by
    rw [take_snoc (List.getElem?_set_self (by omega)), List.take_set_of_le (Nat.le_refl _)]
  refine ⟨by rw [List.length_set]; exact h3, by omega, by omega, by omega, ?_, fun x => ?_, fun j hj => ?_, ?_⟩
  · rw [ht, StrictU, List.pairwise_append]
    refine ⟨h.str, by simp, fun x hx y hy => ?_⟩
    simp at hy; subst hy
    have hx2 := (h.mem x).1 hx
    obtain ⟨j, hj⟩ := List.mem_iff_getElem?.1 hx2
    have hjc : j < c := by have := idx_lt hj; simp at this; omega
    rw [List.getElem?_take_of_lt hjc] at hj
    have := sorted_get hs (show j ≤ c - 1 by omega) hj hb
    exact UInt32.lt_of_le_of_lt this hba
  · rw [ht, take_snoc ha, List.mem_append, List.mem_append, h.mem]
  · by_cases e : i = j
    · subst e
      have : i = c := by omega
      subst this
      rw [List.getElem?_set_self (by omega), ha]
    · rw [List.getElem?_set_ne e]; exact h.rest j (by omega)
  · rw [Nat.add_sub_cancel, Nat.add_sub_cancel, List.getElem?_set_self (by omega), ha]
theorem strict_step {xs : List UInt32} (hs : SortedU xs) {i : Nat} (h : StrictU (xs.take i)) (h1 : 1 ≤ i) {a b : UInt32} (ha : xs[i]? = some a) (hb : xs[i - 1]? = some b) (hne : a ≠ b) : StrictU (xs.take (i + 1)) := by
  have hba : b < a := UInt32.lt_of_le_of_ne (sorted_get hs (Nat.sub_le _ _) hb ha) (fun e => hne e.symm)
  rw [take_snoc ha, StrictU, List.pairwise_append]
  refine ⟨h, by simp, fun x hx y hy => ?_⟩
  simp at hy; subst hy
  obtain ⟨j, hj⟩ := List.mem_iff_getElem?.1 hx
  have hjc : j < i := by have := idx_lt hj; simp at this; omega
  rw [List.getElem?_take_of_lt hjc] at hj
  exact UInt32.lt_of_le_of_lt (sorted_get hs (show j ≤ i - 1 by omega) hj hb) hba
def blkL (n : UInt32) (e : EntV UInt32 LockM) (k : Nat) : List (UInt32 × LockM) := if e.key = n then [] else (e.ws.take k).map fun l => (e.key, l)
def lkC (x : UInt32 × LockM) : List Value := [.int .u32 x.1.toNat, .agg (LockM.c x.2).toArray]
theorem blk_all (n : UInt32) (e : EntV UInt32 LockM) : blkL n e e.ws.length = if e.key = n then [] else e.ws.map fun l => (e.key, l) := by unfold blkL; rw [List.take_length]
theorem blk_step {n : UInt32} {e : EntV UInt32 LockM} (hne : e.key ≠ n) {k : Nat} {l : LockM} (hl : e.ws[k]? = some l) : blkL n e (k + 1) = blkL n e k ++ [(e.key, l)] := by
  unfold blkL; rw [if_neg hne, if_neg hne, take_snoc hl, List.map_append]; rfl
theorem blk_same {n : UInt32} {e : EntV UInt32 LockM} (he : e.key = n) (k j : Nat) : blkL n e k = blkL n e j := by unfold blkL; rw [if_pos he, if_pos he]
theorem others_take {n : UInt32} {es A B : List (EntV UInt32 LockM)} {e : EntV UInt32 LockM} {pre : List (UInt32 × LockM)} {left : List (EntV UInt32 LockM)} (h : (pre ++ othersL n left).Perm (othersL n es)) (hl : left = A ++ e :: B) : (pre ++ (blkL n e e.ws.length ++ othersL n (A ++ B))).Perm (othersL n es) := by
  refine List.Perm.trans ?_ h
  rw [hl, others_mid, others_app, blk_all]
  exact List.Perm.append_left _ (List.perm_append_comm_assoc _ _ _)
theorem others_pfx {n : UInt32} {e : EntV UInt32 LockM} (hne : e.key ≠ n) {pre Z W : List (UInt32 × LockM)} (h : (pre ++ (blkL n e e.ws.length ++ Z)).Perm W) {k : Nat} {l : LockM} (hl : e.ws[k]? = some l) : ∃ r, (pre ++ blkL n e k ++ [(e.key, l)] ++ r).Perm W := by
  refine ⟨((e.ws.drop (k + 1)).map fun l => (e.key, l)) ++ Z, ?_⟩
  refine List.Perm.trans (List.Perm.of_eq ?_) h
  have h1 : e.ws = e.ws.take (k + 1) ++ e.ws.drop (k + 1) := (List.take_append_drop _ _).symm
  have h2 : blkL n e e.ws.length = blkL n e (k + 1) ++ (e.ws.drop (k + 1)).map fun l => (e.key, l) := by
    unfold blkL; rw [if_neg hne, if_neg hne, List.take_length, ← List.map_append, List.take_append_drop]
  rw [h2, blk_step hne hl]
  simp [List.append_assoc]
def inW (w : Bool) (p : SpanM) (x : UInt32 × LockM) : Bool := (w || x.2.alone) && meet x.2.s p
theorem way_is {L : LkT} (hk : (L.map (·.1)).Nodup) {n : UInt32} {p : SpanM} {w : Bool} {es : List (EntV UInt32 LockM)} (hes : es.map stE = L) {xs : List (UInt32 × LockM)} (hx : xs.Perm (othersL n es)) {ys zs : List UInt32} (hy : ys.Perm ((xs.filter (inW w p)).map (·.1))) (hz : StrictU zs) (hm : ∀ x, x ∈ zs ↔ x ∈ ys) : zs = wayL L n p w := by
  refine strict_eq hz (way_sorted hk n p w) fun k => ?_
  rw [hm, hy.mem_iff, mem_way, List.mem_map]
  constructor
  · rintro ⟨⟨k', l⟩, h, rfl⟩
    obtain ⟨h1, h2⟩ := List.mem_filter.1 h
    obtain ⟨h3, ls, h4, h5⟩ := mem_others.1 (hx.mem_iff.1 h1)
    rw [hes] at h4
    simp only [inW, Bool.and_eq_true] at h2
    exact ⟨h3, ls, h4, l, h5, h2.1, h2.2⟩
  · rintro ⟨h1, ls, h2, l, h3, h4, h5⟩
    exact ⟨(k, l), List.mem_filter.2 ⟨hx.mem_iff.2 (mem_others.2 ⟨h1, ls, by rw [hes]; exact h2, h3⟩), by simp only [inW, Bool.and_eq_true]; exact ⟨h4, h5⟩⟩, rfl⟩
theorem inW_snoc {w : Bool} {p : SpanM} {pre : List (UInt32 × LockM)} {x : UInt32 × LockM} (h : inW w p x = true) : ((pre ++ [x]).filter (inW w p)).map (·.1) = (pre.filter (inW w p)).map (·.1) ++ [x.1] := by
  rw [List.filter_append, List.map_append]; simp [h]
theorem inW_skip {w : Bool} {p : SpanM} {pre : List (UInt32 × LockM)} {x : UInt32 × LockM} (h : inW w p x = false) : ((pre ++ [x]).filter (inW w p)).map (·.1) = (pre.filter (inW w p)).map (·.1) := by
  rw [List.filter_append, List.map_append]; simp [h]
theorem ask_no {ws : List LockM} {p : SpanM} {w : Bool} (h : ws.any (fun l => eqS l.s p) = false) : askL ws p w = ws ++ [⟨p, w⟩] := by
  unfold askL
  rw [List.findIdx?_eq_none_iff.2 (fun x hx => by have := List.any_eq_false.1 h x hx; simpa using this)]
theorem ask_yes {ws : List LockM} {p : SpanM} {w : Bool} (h : ws.any (fun l => eqS l.s p) = true) : ∃ i l, ws.findIdx (fun l => eqS l.s p) = i ∧ ws[i]? = some l ∧ l.s = p ∧ askL ws p w = ws.set i ⟨p, l.alone || w⟩ := by
  have hlt : ws.findIdx (fun l => eqS l.s p) < ws.length := by
    obtain ⟨x, h1, h2⟩ := List.any_eq_true.1 h
    exact List.findIdx_lt_length_of_exists ⟨x, h1, h2⟩
  have hi : ws.findIdx? (fun l => eqS l.s p) = some (ws.findIdx fun l => eqS l.s p) := List.findIdx?_eq_some_of_exists (by
    obtain ⟨x, h1, h2⟩ := List.any_eq_true.1 h
    exact ⟨x, h1, h2⟩)
  obtain ⟨l, hl, hs⟩ := askL_idx hi
  refine ⟨_, l, rfl, hl, hs, ?_⟩
  unfold askL
  rw [hi]
  simp only [hl]
theorem lockS_st {L : LkT} {es : List (EntV UInt32 LockM)} (hes : es.map stE = L) (n : UInt32) (p : SpanM) (w : Bool) (sv : SV) : (setE es n sv (askL (wsE es n) p w)).map stE = lockS L n p w := by
  rw [setE_st, hes, lockS, wsE_st, hes]
theorem setE_kv {es : List (EntV UInt32 LockM)} {n : UInt32} {i : Nat} {l : LockM} (h : (wsE es n)[i]? = some l) (ws : List LockM) : es.map kvE = (setE es n (svE es n) ws).map kvE := by
  cases hf : findE es n with
  | none => rw [findE_ws hf] at h; cases h
  | some e =>
    obtain ⟨A, B, h1, _, h2⟩ := delE_keys hf
    have hk := (findE_key hf).2
    have hsv : svE es n = e.sv := by unfold svE; rw [hf]
    rw [h2, hsv]
    conv => lhs; rw [h1]
    simp only [List.map_append, List.map_cons, kvE, hk]
/-! who waits for whom -/
def edC (x : UInt32 × UInt32) : List Value := [.int .u32 x.1.toNat, .int .u32 x.2.toNat]
theorem edE : EncOk 2 edC := ⟨fun _ => rfl, fun _ => rfl⟩
def edT (ts : List TxT) (n : UInt32) (t : TxT) (k : Nat) : List (UInt32 × UInt32) := if t.id = n then [] else ((t.x.waits.take k).filter fun w => (findU ts w).isSome).map fun w => (t.id, w)
def edW (ts : List TxT) (n : UInt32) (left : List TxT) : List (UInt32 × UInt32) := left.flatMap fun t => edT ts n t t.x.waits.length
theorem edW_all (ts : List TxT) (n : UInt32) : edW ts n ts = edgesA ts n := by
  unfold edW edgesA edT
  simp only [List.take_length]
theorem edW_len {ts : List TxT} {n : UInt32} {b : Nat} : ∀ {left : List TxT}, (∀ t ∈ left, t.x.waits.length ≤ b) → (edW ts n left).length ≤ left.length * b
  | [], _ => by simp [edW]
  | t :: left, h => by
    have ih := edW_len (ts := ts) (n := n) (left := left) fun t ht => h t (by simp [ht])
    have h1 := h t (by simp)
    have h2 : (edT ts n t t.x.waits.length).length ≤ t.x.waits.length := by
      unfold edT
      split
      · simp
      · rw [List.length_map]; exact Nat.le_trans (List.length_filter_le _ _) (by simp)
    unfold edW at ih ⊢
    rw [List.flatMap_cons, List.length_append, List.length_cons, Nat.add_mul, Nat.one_mul]; omega
theorem edW_take {ts A B left : List TxT} {n : UInt32} {t : TxT} {l : List (UInt32 × UInt32)} {W : List (UInt32 × UInt32)} (h : (l ++ edW ts n left).Perm W) (hl : left = A ++ t :: B) : (l ++ (edT ts n t t.x.waits.length ++ edW ts n (A ++ B))).Perm W := by
  refine List.Perm.trans ?_ h
  rw [hl]
  unfold edW
  rw [List.flatMap_append, List.flatMap_append, List.flatMap_cons]
  exact List.Perm.append_left _ (List.perm_append_comm_assoc _ _ _)
theorem edT_yes {ts : List TxT} {n : UInt32} {t : TxT} (hne : t.id ≠ n) {k : Nat} {w : UInt32} (hw : t.x.waits[k]? = some w) (hs : (findU ts w).isSome = true) : edT ts n t (k + 1) = edT ts n t k ++ [(t.id, w)] := by
  unfold edT
  rw [if_neg hne, if_neg hne, take_snoc hw, List.filter_append, List.map_append]
  simp [hs]
theorem edT_no {ts : List TxT} {n : UInt32} {t : TxT} {k : Nat} {w : UInt32} (hw : t.x.waits[k]? = some w) (hs : t.id = n ∨ (findU ts w).isSome = false) : edT ts n t (k + 1) = edT ts n t k := by
  unfold edT
  split
  · rfl
  · rename_i hne
    have hs := hs.resolve_left hne
    rw [take_snoc hw, List.filter_append, List.map_append]
    simp [hs]
theorem ed_len {ts A B : List TxT} {n : UInt32} {t : TxT} {l W : List (UInt32 × UInt32)} {k : Nat} (h : (l ++ (edT ts n t t.x.waits.length ++ edW ts n (A ++ B))).Perm W) : (l ++ edT ts n t k).length ≤ W.length := by
  rw [← h.length_eq]
  have : (edT ts n t k).length ≤ (edT ts n t t.x.waits.length).length := by
    unfold edT
    split
    · simp
    · rw [List.length_map, List.length_map, List.take_length]
      exact (List.Sublist.filter _ (List.take_sublist _ _)).length_le
  simp only [List.length_append]; omega
theorem reach_ed {l W : List (UInt32 × UInt32)} (h : l.Perm W) (a b : UInt32) : Reach (EdgeL (l.map (·.1)) (l.map (·.2)) (l.map (·.1)).length) a b ↔ Reach (fun x y => (x, y) ∈ W) a b := by
  have hR : ∀ x y, EdgeL (l.map (·.1)) (l.map (·.2)) (l.map (·.1)).length x y ↔ (x, y) ∈ W := fun x y => by
    rw [← h.mem_iff]
    constructor
    · rintro ⟨j, _, h1, h2⟩
      rw [List.getElem?_map, Option.map_eq_some_iff] at h1 h2
      obtain ⟨p, h3, rfl⟩ := h1
      obtain ⟨q, h4, rfl⟩ := h2
      rw [h3] at h4; cases h4
      exact List.mem_of_getElem? h3
    · intro h1
      obtain ⟨j, hj⟩ := List.mem_iff_getElem?.1 h1
      exact ⟨j, by rw [List.length_map]; exact idx_lt hj, by rw [List.getElem?_map, hj]; rfl, by rw [List.getElem?_map, hj]; rfl⟩
  constructor
  · intro h1
    induction h1 with
    | refl => exact .refl
    | tail _ h2 ih => exact ih.tail ((hR _ _).1 h2)
  · intro h1
    induction h1 with
    | refl => exact .refl
    | tail _ h2 ih => exact ih.tail ((hR _ _).2 h2)
open Classical in
theorem ring_any {ts : List TxT} {n : UInt32} {way : List UInt32} {p : UInt32 → Bool} (h : ∀ w, p w = true ↔ Reach (fun x y => (x, y) ∈ edgesA ts n) w n) : way.any p = ringB ts n way := by
  unfold ringB
  rw [Bool.eq_iff_iff, List.any_eq_true, decide_eq_true_iff]
  constructor
  · rintro ⟨w, h1, h2⟩; exact ⟨w, h1, (h w).1 h2⟩
  · rintro ⟨w, h1, h2⟩; exact ⟨w, h1, (h w).2 h2⟩
section
variable {P : Program} {r : Option Nat} {g : World} {Γ : Env} {L M : List HP} {dst : Option Tmp} {t : TypeId} {pos : String} {aft : Array Edge} {gd : Option (Nat × Bool)}
theorem e_lookIt {σ : Type} {x i : Operand} {T e kt : TypeId} {d : TypeDesc} {n : UInt32} {ts : List (TxU UInt32 σ)} {m : Value} {it : Value} {left : List (UInt32 × Value)} {cur : Option (UInt32 × Value)} (ht : P.underlying T = some (.map kt e)) (hk : KeyOk P kt d eU32) (hz : (P.info? e).bind (·.zero) = some (.pointer none)) (hx : ev Γ x = some m := by rfl) (hi : ev Γ i = some (.int .u32 n.toNat) := by rfl) (hp : Pick L (MpIt eU32 m it (List.map kvU ts) left cur) M := by repeat first | exact .z | apply Pick.s) :
    EO P g ⟨dst, .lookup T x i false, t, pos, aft, gd⟩ Γ L (.pointer ((findU ts n).map fun t => ⟨t.q, 0, none⟩)) := by
  have h := em_lookup (g := g) (L := L) (dst := dst) (t := t) (pos := pos) (aft := aft) (gd := gd) (x := x) (i := i) (k := n) ht hk hz mpit_rdm hx hi hp
  rw [mget_kvU] at h
  cases hf : findU ts n with
  | none => rw [hf] at h; exact h
  | some t => rw [hf] at h; exact h
end
end Go.SL
