import Derived.Test.YtdfomffmfnpfoaaGreatWG
import Derived.Test.YtdfomffmfnpfoaaGreatME
import Derived.Test.YtdfomffmfnpfoaaGreatProg
import Derived.KernelRfl
set_option linter.unusedSimpArgs false
set_option linter.unusedVariables false
namespace Go.SL.WI
open Go Go.Proofs Go.SL
theorem a34 : aggOf Tryz.prog 34 = some (some 4) := by kernel_rfl
theorem a41 : aggOf Tryz.prog 41 = some none := by kernel_rfl
theorem a49 : aggOf Tryz.prog 49 = some (some 1) := by kernel_rfl
theorem k10 : callable Tryz.prog 10 = true := by kernel_rfl
theorem k11 : callable Tryz.prog 11 = true := by kernel_rfl
theorem k13 : callable Tryz.prog 13 = true := by kernel_rfl
theorem k14 : callable Tryz.prog 14 = true := by kernel_rfl
theorem k15 : callable Tryz.prog 15 = true := by kernel_rfl
theorem k16 : callable Tryz.prog 16 = true := by kernel_rfl
theorem k17 : callable Tryz.prog 17 = true := by kernel_rfl
theorem k8 : callable Tryz.prog 8 = true := by kernel_rfl
theorem k9 : callable Tryz.prog 9 = true := by kernel_rfl
theorem pt26 : isPtr Tryz.prog 26 = true := by kernel_rfl
theorem s49 : szOf Tryz.prog 49 = some 1 := by kernel_rfl
theorem sl41 : slOf Tryz.prog 41 = some (34, 4, 48) := by kernel_rfl
theorem sl42 : slOf Tryz.prog 42 = some (49, 1, 24) := by kernel_rfl
theorem sl58 : slOf Tryz.prog 58 = some (41, 1, 24) := by kernel_rfl
theorem z34 : zeroOf Tryz.prog 34 = some [.int .u8 0, .string .empty, .string .empty, .int .u32 0] := by kernel_rfl
theorem z49 : zeroOf Tryz.prog 49 = some [.slice none 0 0] := by kernel_rfl
end Go.SL.WI
namespace Go.SL
open Go Go.Proofs WI
def lC (x : SV × List OpM) : List Value := [x.1.v]
theorem lE : EncOk 1 lC := ⟨fun _ => rfl, fun _ => rfl⟩

set_option maxHeartbeats 4000000 in
theorem Rise_spec {g : World} {A : HP} {u : Value} {ls : List (SV × List OpM)} (hA : RL A 1 lC u ls) (hE : ∀ y ∈ ls, RL A 4 OpM.c y.1.v y.2) (hn1 : ls.length ≤ 140737488351232) : Spec Tryz.prog g 5 [u] [A] fun K R => K (.bool true) (A :: R) := by
  refine Spec.intro Tryz.func5 rfl Tryz.ntmps5 rfl fun R K hK => ?_
  refine WP.seq ?_
  refine WP.reg ?_
  refine WL.e e_assign ?_
  refine WL.next ?_
  refine WP.seq ?_
  refine WP.seq ?_
  refine WP.reg ?_
  refine WL.e e_move ?_
  refine WL.e (el_len sl58 hA) <| WL.e e_gtr ?_
  refine WL.next ?_
  refine WP.cond rfl (fun h0 => ?_) (fun h0 => ?_)
  · skip
    refine WP.seq ?_
    refine WP.reg ?_
    refine WL.h (h_call (lives_spec) k8 ?_)
    refine WL.e e_assign ?_
    refine WL.next ?_
    refine WP.ret ?_
    refine PO.past nofun ?_
    exact PO.finE Tryz.results5 (rv_tmp rv_nil) rfl hK
  · replace h0 : ls.length ≤ 30 := by simp at h0; omega
    refine WP.skip ?_
    refine PO.next ?_
    refine WP.seq ?_
    refine WP.reg ?_
    refine WL.h (h_call (opened_spec) k9 ?_)
    intro dp p d hq
    refine WL.e e_move <| WL.e e_extract <| WL.e e_extract <| WL.e e_assign <| WL.e e_assign ?_
    refine WL.next ?_
    refine WP.seq ?_
    refine WP.seq ?_
    refine WP.reg ?_
    refine WL.e e_move <| WL.e (e_peq pt26) ?_
    refine WL.next ?_
    refine WP.cond_f rfl ?_
    refine WP.skip ?_
    refine PO.next ?_
    refine WP.seq ?_
    refine WP.seq ?_
    refine WP.reg ?_
    refine WL.e e_assign ?_
    refine WL.next ?_
    refine WP.block ?_
    refine WP.loopK (fun (x : Nat × GamV) => [(5, .int .i64 x.1)]) (fun (x : Nat × GamV) => Gs p dp x.2 :: Txs x.2.txs :: A :: R) [(0, _), (4, _)] (fun (x : Nat × GamV) => x.1 ≤ ls.length ∧ RiseB x.2 x.1 ∧ (∀ j y, j < x.1 → ls[j]? = some y → y.2.length ≤ 30)) (fun (x : Nat × GamV) => ls.length - x.1) (0, gam0 d) (⟨Nat.zero_le _, RiseB.first hq, fun j y h => absurd h (Nat.not_lt_zero _)⟩) ?_
    rintro ⟨i, s⟩ ⟨hi, hB, hsm⟩
    simp only at hi hB hsm
    dsimp only
    refine WP.seq ?_
    refine WP.seq ?_
    refine WP.reg ?_
    refine WL.e e_move <| WL.e e_move ?_
    refine WL.e (el_len sl58 hA) <| WL.e e_lss ?_
    refine WL.next ?_
    refine WP.cond rfl (fun h1 => ?_) (fun h1 => ?_)
    · have hlt : i < ls.length := by rw [decide_eq_true_eq] at h1; omega
      obtain ⟨y, hy⟩ : ∃ y, ls[i]? = some y := ⟨_, List.getElem?_eq_getElem hlt⟩
      have hyA := hE y (List.mem_of_getElem? hy)
      refine WP.skip ?_
      refine PO.next ?_
      refine WP.seq ?_
      refine WP.block ?_
      refine WP.seq ?_
      refine WP.seq ?_
      refine WP.reg ?_
      refine WL.e e_move <| WL.e e_move ?_
      refine WL.e (el_ia (j := i) sl58 hA hlt) ?_
      refine WL.e (el_load0 (j := i) (a := y) a41 lE hA hy) ?_
      refine WL.e (el_len sl41 hyA) <| WL.e e_gtr ?_
      refine WL.next ?_
      refine WP.cond rfl (fun h3 => ?_) (fun h3 => ?_)
      · skip
        refine WP.seq ?_
        refine WP.reg ?_
        refine WL.h (h_call (lives_spec) k8 ?_)
        refine WL.e e_assign ?_
        refine WL.next ?_
        refine WP.ret ?_
        refine PO.past nofun ?_
        refine PO.blockR ?_
        refine PO.past nofun ?_
        refine PO.round nofun ?_
        refine PO.blockR ?_
        refine PO.past nofun ?_
        exact PO.finE Tryz.results5 (rv_tmp rv_nil) rfl hK
      · replace h3 : y.2.length ≤ 30 := by simp at h3; omega
        refine WP.skip ?_
        refine PO.next ?_
        refine WP.seq ?_
        refine WP.reg ?_
        refine WL.e e_move <| WL.e e_move <| WL.e (e_sub (c := ((100 - i : Nat) : Int)) rfl rfl (by rw [w_i64 (by omega) (by omega)]; omega)) <| WL.e (e_c32 (a := 100 - i) (by rw [Tryz.underlying3]; rfl) Tryz.underlying31) ?_
        refine WL.h (h_call (Begin_spec (s := s) (ridU i)) k10 ?_)
        intro q
        obtain ⟨hE1, hB2⟩ := hB.beg (by omega) q
        rw [hE1]
        refine WL.e e_neq ?_
        refine WL.next ?_
        refine WP.cond_f rfl ?_
        refine WP.skip ?_
        refine PO.blockN ?_
        refine PO.next ?_
        refine WP.reg ?_
        refine WL.e e_move <| WL.e (e_add (c := ((i + 1 : Nat) : Int)) rfl rfl (by rw [w_i64 (by omega) (by omega)]; omega)) <| WL.e e_assign ?_
        refine WL.nil ?_
        exact PO.againK (i + 1, begG s (ridU i) q) ⟨by simp only; omega, hB2, fun j y2 hj hy2 => by rcases Nat.lt_or_ge j i with h | h; exact hsm j y2 h hy2; obtain rfl : j = i := (by simp only at hj; omega); rw [hy] at hy2; cases hy2; exact h3⟩ (by simp only; omega)
    · obtain rfl : i = ls.length := by rw [decide_eq_false_iff_not] at h1; omega
      refine WP.exit ?_
      refine PO.past nofun ?_
      refine PO.round nofun ?_
      refine PO.blockX ?_
      refine PO.next ?_
      refine WP.seq ?_
      refine WP.reg ?_
      refine WL.e e_assign ?_
      refine WL.next ?_
      refine WP.seq ?_
      refine WP.seq ?_
      refine WP.reg ?_
      refine WL.e e_assign ?_
      refine WL.next ?_
      refine WP.block ?_
      refine WP.nils 70 2 RowM.c none ?_
      refine WP.loopK (fun (x : Nat × List TxV × GamV × SV × List RowM × Nat) => [(7, .int .i64 x.1), (6, x.2.2.2.1.v)]) (fun (x : Nat × List TxV × GamV × SV × List RowM × Nat) => Gs p dp x.2.2.1 :: Txs x.2.2.1.txs :: Sl 70 2 RowM.c x.2.2.2.1.v x.2.2.2.2.1 :: A :: R) [(0, _), (4, _)] (fun (x : Nat × List TxV × GamV × SV × List RowM × Nat) => x.1 ≤ ls.length ∧ x.2.1.length = ls.length - x.1 ∧ RiseM x.1 x.2.1 x.2.2.2.2.1 x.2.2.1 x.2.2.2.2.2 ∧ x.2.2.2.2.2 ≤ 30 * x.1 ∧ KeysOk x.2.2.2.2.1) (fun (x : Nat × List TxV × GamV × SV × List RowM × Nat) => ls.length - x.1) (0, s.txs, s, ⟨none, 0, 0⟩, [], 0) (⟨Nat.zero_le _, by simp only; rw [hB.len]; omega, hB.go, Nat.le_refl _, by simp [KeysOk]⟩) ?_
      clear hB hi
      rintro ⟨i, rest, s, w6, rows, b⟩ ⟨hi, hrl, hM, hb, hks⟩
      simp only at hi hrl hM hb hks
      dsimp only
      have hrr : Rising rows := hM.hrows ▸ hM.ok.rising
      have hrn : rows.length ≤ b := by have := hM.ok.sum; rw [hM.hrows] at this; omega
      refine WP.seq ?_
      refine WP.seq ?_
      refine WP.reg ?_
      refine WL.e e_move <| WL.e e_move ?_
      refine WL.e (el_len sl58 hA) <| WL.e e_lss ?_
      refine WL.next ?_
      refine WP.cond rfl (fun h4 => ?_) (fun h4 => ?_)
      · have hlt : i < ls.length := by rw [decide_eq_true_eq] at h4; omega
        obtain ⟨y, hy⟩ : ∃ y, ls[i]? = some y := ⟨_, List.getElem?_eq_getElem hlt⟩
        have hyA := hE y (List.mem_of_getElem? hy)
        have hys := hsm i y hlt hy
        obtain ⟨t0, rest2, rfl⟩ : ∃ t0 rest2, rest = t0 :: rest2 := by cases rest with
          | nil => simp at hrl; omega
          | cons a l => exact ⟨a, l, rfl⟩
        simp only [List.length_cons] at hrl
        have hI0 := hM.next rfl (by omega) (by omega)
        refine WP.skip ?_
        refine PO.next ?_
        refine WP.seq ?_
        refine WP.block ?_
        refine WP.seq ?_
        refine WP.reg ?_
        refine WL.e e_assign ?_
        refine WL.next ?_
        refine WP.seq ?_
        refine WP.reg ?_
        refine WL.e e_assign ?_
        refine WL.next ?_
        refine WP.seq ?_
        refine WP.seq ?_
        refine WP.reg ?_
        refine WL.e e_assign ?_
        refine WL.next ?_
        refine WP.block ?_
        refine WP.nils 34 4 OpM.c none ?_
        refine WP.nils 49 1 resC none ?_
        refine WP.conv (fun S h => ResR_nil h) ?_
        refine WP.loopK (fun (x : Nat × GamV × TxV × SV × List OpM × SV × List ResV) => [(10, .int .i64 x.1), (8, x.2.2.2.1.v), (9, x.2.2.2.2.2.1.v)]) (fun (x : Nat × GamV × TxV × SV × List OpM × SV × List ResV) => Gs p dp x.2.1 :: Txs x.2.1.txs :: Sl 34 4 OpM.c x.2.2.2.1.v x.2.2.2.2.1 :: Sl 49 1 resC x.2.2.2.2.2.1.v x.2.2.2.2.2.2 :: ResR x.2.2.2.2.2.2 :: A :: Sl 70 2 RowM.c w6.v rows :: R) [(0, _), (4, _), (6, _), (7, _), (46, _), (47, _), (48, _), (49, _)] (fun (x : Nat × GamV × TxV × SV × List OpM × SV × List ResV) => x.1 ≤ y.2.length ∧ x.2.2.2.2.1.length ≤ x.1 ∧ x.2.2.2.2.2.2.length ≤ x.1 ∧ RiseI i rest2 rows x.2.1 x.2.2.1 (b + x.1) x.2.2.2.2.1 (x.2.2.2.2.2.2.map (·.2))) (fun (x : Nat × GamV × TxV × SV × List OpM × SV × List ResV) => y.2.length - x.1) (0, s, t0, ⟨none, 0, 0⟩, [], ⟨none, 0, 0⟩, []) (⟨Nat.zero_le _, Nat.le_refl _, Nat.le_refl _, hI0⟩) ?_
        rintro ⟨k, s, t, w8, done, w9, tl⟩ ⟨hk, hdl, htl, hI⟩
        simp only at hk hdl htl hI
        dsimp only
        refine WP.seq ?_
        refine WP.seq ?_
        refine WP.reg ?_
        refine WL.e e_move <| WL.e e_move <| WL.e e_move ?_
        refine WL.e (el_ia (j := i) sl58 hA hlt) ?_
        refine WL.e (el_load0 (j := i) (a := y) a41 lE hA hy) ?_
        refine WL.e (el_len sl41 hyA) <| WL.e e_lss ?_
        refine WL.next ?_
        refine WP.cond rfl (fun h5 => ?_) (fun h5 => ?_)
        · have hkt : k < y.2.length := by rw [decide_eq_true_eq] at h5; omega
          obtain ⟨x, hx⟩ : ∃ x, y.2[k]? = some x := ⟨_, List.getElem?_eq_getElem hkt⟩
          refine WP.skip ?_
          refine PO.next ?_
          refine WP.seq ?_
          refine WP.block ?_
          refine WP.seq ?_
          refine WP.reg ?_
          refine WL.e e_move <| WL.e e_move <| WL.e (e_sub (c := ((100 - i : Nat) : Int)) rfl rfl (by rw [w_i64 (by omega) (by omega)]; omega)) <| WL.e (e_c32 (a := 100 - i) (by rw [Tryz.underlying3]; rfl) Tryz.underlying31) <| WL.e e_move <| WL.e e_move ?_
          refine WL.e (el_ia (j := i) sl58 hA hlt) ?_
          refine WL.e (el_load0 (j := i) (a := y) a41 lE hA hy) <| WL.e e_move ?_
          refine WL.e (el_ia (j := k) sl41 hyA hkt) ?_
          refine WL.e (el_loadN (a := x) a34 opE hyA hx) ?_
          refine WL.h (h_call (Do_spec (s := s) (ridU i) x hI.ok) k13 ?_)
          rcases hI.step x with ⟨hx1, e1⟩ | ⟨hx1, hx2, e1⟩ | ⟨hx1, hx2, e1⟩
          · rw [e1]
            refine WL.e e_move <| WL.e e_extract <| WL.e e_extract ?_
            refine WL.h (h_alloc z49 fun b1 => ?_)
            refine WL.h' (h_store s49 ?_)
            refine WL.e e_assign ?_
            refine WL.next ?_
            refine WP.seq ?_
            refine WP.reg ?_
            refine WL.e e_move <| WL.e e_eql ?_
            refine WL.next ?_
            refine WP.cond_f rfl ?_
            refine WP.seq ?_
            refine WP.reg ?_
            refine WL.e e_move <| WL.e e_neq ?_
            refine WL.next ?_
            refine WP.cond_f rfl ?_
            refine WP.skip ?_
            refine PO.blockN ?_
            refine PO.next ?_
            refine WP.reg ?_
            refine WL.e e_move <| WL.e (e_add (c := ((k + 1 : Nat) : Int)) rfl rfl (by rw [w_i64 (by omega) (by omega)]; omega)) <| WL.e e_assign ?_
            refine WL.nil ?_
            exact PO.againK (k + 1, s, t, w8, done, w9, tl) ⟨by simp only; omega, by simp only; omega, by simp only; omega, hI.mono (Nat.le_succ _) (by omega)⟩ (by simp only; omega)
          · rw [e1]
            intro sv7
            refine WL.e e_move <| WL.e e_extract <| WL.e e_extract ?_
            refine WL.h (h_alloc z49 fun b2 => ?_)
            refine WL.h' (h_store s49 ?_)
            refine WL.e e_assign ?_
            refine WL.next ?_
            refine WP.seq ?_
            refine WP.reg ?_
            refine WL.e e_move <| WL.e e_eql ?_
            refine WL.next ?_
            refine WP.cond_t rfl ?_
            refine WP.seq ?_
            refine WP.reg ?_
            refine WL.e e_move <| WL.e e_move <| WL.e e_move ?_
            refine WL.e (el_ia (j := i) sl58 hA hlt) ?_
            refine WL.e (el_load0 (j := i) (a := y) a41 lE hA hy) <| WL.e e_move ?_
            refine WL.e (el_ia (j := k) sl41 hyA hkt) ?_
            refine WL.e (el_loadN (a := x) a34 opE hyA hx) ?_
            refine WL.h (h_bs sl41 z34 (.a4 (.tmp 85) rfl <| .n) fun b3 => ?_)
            refine WL.h (hl_append (xs := done) (ys := [x]) sl41 opE z34 (lit_rl opE [x] rfl) (by simp; omega) (fun a3 n3 m3 => ?_))
            refine WL.e e_assign ?_
            refine WL.next ?_
            refine WP.reg ?_
            refine WL.e e_move <| WL.e (e_loadN a49) ?_
            refine WL.h (h_bs sl42 z49 (.a1 (.tmp 89) rfl <| .n) fun b4 => ?_)
            refine WL.h (hl_append (xs := tl) (ys := [((⟨none, 0, 0⟩ : SV), ([] : List RowM))]) sl42 resE z49 (lit_rl resE [((⟨none, 0, 0⟩ : SV), ([] : List RowM))] rfl) (by simp; omega) (fun a2 n2 m2 => ?_))
            refine WL.e e_assign ?_
            refine WL.nil ?_
            refine PO.blockN ?_
            refine PO.next ?_
            refine WP.reg ?_
            refine WL.e e_move <| WL.e (e_add (c := ((k + 1 : Nat) : Int)) rfl rfl (by rw [w_i64 (by omega) (by omega)]; omega)) <| WL.e e_assign ?_
            refine WL.nil ?_
            refine PO.nils 70 2 RowM.c none ?_
            refine PO.cls (A := ResR (tl ++ [((⟨none, 0, 0⟩ : SV), ([] : List RowM))])) (B := [ResR tl, Sl 70 2 RowM.c (.slice none 0 0) (([] : List RowM))]) (ResR_snoc (l := tl) (x := ((⟨none, 0, 0⟩ : SV), ([] : List RowM)))) ?_
            exact PO.againK (k + 1, (putG s t.id (chgOf x) sv7), { t with own := t.own ++ [chgOf x], sv := sv7 }, ⟨a3, n3, m3⟩, done ++ [x], ⟨a2, n2, m2⟩, tl ++ [((⟨none, 0, 0⟩ : SV), ([] : List RowM))]) ⟨by simp only; omega, by simp; omega, by simp; omega, by simp only [List.map_append]; exact hI.put (by omega) hx1 hx2 sv7⟩ (by simp only; omega)
          · rw [e1]
            intro a7 m7 c7
            refine WL.e e_move <| WL.e e_extract <| WL.e e_extract ?_
            refine WL.h (h_alloc z49 fun b5 => ?_)
            refine WL.h' (h_store s49 ?_)
            refine WL.e e_assign ?_
            refine WL.next ?_
            refine WP.seq ?_
            refine WP.reg ?_
            refine WL.e e_move <| WL.e e_eql ?_
            refine WL.next ?_
            refine WP.cond_t rfl ?_
            refine WP.seq ?_
            refine WP.reg ?_
            refine WL.e e_move <| WL.e e_move <| WL.e e_move ?_
            refine WL.e (el_ia (j := i) sl58 hA hlt) ?_
            refine WL.e (el_load0 (j := i) (a := y) a41 lE hA hy) <| WL.e e_move ?_
            refine WL.e (el_ia (j := k) sl41 hyA hkt) ?_
            refine WL.e (el_loadN (a := x) a34 opE hyA hx) ?_
            refine WL.h (h_bs sl41 z34 (.a4 (.tmp 85) rfl <| .n) fun b6 => ?_)
            refine WL.h (hl_append (xs := done) (ys := [x]) sl41 opE z34 (lit_rl opE [x] rfl) (by simp; omega) (fun a3 n3 m3 => ?_))
            refine WL.e e_assign ?_
            refine WL.next ?_
            refine WP.reg ?_
            refine WL.e e_move <| WL.e (e_loadN a49) ?_
            refine WL.h (h_bs sl42 z49 (.a1 (.tmp 89) rfl <| .n) fun b7 => ?_)
            refine WL.h (hl_append (xs := tl) (ys := [((⟨a7, m7, c7⟩ : SV), scanR (changeR s.rows t.own) (spanOf x) 256)]) sl42 resE z49 (lit_rl resE [((⟨a7, m7, c7⟩ : SV), scanR (changeR s.rows t.own) (spanOf x) 256)] rfl) (by simp; omega) (fun a2 n2 m2 => ?_))
            refine WL.e e_assign ?_
            refine WL.nil ?_
            refine PO.blockN ?_
            refine PO.next ?_
            refine WP.reg ?_
            refine WL.e e_move <| WL.e (e_add (c := ((k + 1 : Nat) : Int)) rfl rfl (by rw [w_i64 (by omega) (by omega)]; omega)) <| WL.e e_assign ?_
            refine WL.nil ?_
            refine PO.cls (A := ResR (tl ++ [((⟨a7, m7, c7⟩ : SV), scanR (changeR s.rows t.own) (spanOf x) 256)])) (B := [ResR tl, Sl 70 2 RowM.c (.slice a7 m7 c7) (scanR (changeR s.rows t.own) (spanOf x) 256)]) (ResR_snoc (l := tl) (x := ((⟨a7, m7, c7⟩ : SV), scanR (changeR s.rows t.own) (spanOf x) 256))) ?_
            exact PO.againK (k + 1, lookG s t (spanOf x), t, ⟨a3, n3, m3⟩, done ++ [x], ⟨a2, n2, m2⟩, tl ++ [((⟨a7, m7, c7⟩ : SV), scanR (changeR s.rows t.own) (spanOf x) 256)]) ⟨by simp only; omega, by simp; omega, by simp; omega, by simp only [List.map_append]; exact hI.look (by omega) (by omega) hx1 hx2⟩ (by simp only; omega)
        · obtain rfl : k = y.2.length := by rw [decide_eq_false_iff_not] at h5; omega
          obtain ⟨hr4, hr5, hr6⟩ := runM_rows hrr done
          have hol : t.own.length ≤ 30 := by have := hI.own_le; omega
          refine WP.exit ?_
          refine PO.past nofun ?_
          refine PO.round nofun ?_
          refine PO.blockX ?_
          refine PO.next ?_
          refine WP.seq ?_
          refine WP.reg ?_
          refine WL.e e_move <| WL.e e_move <| WL.e (e_sub (c := ((100 - i : Nat) : Int)) rfl rfl (by rw [w_i64 (by omega) (by omega)]; omega)) <| WL.e (e_c32 (a := 100 - i) (by rw [Tryz.underlying3]; rfl) Tryz.underlying31) ?_
          refine WL.h (h_call (Commit_spec (s := s) (ridU i) hI.ok) k11 ?_)
          obtain ⟨e1, e2, hM2⟩ := hI.com (by omega) hol
          rw [e1, e2]
          generalize comG s (ridU i) = s2 at hM2 ⊢
          refine WL.e e_move <| WL.e e_extract <| WL.e e_extract <| WL.e e_assign <| WL.e e_assign ?_
          refine WL.next ?_
          refine WP.seq ?_
          refine WP.reg ?_
          refine WL.e e_move <| WL.e e_move ?_
          refine WL.h (h_call (Run_spec (sl_rl (xs := rows)) (sl_rl (xs := done)) hrr hks hI.does.ok (by omega)) k14 ?_)
          intro sv2 ts2 a6 n6 c6 ht2
          refine WL.e e_move <| WL.e e_extract <| WL.e e_extract <| WL.e e_assign <| WL.e e_assign ?_
          refine WL.next ?_
          refine WP.seq ?_
          refine WP.seq ?_
          refine WP.reg ?_
          refine WL.e e_move <| WL.e e_move <| WL.e (e_c32 (a := i) (by rw [Tryz.underlying3]; rfl) Tryz.underlying31) <| WL.e (e_add32 (b := 1)) <| WL.e (e_neq32) <| WL.e e_move ?_
          refine WL.bool 113 rfl (fun n1 => ?_) (fun n1 => ?_)
          · exact absurd n1 (by rw [show UInt32.ofNat i + 1 = rnumU i by simp [rnumU]]; simp) -- end
          · skip
            refine WL.e e_move <| WL.e e_neq <| WL.e e_pick_f <| WL.e e_move ?_
            refine WL.bool 117 rfl (fun n2 => ?_) (fun n2 => ?_)
            · exact absurd n2 (by decide) -- end
            · skip
              refine WL.e e_move <| WL.e e_move ?_
              refine WL.h (h_call (SameResults_spec (sl_rl (xs := tl)) (sl_rl (xs := ts2)) (by omega) (fun z hz => by have h3 := hI.does.told; have h4 := runM_told rows done z.2 (by rw [← h3]; exact List.mem_map.2 ⟨z, hz, rfl⟩); omega)) k15 ?_)
              rw [decide_eq_true (show tl.map (·.2) = ts2.map (·.2) by rw [ht2]; exact hI.does.told)]
              refine WL.e e_not <| WL.e e_pick_f ?_
              refine WL.next ?_
              refine WP.cond_f rfl ?_
              refine WP.skip ?_
              refine PO.next ?_
              refine WP.reg ?_
              refine WL.e e_move <| WL.e e_assign ?_
              refine WL.nil ?_
              refine PO.blockN ?_
              refine PO.next ?_
              refine WP.reg ?_
              refine WL.e e_move <| WL.e (e_add (c := ((i + 1 : Nat) : Int)) rfl rfl (by rw [w_i64 (by omega) (by omega)]; omega)) <| WL.e e_assign ?_
              refine WL.nil ?_
              exact PO.againK (i + 1, rest2, s2, ⟨a6, n6, c6⟩, (runM rows done).2, b + y.2.length) ⟨by simp only; omega, by simp only; omega, hM2, by simp only; omega, runM_keys hrr hks done hI.does.ok⟩ (by simp only; omega)
      · skip
        refine WP.exit ?_
        refine PO.past nofun ?_
        refine PO.round nofun ?_
        refine PO.blockX ?_
        refine PO.next ?_
        refine WP.seq ?_
        refine WP.reg ?_
        refine WL.e e_move ?_
        refine WL.h (h_call (GRows_spec (s := s) (by rw [hM.hrows]; omega)) k17 ?_)
        intro a5 m5 c5
        refine WL.e e_move ?_
        refine WL.h (h_call (SameRows_spec (sl_rl (xs := s.rows)) (sl_rl (xs := rows)) (by rw [hM.hrows]; omega)) k16 ?_)
        rw [decide_eq_true hM.hrows]
        refine WL.e e_move ?_
        refine WL.bool 128 rfl (fun y1 => ?_) (fun y1 => ?_)
        · skip
          refine WL.h (h_call (lives_spec) k8 ?_)
          refine WL.e e_pick_t <| WL.e e_assign ?_
          refine WL.next ?_
          refine WP.ret ?_
          exact PO.finE Tryz.results5 (rv_tmp rv_nil) rfl hK
        · exact absurd y1 (by decide) -- end

end Go.SL
