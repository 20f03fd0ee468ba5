/- UC SLv: rules and walks, several texts in one. -/
import Derived.Test.YtdpmpcoekkhceaaGreatQC22
import Derived.Test.YtdpmpcoekkhceaaGreatProg
import Derived.KernelRfl
import Derived.Deep.Slices
import Derived.ChangeSame
import Derived.SizedLaws
set_option linter.unusedSimpArgs false
set_option linter.unusedVariables false
namespace Go.SL.UC
open Go Go.Proofs Go.SL
theorem a22 : aggOf Tryz.prog 22 = some none := by kernel_rfl
theorem a31 : aggOf Tryz.prog 31 = some (some 1) := by kernel_rfl
theorem a36 : aggOf Tryz.prog 36 = some (some 4) := by kernel_rfl
theorem a5 : aggOf Tryz.prog 5 = some none := by kernel_rfl
theorem a60 : aggOf Tryz.prog 60 = some none := by kernel_rfl
theorem a61 : aggOf Tryz.prog 61 = some none := by kernel_rfl
theorem a77 : aggOf Tryz.prog 77 = some (some 8) := by kernel_rfl
theorem a80 : aggOf Tryz.prog 80 = some (some 3) := by kernel_rfl
theorem f77_0 : fldOf Tryz.prog 77 0 = some 0 := by kernel_rfl
theorem f77_1 : fldOf Tryz.prog 77 1 = some 1 := by kernel_rfl
theorem f77_2 : fldOf Tryz.prog 77 2 = some 2 := by kernel_rfl
theorem f80_0 : fldOf Tryz.prog 80 0 = some 0 := by kernel_rfl
theorem f80_1 : fldOf Tryz.prog 80 1 = some 1 := by kernel_rfl
theorem f80_2 : fldOf Tryz.prog 80 2 = some 2 := by kernel_rfl
theorem k22 : callable Tryz.prog 22 = true := by kernel_rfl
theorem k23 : callable Tryz.prog 23 = true := by kernel_rfl
theorem k24 : callable Tryz.prog 24 = true := by kernel_rfl
theorem k26 : callable Tryz.prog 26 = true := by kernel_rfl
theorem k28 : callable Tryz.prog 28 = true := by kernel_rfl
theorem k29 : callable Tryz.prog 29 = true := by kernel_rfl
theorem k32 : callable Tryz.prog 32 = true := by kernel_rfl
theorem k33 : callable Tryz.prog 33 = true := by kernel_rfl
theorem k34 : callable Tryz.prog 34 = true := by kernel_rfl
theorem k36 : callable Tryz.prog 36 = true := by kernel_rfl
theorem k37 : callable Tryz.prog 37 = true := by kernel_rfl
theorem mixedOk : Tryz.prog.follows .mixedOrders = true := by kernel_rfl
theorem p80 : placesOf Tryz.prog 80 = some [(0, 1), (1, 1), (2, 1)] := by kernel_rfl
theorem pt48 : isPtr Tryz.prog 48 = true := by kernel_rfl
theorem pt78 : isPtr Tryz.prog 78 = true := by kernel_rfl
theorem s22 : szOf Tryz.prog 22 = some 1 := by kernel_rfl
theorem s31 : szOf Tryz.prog 31 = some 1 := by kernel_rfl
theorem s60 : szOf Tryz.prog 60 = some 1 := by kernel_rfl
theorem s61 : szOf Tryz.prog 61 = some 1 := by kernel_rfl
theorem s77 : szOf Tryz.prog 77 = some 8 := by kernel_rfl
theorem sl60 : slOf Tryz.prog 60 = some (36, 4, 48) := by kernel_rfl
theorem sl61 : slOf Tryz.prog 61 = some (31, 1, 24) := by kernel_rfl
theorem sl73 : slOf Tryz.prog 73 = some (77, 8, 72) := by kernel_rfl
theorem sl76 : slOf Tryz.prog 76 = some (80, 3, 56) := by kernel_rfl
theorem z31 : zeroOf Tryz.prog 31 = some [.slice none 0 0] := by kernel_rfl
theorem z36 : zeroOf Tryz.prog 36 = some [.int .u8 0, .string .empty, .string .empty, .int .u32 0] := by kernel_rfl
theorem z77 : zeroOf Tryz.prog 77 = some [.int .u8 0, .int .u32 0, .int .u8 0, .string .empty, .string .empty, .int .u32 0, .int .u64 0, .int .i64 0] := by kernel_rfl
theorem z80 : zeroOf Tryz.prog 80 = some [.int .u32 0, .slice none 0 0, .slice none 0 0] := by kernel_rfl
theorem zz78 : (Tryz.prog.info? 78).bind (·.zero) = some (.pointer none) := by kernel_rfl
end Go.SL.UC
namespace Go.SL
open Go Go.Proofs UC
def didL (d : DidV) : List HP := [cl d.p 80 [.int .u32 (d.num).toNat, d.os.v, d.ls.v], Sl 36 4 OpM.c d.os.v d.ops, Sl 31 1 resC d.ls.v d.l, ResR d.l]
def comL (d : DidV) : List HP := [Sl 36 4 OpM.c d.os.v d.ops, Sl 31 1 resC d.ls.v d.l, ResR d.l]
def Dids (F : List DidV) : HP := bun (F.map fun d => bun (didL d))
def Coms (F : List DidV) : HP := bun (F.map fun d => bun (comL d))
theorem Dids_nil {L : List HP} {S : Piece} (h : stars L S) : stars (Dids [] :: L) S := bun_stars (L := []) h
theorem Coms_nil {L : List HP} {S : Piece} (h : stars L S) : stars (Coms [] :: L) S := bun_stars (L := []) h
theorem Dids_out {F : List DidV} {n : UInt32} {d : DidV} (h : findD F n = some d) : ∀ S, Dids F S → ∃ _ : Unit, stars [cl d.p 80 [.int .u32 (d.num).toNat, d.os.v, d.ls.v], Sl 36 4 OpM.c d.os.v d.ops, Sl 31 1 resC d.ls.v d.l, ResR d.l, Dids (delD F n)] S := fun S hS =>
  ⟨(), app_bun (L := didL d) (stars_bun (dids_find h hS))⟩
theorem Dids_in {F : List DidV} {d : DidV} : ∀ S, stars [cl d.p 80 [.int .u32 (d.num).toNat, d.os.v, d.ls.v], Sl 36 4 OpM.c d.os.v d.ops, Sl 31 1 resC d.ls.v d.l, ResR d.l, Dids F] S → Dids (d :: F) S := fun S hS => bun_mid_in (f := didL) (A := []) (B := F) hS
theorem Dids_drop {F : List DidV} {n : UInt32} : ∀ S, stars [Dids F] S → Dids (delD F n) S := fun S hS => dids_sub (by have := stars_bun hS; simpa using this)
theorem Coms_out {l A B : List DidV} {d : DidV} (h : l = A ++ d :: B) : ∀ S, Coms l S → ∃ _ : Unit, stars [Sl 36 4 OpM.c d.os.v d.ops, Sl 31 1 resC d.ls.v d.l, ResR d.l, Coms (A ++ B)] S := fun S hS => ⟨(), bun_mid_out (f := comL) (h ▸ hS)⟩
theorem Coms_in {A B : List DidV} {d : DidV} : ∀ S, stars [Sl 36 4 OpM.c d.os.v d.ops, Sl 31 1 resC d.ls.v d.l, ResR d.l, Coms (A ++ B)] S → Coms (A ++ d :: B) S := fun S hS => bun_mid_in (f := comL) hS
set_option maxHeartbeats 4000000 in
theorem Serial_spec {g : World} {A : HP} {u : Value} {xs : List ActM} (hA : RL A 8 ActM.c u xs) : Spec Tryz.prog g 8 [u] [A] fun K R => K (.bool true) (A :: R) := by
  refine Spec.intro Tryz.func8 rfl Tryz.ntmps8 rfl fun R K hK => ?_
  refine WP.seq ?_
  refine WP.reg ?_
  refine WL.e e_assign ?_
  refine WL.next ?_
  refine WP.seq ?_
  refine WP.seq ?_
  refine WP.reg ?_
  refine WL.e e_move ?_
  refine WL.h (h_call (great_spec hA) k36 ?_)
  refine WL.next ?_
  refine WP.cond rfl (fun h0 => ?_) (fun h0 => ?_)
  · skip
    refine WP.seq ?_
    refine WP.reg ?_
    refine WL.h (h_call (lives_spec) k29 ?_)
    refine WL.e e_assign ?_
    refine WL.next ?_
    refine WP.ret ?_
    refine PO.past nofun ?_
    exact PO.finE Tryz.results8 (rv_tmp rv_nil) rfl hK
  · replace h0 : xs.length ≤ 150 := by simp at h0; omega
    refine WP.skip ?_
    refine PO.next ?_
    refine WP.seq ?_
    refine WP.reg ?_
    refine WL.h (h_call (opened_spec) k22 ?_)
    intro dp p
    refine WL.e e_move <| WL.e e_extract <| WL.e e_extract <| WL.e e_assign <| WL.e e_assign ?_
    refine WL.next ?_
    refine WP.seq ?_
    refine WP.seq ?_
    refine WP.reg ?_
    refine WL.e e_move <| WL.e (e_peq pt48) ?_
    refine WL.next ?_
    refine WP.cond_f rfl ?_
    refine WP.skip ?_
    refine PO.next ?_
    refine WP.seq ?_
    refine WP.reg ?_
    refine WL.h (h_makeMap (ek := eU32) fun om => ?_)
    refine WL.e e_assign ?_
    refine WL.next ?_
    refine WP.seq ?_
    refine WP.reg ?_
    refine WL.e e_assign ?_
    refine WL.next ?_
    refine WP.seq ?_
    refine WP.seq ?_
    refine WP.reg ?_
    refine WL.e e_assign ?_
    refine WL.next ?_
    refine WP.block ?_
    refine WP.nils 80 3 didC none ?_
    refine WP.conv (fun S h => Coms_nil (Dids_nil h)) ?_
    refine WP.loopK (fun (x : Nat × StV × List DidV × List DidV × SV × List (UInt32 × Value)) => [(7, .int .i64 x.1), (6, x.2.2.2.2.1.v)]) (fun (x : Nat × StV × List DidV × List DidV × SV × List (UInt32 × Value)) => As p dp (x.2.1) :: TxsU TPA (x.2.1).txs :: Mp eU32 om (x.2.2.2.2.2) :: Dids (x.2.2.1) :: Sl 80 3 didC (x.2.2.2.2.1.v) (x.2.2.2.1) :: Coms (x.2.2.2.1) :: A :: R) [(0, _), (4, _), (5, _)] (fun (x : Nat × StV × List DidV × List DidV × SV × List (UInt32 × Value)) => x.1 ≤ xs.length ∧ SerC alphaG x.1 x.2.1 x.2.2.1 x.2.2.2.1 x.2.2.2.2.2) (fun (x : Nat × StV × List DidV × List DidV × SV × List (UInt32 × Value)) => xs.length - x.1) (0, stF, [], [], ⟨none, 0, 0⟩, []) (⟨Nat.zero_le _, SerC.first alp_first VA_first⟩) ?_
    rintro ⟨i, s, F, all, av, kvs⟩ ⟨hi, hI⟩
    simp only at hi hI
    dsimp only
    refine WP.seq ?_
    refine WP.seq ?_
    refine WP.reg ?_
    refine WL.e e_move <| WL.e e_move ?_
    refine WL.e (el_len (xs := xs) sl73 hA) <| WL.e e_lss ?_
    refine WL.next ?_
    refine WP.cond rfl (fun h1 => ?_) (fun h1 => ?_)
    · have hlt : i < xs.length := by rw [decide_eq_true_eq] at h1; omega
      obtain ⟨x, hx⟩ : ∃ x, xs[i]? = some x := ⟨_, List.getElem?_eq_getElem hlt⟩
      refine WP.skip ?_
      refine PO.next ?_
      refine WP.seq ?_
      refine WP.block ?_
      refine WP.seq ?_
      refine WP.reg ?_
      refine WL.e e_move <| WL.e e_move ?_
      refine WL.e (el_ia (j := i) (xs := xs) sl73 hA hlt) ?_
      refine WL.e (el_loadN (a := x) a77 actE hA hx) ?_
      refine WL.h (h_alloc z77 fun b1 => ?_)
      refine WL.h' (h_store s77 ?_)
      refine WL.next ?_
      refine WP.seq ?_
      refine WP.reg ?_
      refine WL.e e_move <| WL.e (e_fa f77_1) <| WL.e (e_load a22) ?_
      refine WL.e (e_lookD (n := x.tx) (F := F) Tryz.underlying75 (key_u32 Tryz.underlying22) zz78 hI.opn) <| WL.e e_assign ?_
      refine WL.next ?_
      refine WP.seq ?_
      refine WP.reg ?_
      refine WL.e (e_fa f77_0) <| WL.e (e_load a5) <| WL.e (e_rem (c := ((x.kind.toNat % 12 : Nat) : Int)) rfl rfl (by decide) (by rw [Int.tmod_eq_emod_of_nonneg (by omega)]; omega)) ?_
      refine WL.next ?_
      refine WP.block ?_
      refine WP.seq ?_
      refine WP.reg ?_
      refine WL.e e_eql <| WL.e e_assign ?_
      refine WL.next ?_
      refine WP.cond rfl (fun c0 => ?_) (fun c0 => ?_)
      · skip
        refine WP.seq ?_
        refine WP.reg ?_
        refine WL.e e_move <| WL.e (e_fa f77_1) <| WL.e (e_load a22) ?_
        refine WL.h (h_call (ABegin_spec (s := s) x.tx) k23 ?_)
        intro q
        refine WL.e e_eql ?_
        refine WL.next ?_
        refine WP.cond rfl (fun e1 => ?_) (fun e1 => ?_)
        · have hE : begE s x.tx = 0 := by simpa using e1
          refine WP.reg ?_
          refine WL.e e_move <| WL.e (e_fa f77_1) <| WL.e (e_load a22) <| WL.e (e_build z80 p80 (.z (.int .u32 0) <| .z (.slice none 0 0) <| .z (.slice none 0 0) <| .n)) ?_
          refine WL.h (h_box fun b2 => ?_)
          refine WL.h' (h_mapUpdate (k := x.tx) (kvs := kvs) Tryz.underlying75 (key_u32 Tryz.underlying22) ?_)
          refine WL.nil ?_
          refine PO.blockN ?_
          refine PO.blockN ?_
          refine PO.next ?_
          refine WP.reg ?_
          refine WL.e e_move <| WL.e (e_add (c := ((i + 1 : Nat) : Int)) rfl rfl (by have := hI.len; rw [w_i64 (by omega) (by omega)]; omega)) <| WL.e e_assign ?_
          refine WL.nil ?_
          refine PO.nils 36 4 OpM.c none ?_
          refine PO.nils 31 1 resC none ?_
          refine PO.conv (fun S h => ResR_nil h) ?_
          refine PO.cls (A := Dids (delD F x.tx)) (B := [Dids F]) Dids_drop ?_
          refine PO.cls (A := Dids ((⟨x.tx, b2, 0, ⟨none, 0, 0⟩, [], ⟨none, 0, 0⟩, []⟩ : DidV) :: delD F x.tx)) (B := [cl b2 80 [.int .u32 (0 : UInt32).toNat, .slice none 0 0, .slice none 0 0], Sl 36 4 OpM.c (.slice none 0 0) [], Sl 31 1 resC (.slice none 0 0) [], ResR [], Dids (delD F x.tx)]) (Dids_in (d := (⟨x.tx, b2, 0, ⟨none, 0, 0⟩, [], ⟨none, 0, 0⟩, []⟩ : DidV))) ?_
          exact PO.againK (i + 1, begS s x.tx q, (⟨x.tx, b2, 0, ⟨none, 0, 0⟩, [], ⟨none, 0, 0⟩, []⟩ : DidV) :: delD F x.tx, all, av, (mset kvs x.tx (.pointer (some ⟨b2, 0, none⟩)))) ⟨by simp only; omega, hI.beg (by omega) hE q b2⟩ (by simp only; omega)
        · have hE : begE s x.tx ≠ 0 := by simpa using e1
          refine WP.skip ?_
          refine PO.blockN ?_
          refine PO.blockN ?_
          refine PO.next ?_
          refine WP.reg ?_
          refine WL.e e_move <| WL.e (e_add (c := ((i + 1 : Nat) : Int)) rfl rfl (by have := hI.len; rw [w_i64 (by omega) (by omega)]; omega)) <| WL.e e_assign ?_
          refine WL.nil ?_
          rw [SerC.beg0 hE q]
          exact PO.againK (i + 1, s, F, all, av, kvs) ⟨by simp only; omega, hI.mono (by omega)⟩ (by simp only; omega)
      · skip
        refine WP.cutL (fun (q : Bool) => [(94, .bool q)]) (fun (q : Bool) => As p dp (s) :: TxsU TPA (s).txs :: Mp eU32 om (kvs) :: Dids (F) :: Sl 80 3 didC (av.v) (all) :: Coms (all) :: cl b1 77 (ActM.c x) :: A :: R) (fun (q : Bool) => True) ?_ ?_
        · skip
          refine WP.seq ?_
          refine WP.reg ?_
          refine WL.e e_eql <| WL.e e_assign ?_
          refine WL.next ?_
          refine WP.cond rfl (fun c8 => ?_) (fun c8 => ?_)
          · skip
            refine WP.skip ?_
            exact PO.meetK _ trivial
          · skip
            refine WP.reg ?_
            refine WL.e e_eql <| WL.e e_assign ?_
            refine WL.nil ?_
            exact PO.meetK _ trivial
        · intro q _
          refine WP.cond rfl (fun c9 => ?_) (fun c9 => ?_)
          · skip
            refine WP.seq ?_
            refine WP.reg ?_
            refine WL.e e_move <| WL.e (e_fa f77_1) <| WL.e (e_load a22) ?_
            refine WL.h (h_call (ACommit_spec (s := s) x.tx hI.ok (by omega)) k26 ?_)
            refine WL.e e_move <| WL.e e_extract <| WL.e e_extract <| WL.e e_assign <| WL.e e_assign ?_
            refine WL.next ?_
            refine WP.seq ?_
            refine WP.seq ?_
            refine WP.reg ?_
            refine WL.e e_move <| WL.e e_eql ?_
            refine WL.next ?_
            refine WP.cond rfl (fun e2 => ?_) (fun e2 => ?_)
            · have hE : comE alphaI s x.tx = 0 := by simpa using e2
              obtain ⟨z, hd, hno, hI2⟩ := hI.com (by omega) hE
              rw [hd, Option.map_some]
              generalize comN alphaI s x.tx = nm at hno hI2 ⊢
              generalize comS alphaI s x.tx = s9 at hI2 ⊢
              have hkl : ∀ {k : Nat}, k ≤ all.length → (¬ ∃ a, all[k]? = some a ∧ a.num < nm) → k = all.length := fun {k} h1 h2 => by
                rcases Nat.lt_or_ge k all.length with h3 | h3
                · exact absurd ⟨_, List.getElem?_eq_getElem h3, hno _ (List.getElem_mem h3)⟩ h2
                · omega
              refine WP.seq ?_
              refine WP.seq ?_
              refine WP.reg ?_
              refine WL.e e_move <| WL.e (e_peq pt78) ?_
              refine WL.next ?_
              refine WP.cond_f rfl ?_
              refine WP.opn (Dids_out hd) fun _ => ?_
              refine WP.skip ?_
              refine PO.next ?_
              refine WP.seq ?_
              refine WP.reg ?_
              refine WL.e e_move <| WL.e e_move <| WL.e e_nil <| WL.e (e_fa f80_0) ?_
              refine WL.h' (h_store s22 ?_)
              refine WL.next ?_
              refine WP.seq ?_
              refine WP.reg ?_
              refine WL.e e_assign ?_
              refine WL.next ?_
              refine WP.seq ?_
              refine WP.block ?_
              refine WP.loopK (fun (k : Nat) => [(12, .int .i64 k)]) (fun (k : Nat) => As p dp s9 :: TxsU TPA s9.txs :: Mp eU32 om kvs :: cl z.p 80 [.int .u32 nm.toNat, z.os.v, z.ls.v] :: Sl 36 4 OpM.c z.os.v z.ops :: Sl 31 1 resC z.ls.v z.l :: ResR z.l :: Dids (delD F x.tx) :: Sl 80 3 didC av.v all :: Coms all :: cl b1 77 (ActM.c x) :: A :: R) [(0, _), (4, _), (5, _), (6, _), (7, _), (8, _), (9, _), (10, _), (11, _), (29, _), (30, _), (31, _), (32, _), (35, _), (36, _), (37, _), (38, _), (39, _), (40, _), (41, _), (42, _), (43, _), (44, _), (45, _), (82, _), (83, _), (94, _), (97, _), (98, _), (99, _), (100, _), (101, _), (102, _), (103, _), (104, _), (105, _), (106, _), (107, _), (108, _), (109, _), (110, _), (111, _)] (fun (k : Nat) => k ≤ all.length ∧ ∀ a ∈ all.take k, a.num < nm) (fun (k : Nat) => all.length - k) 0 (⟨Nat.zero_le _, by simp⟩) ?_
              rintro k ⟨hk, hk1⟩
              refine WP.seq ?_
              refine WP.seq ?_
              refine WP.reg ?_
              refine WL.e e_move <| WL.e e_move ?_
              refine WL.e (el_len (xs := all) (enc := didC) sl76 sl_rl) <| WL.e e_lss <| WL.e e_move ?_
              refine WL.join 124 (.bool (decide (∃ a, all[k]? = some a ∧ a.num < nm))) (.c (.c (.c (.c (.c (.c (.c (.c .n)))))))) ?_ ?_
              · refine WL.bool 116 rfl (fun hg => ?_) (fun hg => ?_)
                · skip
                  refine WL.e e_move <| WL.e e_move ?_
                  refine WL.e (el_ia (j := k) (xs := all) (enc := didC) sl76 sl_rl (show k < all.length by simpa using hg)) ?_
                  refine WL.e (el_fa (z := 3) (j := k) (xs := all) (enc := didC) f80_0 sl_rl (show k < all.length by simpa using hg)) ?_
                  refine WL.e (el_load0 (j := k) (xs := all) (enc := didC) a22 didE sl_rl (List.getElem?_eq_getElem (show k < all.length by simpa using hg))) <| WL.e e_move <| WL.e (e_lss32) <| WL.e e_pick_t ?_
                  exact WL.nil (PO.joined rfl (by simp [List.getElem?_eq_getElem (show k < all.length by simpa using hg)]))
                · skip
                  refine WL.skip <| WL.skip <| WL.skip <| WL.skip <| WL.skip <| WL.skip <| WL.skip <| WL.e e_pick_f ?_
                  exact WL.nil (PO.joined rfl (by simp [List.getElem?_eq_none (show all.length ≤ k by simpa using hg)]))
              refine WL.next ?_
              refine WP.cond rfl (fun e3 => ?_) (fun e3 => ?_)
              · obtain ⟨a0, ha0, hlt0⟩ := of_decide_eq_true e3
                have hk2 := idx_lt ha0
                refine WP.skip ?_
                refine PO.next ?_
                refine WP.block ?_
                refine WP.reg ?_
                refine WL.e e_move <| WL.e (e_add (c := ((k + 1 : Nat) : Int)) rfl rfl (by have := hI.len; rw [w_i64 (by omega) (by omega)]; omega)) <| WL.e e_assign ?_
                refine WL.nil ?_
                refine PO.blockN ?_
                exact PO.againK (k + 1) ⟨by omega, fun a ha => by rw [take_snoc ha0] at ha; rcases List.mem_append.1 ha with h | h; exact hk1 a h; (obtain rfl := List.mem_singleton.1 h; exact hlt0)⟩ (by omega)
              · replace e3 := of_decide_eq_false e3
                replace hkl := hkl (k := k) hk
                refine WP.exit ?_
                refine PO.past nofun ?_
                refine PO.round nofun ?_
                refine PO.blockX ?_
                refine PO.next ?_
                refine WP.seq ?_
                refine WP.seq ?_
                refine WP.reg ?_
                refine WL.e e_move <| WL.e e_move ?_
                refine WL.e (el_len (xs := all) (enc := didC) sl76 sl_rl) <| WL.e e_lss <| WL.e e_move ?_
                refine WL.join 139 (.bool (false)) (.c (.c (.c (.c (.c (.c (.c (.c .n)))))))) ?_ ?_
                · refine WL.bool 131 rfl (fun hg => ?_) (fun hg => ?_)
                  · skip
                    refine WL.e e_move <| WL.e e_move ?_
                    refine WL.e (el_ia (j := k) (xs := all) (enc := didC) sl76 sl_rl (show k < all.length by simpa using hg)) ?_
                    refine WL.e (el_fa (z := 3) (j := k) (xs := all) (enc := didC) f80_0 sl_rl (show k < all.length by simpa using hg)) ?_
                    refine WL.e (el_load0 (j := k) (xs := all) (enc := didC) a22 didE sl_rl (List.getElem?_eq_getElem (show k < all.length by simpa using hg))) <| WL.e e_move <| WL.e (e_eql32) <| WL.e e_pick_t ?_
                    exact WL.nil (PO.joined rfl (by exact absurd (hkl e3) (by have := (show k < all.length by simpa using hg); omega)))
                  · skip
                    refine WL.skip <| WL.skip <| WL.skip <| WL.skip <| WL.skip <| WL.skip <| WL.skip <| WL.e e_pick_f ?_
                    exact WL.nil (PO.joined rfl (by simp))
                refine WL.next ?_
                refine WP.cond_f rfl ?_
                refine WP.nils 80 3 didC none ?_
                refine WP.skip ?_
                refine PO.next ?_
                refine WP.draws mixedOk 14 ?_
                refine RW.e 0 rfl e_move <| RW.e 1 rfl e_move ?_
                refine RW.e 2 rfl (el_to (hi := k) (xs := all) (enc := didC) sl76 sl_rl hk) <| RW.e 4 rfl e_move <| RW.e 5 rfl e_nil <| RW.e 6 rfl (e_loadN a80) <| RW.e 9 rfl e_move <| RW.e 10 rfl e_move ?_
                refine RW.e 11 rfl (el_from (lo := k) (xs := all) (enc := didC) sl76 sl_rl hk) ?_
                refine RW.any (is := [3, 7]) rfl ⟨?_, ?_, trivial⟩
                · skip
                  refine RWat.h rfl rfl rfl ?_
                  refine (hl_append (xs := []) (ys := all.take k) sl76 didE z80 (RL.to_ didE (sl_rl (E := 80) (u := av.v) (xs := all)) hk) (by have := hI.len; simp; omega) (fun a3 n3 c3 => ?_))
                  refine ⟨⟨⟨_, rfl, .inl ⟨rfl, (el_from (lo := k) (xs := all) (enc := didC) sl76 sl_rl hk)⟩⟩, ⟨_, rfl, .inl ⟨rfl, e_move⟩⟩, ⟨_, rfl, .inl ⟨rfl, e_move⟩⟩, ⟨_, rfl, .inl ⟨rfl, (e_loadN a80)⟩⟩, ⟨_, rfl, .inl ⟨rfl, e_nil⟩⟩, ⟨_, rfl, .inl ⟨rfl, e_move⟩⟩, trivial⟩, ?_⟩
                  refine RW.any (is := [7]) rfl ⟨?_, trivial⟩
                  refine RWat.h rfl rfl rfl ?_
                  refine (h_bs sl76 z80 (.a3 (.tmp 146) rfl <| .n) fun b3 => ?_)
                  refine ⟨⟨⟨_, rfl, .inl ⟨rfl, (el_from (lo := k) (xs := all) (enc := didC) sl76 sl_rl hk)⟩⟩, ⟨_, rfl, .inl ⟨rfl, e_move⟩⟩, ⟨_, rfl, .inl ⟨rfl, e_move⟩⟩, trivial⟩, ?_⟩
                  refine RW.any (is := [8]) rfl ⟨?_, trivial⟩
                  refine RWat.h rfl rfl rfl ?_
                  refine (hl_append (xs := [] ++ all.take k) (ys := [{ z with num := nm }]) sl76 didE z80 (lit_rl didE [{ z with num := nm }] rfl) (by have := hI.len; simp; omega) (fun a4 n4 c4 => ?_))
                  refine ⟨⟨⟨_, rfl, .inl ⟨rfl, (el_from (lo := k) (xs := all) (enc := didC) sl76 sl_rl hk)⟩⟩, ⟨_, rfl, .inl ⟨rfl, e_move⟩⟩, ⟨_, rfl, .inl ⟨rfl, e_move⟩⟩, trivial⟩, ?_⟩
                  refine RW.any (is := [12]) rfl ⟨?_, trivial⟩
                  refine RWat.h rfl rfl rfl ?_
                  refine (hl_append (xs := [] ++ all.take k ++ [{ z with num := nm }]) (ys := all.drop k) sl76 didE z80 (RL.from_ didE (sl_rl (E := 80) (u := av.v) (xs := all)) hk) (by have := hI.len; simp; omega) (fun a5 n5 c5 => ?_))
                  rw [show [] ++ all.take k ++ [{ z with num := nm }] ++ all.drop k = (all.take k ++ { z with num := nm } :: all.drop k) by simp]
                  refine ⟨trivial, ?_⟩
                  refine RW.any (is := [13]) rfl ⟨?_, trivial⟩
                  refine RWat.h rfl rfl rfl ?_
                  refine HO.of_eo e_assign ?_
                  refine ⟨trivial, ?_⟩
                  refine RW.done ?_
                  refine PO.next ?_
                  refine WP.reg ?_
                  refine WL.e e_move <| WL.e (e_fa f77_1) <| WL.e (e_load a22) ?_
                  refine WL.h' (h_mapUpdate (k := x.tx) (kvs := kvs) Tryz.underlying75 (key_u32 Tryz.underlying22) ?_)
                  refine WL.nil ?_
                  refine PO.blockN ?_
                  refine PO.blockN ?_
                  refine PO.next ?_
                  refine WP.reg ?_
                  refine WL.e e_move <| WL.e (e_add (c := ((i + 1 : Nat) : Int)) rfl rfl (by have := hI.len; rw [w_i64 (by omega) (by omega)]; omega)) <| WL.e e_assign ?_
                  refine WL.nil ?_
                  refine PO.cls (A := Coms (all.take k ++ { z with num := nm } :: all.drop k)) (B := [Sl 36 4 OpM.c z.os.v z.ops, Sl 31 1 resC z.ls.v z.l, ResR z.l, Coms all]) (fun S h => Coms_in (A := all.take k) (B := all.drop k) (d := { z with num := nm }) S (by rw [List.take_append_drop]; exact h)) ?_
                  exact PO.againK (i + 1, s9, delD F x.tx, (all.take k ++ { z with num := nm } :: all.drop k), ⟨a5, n5, c5⟩, (mset kvs x.tx (.pointer none))) ⟨by simp only; omega, by obtain rfl : k = all.length := hkl e3; rw [List.take_length, List.drop_length]; exact hI2⟩ (by simp only; omega)
                · skip
                  refine RWat.h rfl rfl rfl ?_
                  refine (h_bs sl76 z80 (.a3 (.tmp 146) rfl <| .n) fun b4 => ?_)
                  refine ⟨⟨⟨_, rfl, .inl ⟨rfl, (el_from (lo := k) (xs := all) (enc := didC) sl76 sl_rl hk)⟩⟩, ⟨_, rfl, .inl ⟨rfl, e_move⟩⟩, ⟨_, rfl, .inl ⟨rfl, e_move⟩⟩, ⟨_, rfl, .inl ⟨rfl, (el_to (hi := k) (xs := all) (enc := didC) sl76 sl_rl hk)⟩⟩, ⟨_, rfl, .inl ⟨rfl, e_move⟩⟩, ⟨_, rfl, .inl ⟨rfl, e_move⟩⟩, trivial⟩, ?_⟩
                  refine RW.any (is := [3]) rfl ⟨?_, trivial⟩
                  refine RWat.h rfl rfl rfl ?_
                  refine (hl_append (xs := []) (ys := all.take k) sl76 didE z80 (RL.to_ didE (sl_rl (E := 80) (u := av.v) (xs := all)) hk) (by have := hI.len; simp; omega) (fun a3 n3 c3 => ?_))
                  refine ⟨⟨⟨_, rfl, .inl ⟨rfl, (el_from (lo := k) (xs := all) (enc := didC) sl76 sl_rl hk)⟩⟩, ⟨_, rfl, .inl ⟨rfl, e_move⟩⟩, ⟨_, rfl, .inl ⟨rfl, e_move⟩⟩, trivial⟩, ?_⟩
                  refine RW.any (is := [8]) rfl ⟨?_, trivial⟩
                  refine RWat.h rfl rfl rfl ?_
                  refine (hl_append (xs := [] ++ all.take k) (ys := [{ z with num := nm }]) sl76 didE z80 (lit_rl didE [{ z with num := nm }] rfl) (by have := hI.len; simp; omega) (fun a4 n4 c4 => ?_))
                  refine ⟨⟨⟨_, rfl, .inl ⟨rfl, (el_from (lo := k) (xs := all) (enc := didC) sl76 sl_rl hk)⟩⟩, ⟨_, rfl, .inl ⟨rfl, e_move⟩⟩, ⟨_, rfl, .inl ⟨rfl, e_move⟩⟩, trivial⟩, ?_⟩
                  refine RW.any (is := [12]) rfl ⟨?_, trivial⟩
                  refine RWat.h rfl rfl rfl ?_
                  refine (hl_append (xs := [] ++ all.take k ++ [{ z with num := nm }]) (ys := all.drop k) sl76 didE z80 (RL.from_ didE (sl_rl (E := 80) (u := av.v) (xs := all)) hk) (by have := hI.len; simp; omega) (fun a5 n5 c5 => ?_))
                  rw [show [] ++ all.take k ++ [{ z with num := nm }] ++ all.drop k = (all.take k ++ { z with num := nm } :: all.drop k) by simp]
                  refine ⟨trivial, ?_⟩
                  refine RW.any (is := [13]) rfl ⟨?_, trivial⟩
                  refine RWat.h rfl rfl rfl ?_
                  refine HO.of_eo e_assign ?_
                  refine ⟨trivial, ?_⟩
                  refine RW.done ?_
                  refine PO.next ?_
                  refine WP.reg ?_
                  refine WL.e e_move <| WL.e (e_fa f77_1) <| WL.e (e_load a22) ?_
                  refine WL.h' (h_mapUpdate (k := x.tx) (kvs := kvs) Tryz.underlying75 (key_u32 Tryz.underlying22) ?_)
                  refine WL.nil ?_
                  refine PO.blockN ?_
                  refine PO.blockN ?_
                  refine PO.next ?_
                  refine WP.reg ?_
                  refine WL.e e_move <| WL.e (e_add (c := ((i + 1 : Nat) : Int)) rfl rfl (by have := hI.len; rw [w_i64 (by omega) (by omega)]; omega)) <| WL.e e_assign ?_
                  refine WL.nil ?_
                  refine PO.cls (A := Coms (all.take k ++ { z with num := nm } :: all.drop k)) (B := [Sl 36 4 OpM.c z.os.v z.ops, Sl 31 1 resC z.ls.v z.l, ResR z.l, Coms all]) (fun S h => Coms_in (A := all.take k) (B := all.drop k) (d := { z with num := nm }) S (by rw [List.take_append_drop]; exact h)) ?_
                  exact PO.againK (i + 1, s9, delD F x.tx, (all.take k ++ { z with num := nm } :: all.drop k), ⟨a5, n5, c5⟩, (mset kvs x.tx (.pointer none))) ⟨by simp only; omega, by obtain rfl : k = all.length := hkl e3; rw [List.take_length, List.drop_length]; exact hI2⟩ (by simp only; omega)
            · have hE : comE alphaI s x.tx ≠ 0 := by simpa using e2
              refine WP.skip ?_
              refine PO.next ?_
              refine WP.reg ?_
              refine WL.e e_move <| WL.e (e_fa f77_1) <| WL.e (e_load a22) ?_
              refine WL.h' (h_mapUpdate (k := x.tx) (kvs := kvs) Tryz.underlying75 (key_u32 Tryz.underlying22) ?_)
              refine WL.nil ?_
              refine PO.blockN ?_
              refine PO.blockN ?_
              refine PO.next ?_
              refine WP.reg ?_
              refine WL.e e_move <| WL.e (e_add (c := ((i + 1 : Nat) : Int)) rfl rfl (by have := hI.len; rw [w_i64 (by omega) (by omega)]; omega)) <| WL.e e_assign ?_
              refine WL.nil ?_
              refine PO.cls (A := Dids (delD F x.tx)) (B := [Dids F]) Dids_drop ?_
              exact PO.againK (i + 1, comS alphaI s x.tx, delD F x.tx, all, av, (mset kvs x.tx (.pointer none))) ⟨by simp only; omega, hI.comF (by omega) hE⟩ (by simp only; omega)
          · skip
            refine WP.seq ?_
            refine WP.reg ?_
            refine WL.e e_eql <| WL.e e_assign ?_
            refine WL.next ?_
            refine WP.cond rfl (fun c10 => ?_) (fun c10 => ?_)
            · skip
              refine WP.seq ?_
              refine WP.reg ?_
              refine WL.e e_move <| WL.e (e_fa f77_1) <| WL.e (e_load a22) ?_
              refine WL.h (h_call (AAbort_spec (s := s) x.tx hI.ok) k28 ?_)
              refine WL.next ?_
              refine WP.reg ?_
              refine WL.e e_move <| WL.e (e_fa f77_1) <| WL.e (e_load a22) ?_
              refine WL.h' (h_mapUpdate (k := x.tx) (kvs := kvs) Tryz.underlying75 (key_u32 Tryz.underlying22) ?_)
              refine WL.nil ?_
              refine PO.blockN ?_
              refine PO.blockN ?_
              refine PO.next ?_
              refine WP.reg ?_
              refine WL.e e_move <| WL.e (e_add (c := ((i + 1 : Nat) : Int)) rfl rfl (by have := hI.len; rw [w_i64 (by omega) (by omega)]; omega)) <| WL.e e_assign ?_
              refine WL.nil ?_
              refine PO.cls (A := Dids (delD F x.tx)) (B := [Dids F]) Dids_drop ?_
              exact PO.againK (i + 1, aboS alphaI s x.tx, delD F x.tx, all, av, (mset kvs x.tx (.pointer none))) ⟨by simp only; omega, hI.abo (by omega) x.tx⟩ (by simp only; omega)
            · skip
              refine WP.seq ?_
              refine WP.reg ?_
              refine WL.e e_move <| WL.e (e_fa f77_1) <| WL.e (e_load a22) <| WL.e (e_fa f77_2) <| WL.e (e_loadN a36) ?_
              refine WL.h (h_call (ADo_spec (s := s) x.tx x.op hI.ok) k24 ?_)
              rcases hdo : doA s x.tx x.op with ⟨s', e⟩ | ⟨s'⟩ | ⟨s', rws⟩
              · dsimp only
                have he := hI.err (by omega) hdo
                refine WL.e e_move <| WL.e e_extract <| WL.e e_extract ?_
                refine WL.h (h_alloc z31 fun b5 => ?_)
                refine WL.h' (h_store s31 ?_)
                refine WL.e e_assign ?_
                refine WL.next ?_
                refine WP.seq ?_
                refine WP.reg ?_
                refine WL.e e_move <| WL.e e_eql <| WL.e e_move ?_
                refine WL.bool 57 rfl (fun g1 => ?_) (fun g1 => ?_)
                · exact absurd (by simpa using g1) he.1 -- end
                · skip
                  refine WL.skip <| WL.skip <| WL.e e_pick_f ?_
                  refine WL.next ?_
                  refine WP.cond_f rfl ?_
                  refine WP.skip ?_
                  refine PO.blockN ?_
                  refine PO.blockN ?_
                  refine PO.next ?_
                  refine WP.reg ?_
                  refine WL.e e_move <| WL.e (e_add (c := ((i + 1 : Nat) : Int)) rfl rfl (by have := hI.len; rw [w_i64 (by omega) (by omega)]; omega)) <| WL.e e_assign ?_
                  refine WL.nil ?_
                  exact PO.againK (i + 1, s', F, all, av, kvs) ⟨by simp only; omega, he.2⟩ (by simp only; omega)
              · dsimp only
                obtain ⟨z, hz, hI2⟩ := hI.put (by omega) hdo
                rw [hz, Option.map_some]
                refine WL.e e_move <| WL.e e_extract <| WL.e e_extract ?_
                refine WL.h (h_alloc z31 fun b6 => ?_)
                refine WL.h' (h_store s31 ?_)
                refine WL.e e_assign ?_
                refine WL.next ?_
                refine WP.seq ?_
                refine WP.reg ?_
                refine WL.e e_move <| WL.e e_eql <| WL.e e_move ?_
                refine WL.bool 57 rfl (fun g1 => ?_) (fun g1 => ?_)
                · skip
                  refine WL.e e_move <| WL.e (e_pne pt78) <| WL.e e_pick_t ?_
                  refine WL.next ?_
                  refine WP.cond_t rfl ?_
                  refine WP.opn (Dids_out hz) fun _ => ?_
                  refine WP.seq ?_
                  refine WP.draws mixedOk 12 ?_
                  refine RW.e 0 rfl e_move <| RW.e 1 rfl e_move <| RW.e 2 rfl e_nil <| RW.e 3 rfl (e_fa f80_1) <| RW.e 4 rfl (e_load a60) <| RW.e 5 rfl (e_fa f77_2) <| RW.e 6 rfl (e_loadN a36) ?_
                  refine RW.any (is := [7]) rfl ⟨?_, trivial⟩
                  refine RWat.h rfl rfl rfl ?_
                  refine (h_bs sl60 z36 (.a4 (.tmp 67) rfl <| .n) fun b7 => ?_)
                  refine ⟨⟨⟨_, rfl, .inl ⟨rfl, (e_load a60)⟩⟩, ⟨_, rfl, .inl ⟨rfl, (e_fa f80_1)⟩⟩, ⟨_, rfl, .inl ⟨rfl, e_nil⟩⟩, ⟨_, rfl, .inl ⟨rfl, e_move⟩⟩, ⟨_, rfl, .inl ⟨rfl, e_move⟩⟩, trivial⟩, ?_⟩
                  refine RW.any (is := [8]) rfl ⟨?_, trivial⟩
                  refine RWat.h rfl rfl rfl ?_
                  refine (hl_append (xs := z.ops) (ys := [x.op]) sl60 opE z36 (lit_rl opE [x.op] rfl) (by have := hI.lenF z (findD_id hz).1; simp; omega) (fun a3 n3 c3 => ?_))
                  refine ⟨⟨⟨_, rfl, .inl ⟨rfl, e_move⟩⟩, trivial⟩, ?_⟩
                  refine RW.e 9 rfl e_nil <| RW.e 10 rfl (e_fa f80_1) ?_
                  refine RW.any (is := [11]) rfl ⟨?_, trivial⟩
                  refine RWat.h' rfl rfl rfl ?_
                  refine (h_store s60 ?_)
                  refine ⟨trivial, ?_⟩
                  refine RW.done ?_
                  refine PO.next ?_
                  refine WP.draws mixedOk 11 ?_
                  refine RW.e 0 rfl e_move <| RW.e 1 rfl e_move <| RW.e 2 rfl e_nil <| RW.e 3 rfl (e_fa f80_2) <| RW.e 4 rfl (e_load a61) <| RW.e 5 rfl (e_loadN a31) ?_
                  refine RW.any (is := [6]) rfl ⟨?_, trivial⟩
                  refine RWat.h rfl rfl rfl ?_
                  refine (h_bs sl61 z31 (.a1 (.tmp 77) rfl <| .n) fun b8 => ?_)
                  refine ⟨⟨⟨_, rfl, .inl ⟨rfl, (e_load a61)⟩⟩, ⟨_, rfl, .inl ⟨rfl, (e_fa f80_2)⟩⟩, ⟨_, rfl, .inl ⟨rfl, e_nil⟩⟩, ⟨_, rfl, .inl ⟨rfl, e_move⟩⟩, ⟨_, rfl, .inl ⟨rfl, e_move⟩⟩, trivial⟩, ?_⟩
                  refine RW.any (is := [7]) rfl ⟨?_, trivial⟩
                  refine RWat.h rfl rfl rfl ?_
                  refine (hl_append (xs := z.l) (ys := [((⟨none, 0, 0⟩ : SV), ([] : List RowM))]) sl61 resE z31 (lit_rl resE [((⟨none, 0, 0⟩ : SV), ([] : List RowM))] rfl) (by have := hI.lenF z (findD_id hz).1; simp; omega) (fun a4 n4 c4 => ?_))
                  refine ⟨⟨⟨_, rfl, .inl ⟨rfl, e_move⟩⟩, trivial⟩, ?_⟩
                  refine RW.e 8 rfl e_nil <| RW.e 9 rfl (e_fa f80_2) ?_
                  refine RW.any (is := [10]) rfl ⟨?_, trivial⟩
                  refine RWat.h' rfl rfl rfl ?_
                  refine (h_store s61 ?_)
                  refine ⟨trivial, ?_⟩
                  refine RW.done ?_
                  refine PO.blockN ?_
                  refine PO.blockN ?_
                  refine PO.next ?_
                  refine WP.reg ?_
                  refine WL.e e_move <| WL.e (e_add (c := ((i + 1 : Nat) : Int)) rfl rfl (by have := hI.len; rw [w_i64 (by omega) (by omega)]; omega)) <| WL.e e_assign ?_
                  refine WL.nil ?_
                  refine PO.nils 40 2 RowM.c none ?_
                  refine PO.cls (A := ResR (z.l ++ [((⟨none, 0, 0⟩ : SV), ([] : List RowM))])) (B := [ResR z.l, Sl 40 2 RowM.c (.slice none 0 0) (([] : List RowM))]) (ResR_snoc (l := z.l) (x := ((⟨none, 0, 0⟩ : SV), ([] : List RowM)))) ?_
                  refine PO.cls (A := Dids ({ z with os := ⟨a3, n3, c3⟩, ops := z.ops ++ [x.op], ls := ⟨a4, n4, c4⟩, l := z.l ++ [((⟨none, 0, 0⟩ : SV), ([] : List RowM))] } :: delD F x.tx)) (B := [cl z.p 80 [.int .u32 z.num.toNat, .slice a3 n3 c3, .slice a4 n4 c4], Sl 36 4 OpM.c (.slice a3 n3 c3) (z.ops ++ [x.op]), Sl 31 1 resC (.slice a4 n4 c4) (z.l ++ [((⟨none, 0, 0⟩ : SV), ([] : List RowM))]), ResR (z.l ++ [((⟨none, 0, 0⟩ : SV), ([] : List RowM))]), Dids (delD F x.tx)]) (Dids_in (d := { z with os := ⟨a3, n3, c3⟩, ops := z.ops ++ [x.op], ls := ⟨a4, n4, c4⟩, l := z.l ++ [((⟨none, 0, 0⟩ : SV), ([] : List RowM))] })) ?_
                  exact PO.againK (i + 1, s', { z with os := ⟨a3, n3, c3⟩, ops := z.ops ++ [x.op], ls := ⟨a4, n4, c4⟩, l := z.l ++ [((⟨none, 0, 0⟩ : SV), ([] : List RowM))] } :: delD F x.tx, all, av, kvs) ⟨by simp only; omega, hI2 ⟨a3, n3, c3⟩ ⟨a4, n4, c4⟩⟩ (by simp only; omega)
                · exact absurd g1 (by decide) -- end
              · dsimp only
                intro a7 m7 c7
                obtain ⟨z, hz, hI2⟩ := hI.look (by omega) hdo ⟨a7, m7, c7⟩
                rw [hz, Option.map_some]
                refine WL.e e_move <| WL.e e_extract <| WL.e e_extract ?_
                refine WL.h (h_alloc z31 fun b9 => ?_)
                refine WL.h' (h_store s31 ?_)
                refine WL.e e_assign ?_
                refine WL.next ?_
                refine WP.seq ?_
                refine WP.reg ?_
                refine WL.e e_move <| WL.e e_eql <| WL.e e_move ?_
                refine WL.bool 57 rfl (fun g1 => ?_) (fun g1 => ?_)
                · skip
                  refine WL.e e_move <| WL.e (e_pne pt78) <| WL.e e_pick_t ?_
                  refine WL.next ?_
                  refine WP.cond_t rfl ?_
                  refine WP.opn (Dids_out hz) fun _ => ?_
                  refine WP.seq ?_
                  refine WP.draws mixedOk 12 ?_
                  refine RW.e 0 rfl e_move <| RW.e 1 rfl e_move <| RW.e 2 rfl e_nil <| RW.e 3 rfl (e_fa f80_1) <| RW.e 4 rfl (e_load a60) <| RW.e 5 rfl (e_fa f77_2) <| RW.e 6 rfl (e_loadN a36) ?_
                  refine RW.any (is := [7]) rfl ⟨?_, trivial⟩
                  refine RWat.h rfl rfl rfl ?_
                  refine (h_bs sl60 z36 (.a4 (.tmp 67) rfl <| .n) fun b10 => ?_)
                  refine ⟨⟨⟨_, rfl, .inl ⟨rfl, (e_load a60)⟩⟩, ⟨_, rfl, .inl ⟨rfl, (e_fa f80_1)⟩⟩, ⟨_, rfl, .inl ⟨rfl, e_nil⟩⟩, ⟨_, rfl, .inl ⟨rfl, e_move⟩⟩, ⟨_, rfl, .inl ⟨rfl, e_move⟩⟩, trivial⟩, ?_⟩
                  refine RW.any (is := [8]) rfl ⟨?_, trivial⟩
                  refine RWat.h rfl rfl rfl ?_
                  refine (hl_append (xs := z.ops) (ys := [x.op]) sl60 opE z36 (lit_rl opE [x.op] rfl) (by have := hI.lenF z (findD_id hz).1; simp; omega) (fun a3 n3 c3 => ?_))
                  refine ⟨⟨⟨_, rfl, .inl ⟨rfl, e_move⟩⟩, trivial⟩, ?_⟩
                  refine RW.e 9 rfl e_nil <| RW.e 10 rfl (e_fa f80_1) ?_
                  refine RW.any (is := [11]) rfl ⟨?_, trivial⟩
                  refine RWat.h' rfl rfl rfl ?_
                  refine (h_store s60 ?_)
                  refine ⟨trivial, ?_⟩
                  refine RW.done ?_
                  refine PO.next ?_
                  refine WP.draws mixedOk 11 ?_
                  refine RW.e 0 rfl e_move <| RW.e 1 rfl e_move <| RW.e 2 rfl e_nil <| RW.e 3 rfl (e_fa f80_2) <| RW.e 4 rfl (e_load a61) <| RW.e 5 rfl (e_loadN a31) ?_
                  refine RW.any (is := [6]) rfl ⟨?_, trivial⟩
                  refine RWat.h rfl rfl rfl ?_
                  refine (h_bs sl61 z31 (.a1 (.tmp 77) rfl <| .n) fun b11 => ?_)
                  refine ⟨⟨⟨_, rfl, .inl ⟨rfl, (e_load a61)⟩⟩, ⟨_, rfl, .inl ⟨rfl, (e_fa f80_2)⟩⟩, ⟨_, rfl, .inl ⟨rfl, e_nil⟩⟩, ⟨_, rfl, .inl ⟨rfl, e_move⟩⟩, ⟨_, rfl, .inl ⟨rfl, e_move⟩⟩, trivial⟩, ?_⟩
                  refine RW.any (is := [7]) rfl ⟨?_, trivial⟩
                  refine RWat.h rfl rfl rfl ?_
                  refine (hl_append (xs := z.l) (ys := [((⟨a7, m7, c7⟩ : SV), rws)]) sl61 resE z31 (lit_rl resE [((⟨a7, m7, c7⟩ : SV), rws)] rfl) (by have := hI.lenF z (findD_id hz).1; simp; omega) (fun a4 n4 c4 => ?_))
                  refine ⟨⟨⟨_, rfl, .inl ⟨rfl, e_move⟩⟩, trivial⟩, ?_⟩
                  refine RW.e 8 rfl e_nil <| RW.e 9 rfl (e_fa f80_2) ?_
                  refine RW.any (is := [10]) rfl ⟨?_, trivial⟩
                  refine RWat.h' rfl rfl rfl ?_
                  refine (h_store s61 ?_)
                  refine ⟨trivial, ?_⟩
                  refine RW.done ?_
                  refine PO.blockN ?_
                  refine PO.blockN ?_
                  refine PO.next ?_
                  refine WP.reg ?_
                  refine WL.e e_move <| WL.e (e_add (c := ((i + 1 : Nat) : Int)) rfl rfl (by have := hI.len; rw [w_i64 (by omega) (by omega)]; omega)) <| WL.e e_assign ?_
                  refine WL.nil ?_
                  refine PO.cls (A := ResR (z.l ++ [((⟨a7, m7, c7⟩ : SV), rws)])) (B := [ResR z.l, Sl 40 2 RowM.c (.slice a7 m7 c7) (rws)]) (ResR_snoc (l := z.l) (x := ((⟨a7, m7, c7⟩ : SV), rws))) ?_
                  refine PO.cls (A := Dids ({ z with os := ⟨a3, n3, c3⟩, ops := z.ops ++ [x.op], ls := ⟨a4, n4, c4⟩, l := z.l ++ [((⟨a7, m7, c7⟩ : SV), rws)] } :: delD F x.tx)) (B := [cl z.p 80 [.int .u32 z.num.toNat, .slice a3 n3 c3, .slice a4 n4 c4], Sl 36 4 OpM.c (.slice a3 n3 c3) (z.ops ++ [x.op]), Sl 31 1 resC (.slice a4 n4 c4) (z.l ++ [((⟨a7, m7, c7⟩ : SV), rws)]), ResR (z.l ++ [((⟨a7, m7, c7⟩ : SV), rws)]), Dids (delD F x.tx)]) (Dids_in (d := { z with os := ⟨a3, n3, c3⟩, ops := z.ops ++ [x.op], ls := ⟨a4, n4, c4⟩, l := z.l ++ [((⟨a7, m7, c7⟩ : SV), rws)] })) ?_
                  exact PO.againK (i + 1, s', { z with os := ⟨a3, n3, c3⟩, ops := z.ops ++ [x.op], ls := ⟨a4, n4, c4⟩, l := z.l ++ [((⟨a7, m7, c7⟩ : SV), rws)] } :: delD F x.tx, all, av, kvs) ⟨by simp only; omega, hI2 ⟨a3, n3, c3⟩ ⟨a4, n4, c4⟩⟩ (by simp only; omega)
                · exact absurd g1 (by decide) -- end
    · skip
      refine WP.exit ?_
      refine PO.past nofun ?_
      refine PO.round nofun ?_
      refine PO.blockX ?_
      refine PO.next ?_
      refine WP.seq ?_
      refine WP.reg ?_
      refine WL.e e_assign ?_
      refine WL.next ?_
      refine WP.seq ?_
      refine WP.seq ?_
      refine WP.reg ?_
      refine WL.e e_assign ?_
      refine WL.next ?_
      refine WP.block ?_
      refine WP.nils 40 2 RowM.c none ?_
      refine WP.loopK (fun (x : Nat × SV) => [(16, .int .i64 x.1), (15, x.2.v)]) (fun (x : Nat × SV) => Sl 40 2 RowM.c x.2.v (rowsC all x.1) :: As p dp (s) :: TxsU TPA (s).txs :: Mp eU32 om (kvs) :: Dids (F) :: Sl 80 3 didC (av.v) (all) :: Coms (all) :: A :: R) [(4, _), (6, _)] (fun (x : Nat × SV) => x.1 ≤ all.length ∧ (rowsC all x.1).length ≤ x.1 * 150) (fun (x : Nat × SV) => all.length - x.1) (0, ⟨none, 0, 0⟩) (⟨Nat.zero_le _, Nat.le_refl _⟩) ?_
      rintro ⟨k, w⟩ ⟨hk, hkl⟩
      simp only at hk hkl
      dsimp only
      refine WP.seq ?_
      refine WP.seq ?_
      refine WP.reg ?_
      refine WL.e e_move <| WL.e e_move ?_
      refine WL.e (el_len (xs := all) (enc := didC) sl76 sl_rl) <| WL.e e_lss ?_
      refine WL.next ?_
      refine WP.cond rfl (fun h2 => ?_) (fun h2 => ?_)
      · have hkt : k < all.length := by rw [decide_eq_true_eq] at h2; omega
        obtain ⟨a, ha⟩ : ∃ a, all[k]? = some a := ⟨_, List.getElem?_eq_getElem hkt⟩
        obtain ⟨r1, r2, r3, r4, r5, r6, r7, r8⟩ := hI.run ha
        obtain ⟨A1, B1, eAB⟩ := mem_mid (List.mem_of_getElem? ha)
        have hal := hI.len
        refine WP.opn (Coms_out eAB) fun _ => ?_
        refine WP.skip ?_
        refine PO.next ?_
        refine WP.seq ?_
        refine WP.block ?_
        refine WP.seq ?_
        refine WP.reg ?_
        refine WL.e e_move <| WL.e e_move <| WL.e e_move ?_
        refine WL.e (el_ia (j := k) (xs := all) (enc := didC) sl76 sl_rl hkt) ?_
        refine WL.e (el_fa (z := 3) (j := k) (xs := all) (enc := didC) f80_1 sl_rl hkt) ?_
        refine WL.e (el_load (j := k) (f := 1) (xs := all) (enc := didC) a60 didE sl_rl ha) ?_
        refine WL.h (h_call (Run_spec (sl_rl (xs := rowsC all k)) (sl_rl (xs := a.ops)) r4 r5 r3 (by omega)) k32 ?_)
        intro sv1 ts1 a4 n4 c4 ht1
        refine WL.e e_move <| WL.e e_extract <| WL.e e_extract <| WL.e e_assign <| WL.e e_assign ?_
        refine WL.next ?_
        refine WP.seq ?_
        refine WP.seq ?_
        refine WP.reg ?_
        refine WL.e e_move <| WL.e e_move <| WL.e e_move ?_
        refine WL.e (el_ia (j := k) (xs := all) (enc := didC) sl76 sl_rl hkt) ?_
        refine WL.e (el_fa (z := 3) (j := k) (xs := all) (enc := didC) f80_2 sl_rl hkt) ?_
        refine WL.e (el_load (j := k) (f := 2) (xs := all) (enc := didC) a61 didE sl_rl ha) ?_
        refine WL.h (h_call (SameResults_spec (sl_rl (xs := ts1)) (sl_rl (xs := a.l)) (by have := congrArg List.length (ht1.trans r1); simp at this; omega) (fun y hy => by have h4 := runM_told (rowsC all k) a.ops y.2 (by rw [← ht1]; exact List.mem_map.2 ⟨y, hy, rfl⟩); omega)) k33 ?_)
        rw [decide_eq_true (show ts1.map (·.2) = a.l.map (·.2) from ht1.trans r1)]
        refine WL.e e_not ?_
        refine WL.next ?_
        refine WP.cond_f rfl ?_
        refine WP.skip ?_
        refine PO.next ?_
        refine WP.reg ?_
        refine WL.e e_move <| WL.e e_assign ?_
        refine WL.nil ?_
        refine PO.blockN ?_
        refine PO.next ?_
        refine WP.reg ?_
        refine WL.e e_move <| WL.e (e_add (c := ((k + 1 : Nat) : Int)) rfl rfl (by have := hI.len; rw [w_i64 (by omega) (by omega)]; omega)) <| WL.e e_assign ?_
        refine WL.nil ?_
        rw [r2]
        refine PO.cls (A := Coms all) (B := [Sl 36 4 OpM.c a.os.v a.ops, Sl 31 1 resC a.ls.v a.l, ResR a.l, Coms (A1 ++ B1)]) (fun S h => eAB ▸ Coms_in S h) ?_
        exact PO.againK (k + 1, ⟨a4, n4, c4⟩) ⟨by simp only; omega, by simp only; omega⟩ (by simp only; omega)
      · obtain rfl : k = all.length := by rw [decide_eq_false_iff_not] at h2; omega
        have hal := hI.len
        refine WP.exit ?_
        refine PO.past nofun ?_
        refine PO.round nofun ?_
        refine PO.blockX ?_
        refine PO.next ?_
        refine WP.seq ?_
        refine WP.reg ?_
        refine WL.e e_move <| WL.e e_move ?_
        refine WL.h (h_call (ARows_spec (s := s) hI.ok) k37 ?_)
        intro a5 m5 c5
        refine WL.h (h_call (SameRows_spec (sl_rl (xs := rowsC all all.length)) (sl_rl (xs := s.rows)) (by omega)) k34 ?_)
        rw [decide_eq_true hI.done.symm]
        refine WL.e e_move ?_
        refine WL.bool 194 rfl (fun y1 => ?_) (fun y1 => ?_)
        · skip
          refine WL.h (h_call (lives_spec) k29 ?_)
          refine WL.e e_pick_t <| WL.e e_assign ?_
          refine WL.next ?_
          refine WP.ret ?_
          exact PO.finE Tryz.results8 (rv_tmp rv_nil) rfl hK
        · exact absurd y1 (by decide) -- end
end Go.SL
/- From the row to the walk: a slice of structs that came in is read as a list. -/
set_option linter.unusedSimpArgs false
set_option linter.unusedVariables false
set_option linter.unusedSectionVars false
namespace Go.SL
open Go Go.ChangeShapes Go.Deep
section
variable {H : Type} {enc : TypeId × Value → H} {P : Program} {W : World} {held : Bool}
theorem add_off (a : Addr) (n : Nat) (h : a.spot = none) : a.add n = ⟨a.block, a.off + n, none⟩ := by
  obtain ⟨b, o, s⟩ := a
  simp at h; subst h
  exact add_none b o n
theorem slice_rl {α : Type} {t e : TypeId} {fuel z : Nat} {cs : List Value} {x : DataW H × List MemPlace} {c : α → List Value} (ht : P.underlying t = some (.slice e)) (hz : P.cellsOf e = z) (h0 : 0 < z) (he : EncOk z c)
    (hel : ∀ n cs' y, DataW.trod enc P W 0 (fun _ => true) held n e cs' = some y → ∃ a : α, cs' = c a) (h : DataW.trod enc P W 0 (fun _ => true) held fuel t cs = some x) :
    ∃ (v : SV) (xs : List α), cs = [v.v] ∧ RL (Old W) z c v.v xs ∧ (xs = [] ∨ ∃ el sp, x.1 = .slice el sp ∧ el.length = xs.length) := by
  rcases open_slice ht h with ⟨hcs, _⟩ | ⟨a, len, cap, m, n, D, Pl, hcs, _, hl, hm, hmm, hxx, hi⟩
  · exact ⟨⟨none, 0, 0⟩, [], hcs, nil_rl, .inl rfl⟩
  simp only [if_true] at hmm
  subst hmm
  rw [hz] at hi
  have hi' : ∀ i : Fin m, ∃ y : α, ∀ j, j < z → W.cell? ((a.add (i * z)).add j) = (c y)[j]? := fun i => by
    obtain ⟨cs', h1, h2⟩ := hi i i.2
    obtain ⟨y, rfl⟩ := hel _ _ _ h2
    exact ⟨y, (World.cells?_some h1).2.2⟩
  by_cases hc0 : m = 0
  · have : len = 0 := by omega
    subst this
    exact ⟨⟨some a, 0, m⟩, [], hcs, nil_rl, .inl rfl⟩
  let Y : Fin m → α := fun i => Classical.choose (hi' i)
  have hY : ∀ i : Fin m, ∀ j, j < z → W.cell? ((a.add (i * z)).add j) = (c (Y i))[j]? := fun i => Classical.choose_spec (hi' i)
  have hsp : a.spot = none := by
    have := hY ⟨0, by omega⟩ 0 h0
    have hlt : 0 < (c (Y ⟨0, by omega⟩)).length := by rw [he.len]; exact h0
    rw [List.getElem?_eq_getElem hlt] at this
    have h2 := World.cell?_spot this
    cases hs : a.spot with
    | none => rfl
    | some s => simp [Addr.add, hs] at h2
  have hcell : ∀ k (hk : k < m * z), W.cell? ⟨a.block, a.off + k, none⟩ = (c (Y ⟨k / z, (Nat.div_lt_iff_lt_mul h0).2 hk⟩))[k % z]? := fun k hk => by
    have := hY ⟨k / z, (Nat.div_lt_iff_lt_mul h0).2 hk⟩ (k % z) (Nat.mod_lt _ h0)
    rw [add_off a _ hsp, add_none] at this
    have e : a.off + k / z * z + k % z = a.off + k := by have := Nat.div_add_mod k z; rw [Nat.mul_comm] at this; omega
    simp only [e] at this
    exact this
  have hmz : 0 < m * z := Nat.mul_pos (by omega) h0
  obtain ⟨arr, t', fr, hb⟩ : ∃ arr t' fr, W.heap[a.block]? = some (.cells arr t' fr) := by
    have := hcell 0 hmz
    rw [List.getElem?_eq_getElem (by rw [he.len]; exact Nat.mod_lt _ h0)] at this
    unfold World.cell? at this
    cases hh : W.heap[a.block]? with
    | none => rw [hh] at this; cases this
    | some o => rw [hh] at this; cases o <;> first | exact ⟨_, _, _, rfl⟩ | cases this
  have hval : ∀ k (hk : k < m * z), arr.toList[a.off + k]? = (c (Y ⟨k / z, (Nat.div_lt_iff_lt_mul h0).2 hk⟩))[k % z]? := fun k hk => by
    have := hcell k hk
    unfold World.cell? at this
    rw [hb] at this
    simpa using this
  have hlen : a.off + m * z ≤ arr.toList.length := by
    have := hval (m * z - 1) (by omega)
    have hlt : (m * z - 1) % z < (c (Y ⟨(m * z - 1) / z, (Nat.div_lt_iff_lt_mul h0).2 (by omega)⟩)).length := by rw [he.len]; exact Nat.mod_lt _ h0
    rw [List.getElem?_eq_getElem hlt] at this
    have := idx_lt this
    omega
  refine ⟨⟨some a, len, m⟩, List.ofFn fun i : Fin len => Y ⟨i, by omega⟩, hcs, fun S hS => ?_, .inr ⟨_, _, by rw [hxx], by simp⟩⟩
  refine .inr ⟨a.block, a.off, m, arr.toList, (t', fr), ?_, by simpa using hl, ?_, hlen, ?_⟩
  · obtain ⟨b, o, s⟩ := a
    simp at hsp; subst hsp
    simp
  · exact hS _ _ (by simpa [heapOf] using hb)
  · apply List.ext_getElem?
    intro k
    rw [td_get, List.length_ofFn]
    by_cases hk : k < len * z
    · rw [if_pos hk]
      have hkm : k < m * z := Nat.lt_of_lt_of_le hk (Nat.mul_le_mul_right _ hl)
      rw [hval k hkm]
      have hd : k / z < len := (Nat.div_lt_iff_lt_mul h0).2 hk
      have hx : (List.ofFn fun i : Fin len => Y ⟨i, by omega⟩)[k / z]? = some (Y ⟨k / z, by omega⟩) := by simp [hd]
      have := flat_at he hx (k % z) (Nat.mod_lt _ h0)
      rw [show k / z * z + k % z = k by have := Nat.div_add_mod k z; rw [Nat.mul_comm] at this; omega] at this
      exact this
    · rw [if_neg hk]
      apply List.getElem?_eq_none
      rw [flat_len he, List.length_ofFn]; omega
theorem below_of_spec1 {P : Program} {w : World} {f : FuncId} {args : List Value} (h : Spec P w f args [Old w] fun K R => K (.bool true) (Old w :: R)) : Calls P f args.toArray w fun e w' => e = .returned (.bool true) ∧ Go.RowKit.Below w.heap.size w w' := by
  refine (h [] (fun v M => v = .bool true ∧ M = [Old w]) w (sat_old w) ⟨rfl, rfl⟩).mono ?_
  rintro e w' ⟨v, M, rfl, ⟨rfl, rfl⟩, hs⟩
  exact ⟨rfl, old_below hs⟩
theorem op_cells {t k s u : TypeId} {b0 b1 b2 b3 : Nat} {n0 n1 n2 n3 : String} {fuel : Nat} {cs : List Value} {y : DataW H × List MemPlace} (ht : P.underlying t = some (.struct #[⟨n0, k, 0, false, "", "", b0⟩, ⟨n1, s, 1, false, "", "", b1⟩, ⟨n2, s, 2, false, "", "", b2⟩, ⟨n3, u, 3, false, "", "", b3⟩]))
    (hk : P.underlying k = some (.int .u8)) (hs : P.underlying s = some .string) (hu : P.underlying u = some (.int .u32)) (ct : P.cellsOf t = 4) (ck : P.cellsOf k = 1) (c1 : P.cellsOf s = 1) (cu : P.cellsOf u = 1)
    (h : DataW.trod enc P W 0 (fun _ => true) held fuel t cs = some y) : ∃ x : OpM, cs = x.c := by
  obtain ⟨y0, y1, y2, y3, m, hx, hl, h0, h1, h2, h3⟩ := Go.Joins.trod_struct4 ht h
  rw [ct] at hl
  match cs, hl with
  | [a, b, c, d], _ =>
    simp only [ck, c1, cu] at h0 h1 h2 h3
    obtain ⟨n, e0, _, w0⟩ := DataW.trod_int hk h0
    obtain ⟨s1, e1, _, _⟩ := DataW.trod_string hs h1
    obtain ⟨s2, e2, _, _⟩ := DataW.trod_string hs h2
    obtain ⟨v, e3, _, w3⟩ := DataW.trod_int hu h3
    simp at e0 e1 e2 e3
    subst e0 e1 e2 e3
    refine ⟨⟨UInt8.ofNat n.toNat, s1, s2, UInt32.ofNat v.toNat⟩, ?_⟩
    simp only [OpM.c]
    rw [← u8_wf w0, ← u32_wf w3]
end
end Go.SL
