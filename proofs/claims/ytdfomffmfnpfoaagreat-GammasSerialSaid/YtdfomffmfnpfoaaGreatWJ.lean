import Derived.Test.YtdfomffmfnpfoaaGreatWG
import Derived.Test.YtdfomffmfnpfoaaGreatMF
import Derived.Test.YtdfomffmfnpfoaaGreatProg
import Derived.KernelRfl
set_option linter.unusedSimpArgs false
set_option linter.unusedVariables false
namespace Go.SL.WJ
open Go Go.Proofs Go.SL
theorem a31 : aggOf Tryz.prog 31 = some none := by kernel_rfl
theorem a34 : aggOf Tryz.prog 34 = some (some 4) := by kernel_rfl
theorem a37 : aggOf Tryz.prog 37 = some (some 8) := by kernel_rfl
theorem a41 : aggOf Tryz.prog 41 = some none := by kernel_rfl
theorem a42 : aggOf Tryz.prog 42 = some none := by kernel_rfl
theorem a44 : aggOf Tryz.prog 44 = some (some 3) := by kernel_rfl
theorem a49 : aggOf Tryz.prog 49 = some (some 1) := by kernel_rfl
theorem a5 : aggOf Tryz.prog 5 = some none := by kernel_rfl
theorem f37_0 : fldOf Tryz.prog 37 0 = some 0 := by kernel_rfl
theorem f37_1 : fldOf Tryz.prog 37 1 = some 1 := by kernel_rfl
theorem f37_2 : fldOf Tryz.prog 37 2 = some 2 := by kernel_rfl
theorem f44_0 : fldOf Tryz.prog 44 0 = some 0 := by kernel_rfl
theorem f44_1 : fldOf Tryz.prog 44 1 = some 1 := by kernel_rfl
theorem f44_2 : fldOf Tryz.prog 44 2 = some 2 := by kernel_rfl
theorem k10 : callable Tryz.prog 10 = true := by kernel_rfl
theorem k11 : callable Tryz.prog 11 = true := by kernel_rfl
theorem k12 : callable Tryz.prog 12 = true := by kernel_rfl
theorem k13 : callable Tryz.prog 13 = true := by kernel_rfl
theorem k14 : callable Tryz.prog 14 = true := by kernel_rfl
theorem k15 : callable Tryz.prog 15 = true := by kernel_rfl
theorem k16 : callable Tryz.prog 16 = true := by kernel_rfl
theorem k17 : callable Tryz.prog 17 = true := by kernel_rfl
theorem k7 : callable Tryz.prog 7 = true := by kernel_rfl
theorem k8 : callable Tryz.prog 8 = true := by kernel_rfl
theorem k9 : callable Tryz.prog 9 = true := by kernel_rfl
theorem mixedOk : Tryz.prog.follows .mixedOrders = true := by kernel_rfl
theorem p44 : placesOf Tryz.prog 44 = some [(0, 1), (1, 1), (2, 1)] := by kernel_rfl
theorem pt26 : isPtr Tryz.prog 26 = true := by kernel_rfl
theorem pt38 : isPtr Tryz.prog 38 = true := by kernel_rfl
theorem s31 : szOf Tryz.prog 31 = some 1 := by kernel_rfl
theorem s37 : szOf Tryz.prog 37 = some 8 := by kernel_rfl
theorem s41 : szOf Tryz.prog 41 = some 1 := by kernel_rfl
theorem s42 : szOf Tryz.prog 42 = some 1 := by kernel_rfl
theorem s49 : szOf Tryz.prog 49 = some 1 := by kernel_rfl
theorem sl22 : slOf Tryz.prog 22 = some (37, 8, 72) := by kernel_rfl
theorem sl30 : slOf Tryz.prog 30 = some (44, 3, 56) := by kernel_rfl
theorem sl41 : slOf Tryz.prog 41 = some (34, 4, 48) := by kernel_rfl
theorem sl42 : slOf Tryz.prog 42 = some (49, 1, 24) := by kernel_rfl
theorem z34 : zeroOf Tryz.prog 34 = some [.int .u8 0, .string .empty, .string .empty, .int .u32 0] := by kernel_rfl
theorem z37 : zeroOf Tryz.prog 37 = some [.int .u8 0, .int .u32 0, .int .u8 0, .string .empty, .string .empty, .int .u32 0, .int .u64 0, .int .i64 0] := by kernel_rfl
theorem z44 : zeroOf Tryz.prog 44 = some [.int .u32 0, .slice none 0 0, .slice none 0 0] := by kernel_rfl
theorem z49 : zeroOf Tryz.prog 49 = some [.slice none 0 0] := by kernel_rfl
theorem zz38 : (Tryz.prog.info? 38).bind (·.zero) = some (.pointer none) := by kernel_rfl
end Go.SL.WJ
namespace Go.SL
open Go Go.Proofs WJ
def didL (d : DidV) : List HP := [cl d.p 44 [.int .u32 d.num.toNat, d.os.v, d.ls.v], Sl 34 4 OpM.c d.os.v d.ops, Sl 49 1 resC d.ls.v d.l, ResR d.l]
def comL (d : DidV) : List HP := [Sl 34 4 OpM.c d.os.v d.ops, Sl 49 1 resC d.ls.v d.l, ResR d.l]
def Dids (F : List DidV) : HP := bun (F.map fun d => bun (didL d))
def Coms (F : List DidV) : HP := bun (F.map fun d => bun (comL d))
theorem Dids_nil {L : List HP} {S : Piece} (h : stars L S) : stars (Dids [] :: L) S := bun_stars (L := []) h
theorem Coms_nil {L : List HP} {S : Piece} (h : stars L S) : stars (Coms [] :: L) S := bun_stars (L := []) h
theorem Dids_out {F : List DidV} {n : UInt32} {d : DidV} (h : findD F n = some d) : ∀ S, Dids F S → ∃ _ : Unit, stars [cl d.p 44 [.int .u32 d.num.toNat, d.os.v, d.ls.v], Sl 34 4 OpM.c d.os.v d.ops, Sl 49 1 resC d.ls.v d.l, ResR d.l, Dids (delD F n)] S := fun S hS =>
  ⟨(), app_bun (L := didL d) (stars_bun (dids_find h hS))⟩
theorem Dids_in {F : List DidV} {d : DidV} : ∀ S, stars [cl d.p 44 [.int .u32 d.num.toNat, d.os.v, d.ls.v], Sl 34 4 OpM.c d.os.v d.ops, Sl 49 1 resC d.ls.v d.l, ResR d.l, Dids F] S → Dids (d :: F) S := fun S hS => bun_mid_in (f := didL) (A := []) (B := F) hS
theorem Dids_drop {F : List DidV} {n : UInt32} : ∀ S, stars [Dids F] S → Dids (delD F n) S := fun S hS => dids_sub (by have := stars_bun hS; simpa using this)
theorem Coms_out {l A B : List DidV} {d : DidV} (h : l = A ++ d :: B) : ∀ S, Coms l S → ∃ _ : Unit, stars [Sl 34 4 OpM.c d.os.v d.ops, Sl 49 1 resC d.ls.v d.l, ResR d.l, Coms (A ++ B)] S := fun S hS => ⟨(), bun_mid_out (f := comL) (h ▸ hS)⟩
theorem Coms_in {A B : List DidV} {d : DidV} : ∀ S, stars [Sl 34 4 OpM.c d.os.v d.ops, Sl 49 1 resC d.ls.v d.l, ResR d.l, Coms (A ++ B)] S → Coms (A ++ d :: B) S := fun S hS => bun_mid_in (f := comL) hS

theorem great_spec {g : World} {A : HP} {u : Value} {xs : List ActM} (hA : RL A 8 ActM.c u xs) : Spec Tryz.prog g 7 [u] [A] fun K R => K (.bool (decide (150 < xs.length))) (A :: R) := by
  refine Spec.intro Tryz.func7 rfl Tryz.ntmps7 rfl fun R K hK => ?_
  refine WP.seq ?_
  refine WP.reg ?_
  refine WL.e e_assign ?_
  refine WL.next ?_
  refine WP.seq ?_
  refine WP.reg ?_
  refine WL.e e_move ?_
  refine WL.e (el_len sl22 hA) <| WL.e e_gtr <| WL.e e_assign ?_
  refine WL.next ?_
  refine WP.ret ?_
  exact PO.finE Tryz.results7 (rv_tmp rv_nil) (by simp; omega) hK

set_option maxHeartbeats 4000000 in
theorem Serial_spec {g : World} {A : HP} {u : Value} {xs : List ActM} (hA : RL A 8 ActM.c u xs) : Spec Tryz.prog g 3 [u] [A] fun K R => K (.bool true) (A :: R) := by
  refine Spec.intro Tryz.func3 rfl Tryz.ntmps3 rfl fun R K hK => ?_
  refine WP.seq ?_
  refine WP.reg ?_
  refine WL.e e_assign ?_
  refine WL.next ?_
  refine WP.seq ?_
  refine WP.seq ?_
  refine WP.reg ?_
  refine WL.e e_move ?_
  refine WL.h (h_call (great_spec hA) k7 ?_)
  refine WL.next ?_
  refine WP.cond rfl (fun h0 => ?_) (fun h0 => ?_)
  · skip
    refine WP.seq ?_
    refine WP.reg ?_
    refine WL.h (h_call (lives_spec) k8 ?_)
    refine WL.e e_assign ?_
    refine WL.next ?_
    refine WP.ret ?_
    refine PO.past nofun ?_
    exact PO.finE Tryz.results3 (rv_tmp rv_nil) rfl hK
  · replace h0 : xs.length ≤ 150 := by simp at h0; omega
    refine WP.skip ?_
    refine PO.next ?_
    refine WP.seq ?_
    refine WP.reg ?_
    refine WL.h (h_call (opened_spec) k9 ?_)
    intro dp p d hq
    refine WL.e e_move <| WL.e e_extract <| WL.e e_extract <| WL.e e_assign <| WL.e e_assign ?_
    refine WL.next ?_
    refine WP.seq ?_
    refine WP.seq ?_
    refine WP.reg ?_
    refine WL.e e_move <| WL.e (e_peq pt26) ?_
    refine WL.next ?_
    refine WP.cond_f rfl ?_
    refine WP.skip ?_
    refine PO.next ?_
    refine WP.seq ?_
    refine WP.reg ?_
    refine WL.h (h_makeMap (ek := eU32) fun om => ?_)
    refine WL.e e_assign ?_
    refine WL.next ?_
    refine WP.seq ?_
    refine WP.reg ?_
    refine WL.e e_assign ?_
    refine WL.next ?_
    refine WP.seq ?_
    refine WP.seq ?_
    refine WP.reg ?_
    refine WL.e e_assign ?_
    refine WL.next ?_
    refine WP.block ?_
    refine WP.nils 44 3 didC none ?_
    refine WP.conv (fun S h => Coms_nil (Dids_nil h)) ?_
    refine WP.loopK (fun (x : Nat × GamV × List DidV × List DidV × SV × List (UInt32 × Value)) => [(7, .int .i64 x.1), (6, x.2.2.2.2.1.v)]) (fun (x : Nat × GamV × List DidV × List DidV × SV × List (UInt32 × Value)) => Gs p dp (x.2.1) :: Txs (x.2.1).txs :: Mp eU32 om (x.2.2.2.2.2) :: Dids (x.2.2.1) :: Sl 44 3 didC (x.2.2.2.2.1.v) (x.2.2.2.1) :: Coms (x.2.2.2.1) :: A :: R) [(0, _), (4, _), (5, _)] (fun (x : Nat × GamV × List DidV × List DidV × SV × List (UInt32 × Value)) => x.1 ≤ xs.length ∧ SerL x.1 x.2.1 x.2.2.1 x.2.2.2.1 x.2.2.2.2.2) (fun (x : Nat × GamV × List DidV × List DidV × SV × List (UInt32 × Value)) => xs.length - x.1) (0, gam0 d, [], [], ⟨none, 0, 0⟩, []) (⟨Nat.zero_le _, SerL.first hq⟩) ?_
    rintro ⟨i, s, F, all, av, kvs⟩ ⟨hi, hI⟩
    simp only at hi hI
    dsimp only
    refine WP.seq ?_
    refine WP.seq ?_
    refine WP.reg ?_
    refine WL.e e_move <| WL.e e_move ?_
    refine WL.e (el_len sl22 hA) <| WL.e e_lss ?_
    refine WL.next ?_
    refine WP.cond rfl (fun h1 => ?_) (fun h1 => ?_)
    · have hlt : i < xs.length := by rw [decide_eq_true_eq] at h1; omega
      obtain ⟨x, hx⟩ : ∃ x, xs[i]? = some x := ⟨_, List.getElem?_eq_getElem hlt⟩
      refine WP.skip ?_
      refine PO.next ?_
      refine WP.seq ?_
      refine WP.block ?_
      refine WP.seq ?_
      refine WP.reg ?_
      refine WL.e e_move <| WL.e e_move ?_
      refine WL.e (el_ia (j := i) sl22 hA hlt) ?_
      refine WL.e (el_loadN (a := x) a37 actE hA hx) ?_
      refine WL.h (h_alloc z37 fun b1 => ?_)
      refine WL.h' (h_store s37 ?_)
      refine WL.next ?_
      refine WP.seq ?_
      refine WP.reg ?_
      refine WL.e e_move <| WL.e (e_fa f37_1) <| WL.e (e_load a31) ?_
      refine WL.e (e_lookD (n := x.tx) (F := F) Tryz.underlying29 (key_u32 Tryz.underlying31) zz38 hI.opn) <| WL.e e_assign ?_
      refine WL.next ?_
      refine WP.seq ?_
      refine WP.reg ?_
      refine WL.e (e_fa f37_0) <| WL.e (e_load a5) <| WL.e (e_rem (c := ((x.kind.toNat % 12 : Nat) : Int)) rfl rfl (by decide) (by rw [Int.tmod_eq_emod_of_nonneg (by omega)]; omega)) ?_
      refine WL.next ?_
      refine WP.block ?_
      refine WP.seq ?_
      refine WP.reg ?_
      refine WL.e e_eql <| WL.e e_assign ?_
      refine WL.next ?_
      refine WP.cond rfl (fun c0 => ?_) (fun c0 => ?_)
      · skip
        refine WP.seq ?_
        refine WP.reg ?_
        refine WL.e e_move <| WL.e (e_fa f37_1) <| WL.e (e_load a31) ?_
        refine WL.h (h_call (Begin_spec (s := s) x.tx) k10 ?_)
        intro q
        refine WL.e e_eql ?_
        refine WL.next ?_
        refine WP.cond rfl (fun e1 => ?_) (fun e1 => ?_)
        · have hE : begE s x.tx = 0 := by simpa using e1
          refine WP.reg ?_
          refine WL.e e_move <| WL.e (e_fa f37_1) <| WL.e (e_load a31) <| WL.e (e_build z44 p44 (.z (.int .u32 0) <| .z (.slice none 0 0) <| .z (.slice none 0 0) <| .n)) ?_
          refine WL.h (h_box fun b2 => ?_)
          refine WL.h' (h_mapUpdate (k := x.tx) (kvs := kvs) Tryz.underlying29 (key_u32 Tryz.underlying31) ?_)
          refine WL.nil ?_
          refine PO.blockN ?_
          refine PO.blockN ?_
          refine PO.next ?_
          refine WP.reg ?_
          refine WL.e e_move <| WL.e (e_add (c := ((i + 1 : Nat) : Int)) rfl rfl (by have := hI.len; rw [w_i64 (by omega) (by omega)]; omega)) <| WL.e e_assign ?_
          refine WL.nil ?_
          refine PO.nils 34 4 OpM.c none ?_
          refine PO.nils 49 1 resC none ?_
          refine PO.conv (fun S h => ResR_nil h) ?_
          refine PO.cls (A := Dids (delD F x.tx)) (B := [Dids F]) Dids_drop ?_
          refine PO.cls (A := Dids ((⟨x.tx, b2, 0, ⟨none, 0, 0⟩, [], ⟨none, 0, 0⟩, []⟩ : DidV) :: delD F x.tx)) (B := [cl b2 44 [.int .u32 (0 : UInt32).toNat, .slice none 0 0, .slice none 0 0], Sl 34 4 OpM.c (.slice none 0 0) [], Sl 49 1 resC (.slice none 0 0) [], ResR [], Dids (delD F x.tx)]) (Dids_in (d := (⟨x.tx, b2, 0, ⟨none, 0, 0⟩, [], ⟨none, 0, 0⟩, []⟩ : DidV))) ?_
          exact PO.againK (i + 1, begG s x.tx q, (⟨x.tx, b2, 0, ⟨none, 0, 0⟩, [], ⟨none, 0, 0⟩, []⟩ : DidV) :: delD F x.tx, all, av, (mset kvs x.tx (.pointer (some ⟨b2, 0, none⟩)))) ⟨by simp only; omega, hI.beg (by omega) hE q b2⟩ (by simp only; omega)
        · have hE : begE s x.tx ≠ 0 := by simpa using e1
          refine WP.skip ?_
          refine PO.blockN ?_
          refine PO.blockN ?_
          refine PO.next ?_
          refine WP.reg ?_
          refine WL.e e_move <| WL.e (e_add (c := ((i + 1 : Nat) : Int)) rfl rfl (by have := hI.len; rw [w_i64 (by omega) (by omega)]; omega)) <| WL.e e_assign ?_
          refine WL.nil ?_
          rw [SerL.beg0 hE q]
          exact PO.againK (i + 1, s, F, all, av, kvs) ⟨by simp only; omega, hI.mono (by omega)⟩ (by simp only; omega)
      · skip
        refine WP.cutL (fun (q : Bool) => [(94, .bool q)]) (fun (q : Bool) => Gs p dp (s) :: Txs (s).txs :: Mp eU32 om (kvs) :: Dids (F) :: Sl 44 3 didC (av.v) (all) :: Coms (all) :: cl b1 37 (ActM.c x) :: A :: R) (fun (q : Bool) => True) ?_ ?_
        · skip
          refine WP.seq ?_
          refine WP.reg ?_
          refine WL.e e_eql <| WL.e e_assign ?_
          refine WL.next ?_
          refine WP.cond rfl (fun c8 => ?_) (fun c8 => ?_)
          · skip
            refine WP.skip ?_
            exact PO.meetK _ trivial
          · skip
            refine WP.reg ?_
            refine WL.e e_eql <| WL.e e_assign ?_
            refine WL.nil ?_
            exact PO.meetK _ trivial
        · intro q _
          refine WP.cond rfl (fun c9 => ?_) (fun c9 => ?_)
          · skip
            refine WP.seq ?_
            refine WP.reg ?_
            refine WL.e e_move <| WL.e (e_fa f37_1) <| WL.e (e_load a31) ?_
            refine WL.h (h_call (Commit_spec (s := s) x.tx hI.ok) k11 ?_)
            refine WL.e e_move <| WL.e e_extract <| WL.e e_extract <| WL.e e_assign <| WL.e e_assign ?_
            refine WL.next ?_
            refine WP.seq ?_
            refine WP.seq ?_
            refine WP.reg ?_
            refine WL.e e_move <| WL.e e_eql ?_
            refine WL.next ?_
            refine WP.cond rfl (fun e2 => ?_) (fun e2 => ?_)
            · have hE : comE s x.tx = 0 := by simpa using e2
              obtain ⟨t, z, hf, hnum, hd, hfit, hno⟩ := hI.com hE
              rw [hd, hnum, Option.map_some]
              refine WP.seq ?_
              refine WP.seq ?_
              refine WP.reg ?_
              refine WL.e e_move <| WL.e (e_peq pt38) ?_
              refine WL.next ?_
              refine WP.cond_f rfl ?_
              refine WP.opn (Dids_out hd) fun _ => ?_
              refine WP.skip ?_
              refine PO.next ?_
              refine WP.seq ?_
              refine WP.reg ?_
              refine WL.e e_move <| WL.e e_move <| WL.e e_nil <| WL.e (e_fa f44_0) ?_
              refine WL.h' (h_store s31 ?_)
              refine WL.next ?_
              refine WP.seq ?_
              refine WP.reg ?_
              refine WL.e e_assign ?_
              refine WL.next ?_
              refine WP.seq ?_
              refine WP.block ?_
              refine WP.loopK (fun (k : Nat) => [(12, .int .i64 k)]) (fun (k : Nat) => Gs p dp (comG s x.tx) :: Txs (comG s x.tx).txs :: Mp eU32 om kvs :: cl z.p 44 [.int .u32 t.num.toNat, z.os.v, z.ls.v] :: Sl 34 4 OpM.c z.os.v z.ops :: Sl 49 1 resC z.ls.v z.l :: ResR z.l :: Dids (delD F x.tx) :: Sl 44 3 didC av.v all :: Coms all :: cl b1 37 (ActM.c x) :: A :: R) [(0, _), (4, _), (5, _), (6, _), (7, _), (8, _), (9, _), (10, _), (11, _), (29, _), (30, _), (31, _), (32, _), (35, _), (36, _), (37, _), (38, _), (39, _), (40, _), (41, _), (42, _), (43, _), (44, _), (45, _), (82, _), (83, _), (94, _), (97, _), (98, _), (99, _), (100, _), (101, _), (102, _), (103, _), (104, _), (105, _), (106, _), (107, _), (108, _), (109, _), (110, _), (111, _)] (fun (k : Nat) => k ≤ all.length ∧ ∀ a ∈ all.take k, a.num < t.num) (fun (k : Nat) => all.length - k) 0 (⟨Nat.zero_le _, by simp⟩) ?_
              rintro k ⟨hk, hk1⟩
              refine WP.seq ?_
              refine WP.seq ?_
              refine WP.reg ?_
              refine WL.e e_move <| WL.e e_move ?_
              refine WL.e (el_len (xs := all) (enc := didC) sl30 sl_rl) <| WL.e e_lss <| WL.e e_move ?_
              refine WL.join 124 (.bool (decide (∃ a, all[k]? = some a ∧ a.num < t.num))) (.c (.c (.c (.c (.c (.c (.c (.c .n)))))))) ?_ ?_
              · refine WL.bool 116 rfl (fun hg => ?_) (fun hg => ?_)
                · skip
                  refine WL.e e_move <| WL.e e_move ?_
                  refine WL.e (el_ia (j := k) (xs := all) (enc := didC) sl30 sl_rl (show k < all.length by simpa using hg)) ?_
                  refine WL.e (el_fa (z := 3) (j := k) (xs := all) (enc := didC) f44_0 sl_rl (show k < all.length by simpa using hg)) ?_
                  refine WL.e (el_load0 (j := k) (xs := all) (enc := didC) a31 didE sl_rl (List.getElem?_eq_getElem (show k < all.length by simpa using hg))) <| WL.e e_move <| WL.e (e_lss32) <| WL.e e_pick_t ?_
                  exact WL.nil (PO.joined rfl (by simp [List.getElem?_eq_getElem (show k < all.length by simpa using hg)]))
                · skip
                  refine WL.skip <| WL.skip <| WL.skip <| WL.skip <| WL.skip <| WL.skip <| WL.skip <| WL.e e_pick_f ?_
                  exact WL.nil (PO.joined rfl (by simp [List.getElem?_eq_none (show all.length ≤ k by simpa using hg)]))
              refine WL.next ?_
              refine WP.cond rfl (fun e3 => ?_) (fun e3 => ?_)
              · obtain ⟨a0, ha0, hlt0⟩ := of_decide_eq_true e3
                have hk2 := idx_lt ha0
                refine WP.skip ?_
                refine PO.next ?_
                refine WP.block ?_
                refine WP.reg ?_
                refine WL.e e_move <| WL.e (e_add (c := ((k + 1 : Nat) : Int)) rfl rfl (by have := hI.len; rw [w_i64 (by omega) (by omega)]; omega)) <| WL.e e_assign ?_
                refine WL.nil ?_
                refine PO.blockN ?_
                exact PO.againK (k + 1) ⟨by omega, fun a ha => by rw [take_snoc ha0] at ha; rcases List.mem_append.1 ha with h | h; exact hk1 a h; (obtain rfl := List.mem_singleton.1 h; exact hlt0)⟩ (by omega)
              · replace e3 := of_decide_eq_false e3
                refine WP.exit ?_
                refine PO.past nofun ?_
                refine PO.round nofun ?_
                refine PO.blockX ?_
                refine PO.next ?_
                refine WP.seq ?_
                refine WP.seq ?_
                refine WP.reg ?_
                refine WL.e e_move <| WL.e e_move ?_
                refine WL.e (el_len (xs := all) (enc := didC) sl30 sl_rl) <| WL.e e_lss <| WL.e e_move ?_
                refine WL.join 139 (.bool (false)) (.c (.c (.c (.c (.c (.c (.c (.c .n)))))))) ?_ ?_
                · refine WL.bool 131 rfl (fun hg => ?_) (fun hg => ?_)
                  · skip
                    refine WL.e e_move <| WL.e e_move ?_
                    refine WL.e (el_ia (j := k) (xs := all) (enc := didC) sl30 sl_rl (show k < all.length by simpa using hg)) ?_
                    refine WL.e (el_fa (z := 3) (j := k) (xs := all) (enc := didC) f44_0 sl_rl (show k < all.length by simpa using hg)) ?_
                    refine WL.e (el_load0 (j := k) (xs := all) (enc := didC) a31 didE sl_rl (List.getElem?_eq_getElem (show k < all.length by simpa using hg))) <| WL.e e_move <| WL.e (e_eql32) <| WL.e e_pick_t ?_
                    exact WL.nil (PO.joined rfl (by simp [hno _ (List.getElem_mem (show k < all.length by simpa using hg))]))
                  · skip
                    refine WL.skip <| WL.skip <| WL.skip <| WL.skip <| WL.skip <| WL.skip <| WL.skip <| WL.e e_pick_f ?_
                    exact WL.nil (PO.joined rfl (by simp))
                refine WL.next ?_
                refine WP.cond_f rfl ?_
                refine WP.nils 44 3 didC none ?_
                refine WP.skip ?_
                refine PO.next ?_
                refine WP.draws mixedOk 14 ?_
                refine RW.e 0 rfl e_move <| RW.e 1 rfl e_move ?_
                refine RW.e 2 rfl (el_to (hi := k) (xs := all) (enc := didC) sl30 sl_rl hk) <| RW.e 4 rfl e_move <| RW.e 5 rfl e_nil <| RW.e 6 rfl (e_loadN a44) <| RW.e 9 rfl e_move <| RW.e 10 rfl e_move ?_
                refine RW.e 11 rfl (el_from (lo := k) (xs := all) (enc := didC) sl30 sl_rl hk) ?_
                refine RW.any (is := [3, 7]) rfl ⟨?_, ?_, trivial⟩
                · skip
                  refine RWat.h rfl rfl rfl ?_
                  refine (hl_append (xs := []) (ys := all.take k) sl30 didE z44 (RL.to_ didE (sl_rl (E := 44) (u := av.v) (xs := all)) hk) (by have := hI.len; simp; omega) (fun a3 n3 c3 => ?_))
                  refine ⟨⟨⟨_, rfl, .inl ⟨rfl, (el_from (lo := k) (xs := all) (enc := didC) sl30 sl_rl hk)⟩⟩, ⟨_, rfl, .inl ⟨rfl, e_move⟩⟩, ⟨_, rfl, .inl ⟨rfl, e_move⟩⟩, ⟨_, rfl, .inl ⟨rfl, (e_loadN a44)⟩⟩, ⟨_, rfl, .inl ⟨rfl, e_nil⟩⟩, ⟨_, rfl, .inl ⟨rfl, e_move⟩⟩, trivial⟩, ?_⟩
                  refine RW.any (is := [7]) rfl ⟨?_, trivial⟩
                  refine RWat.h rfl rfl rfl ?_
                  refine (h_bs sl30 z44 (.a3 (.tmp 146) rfl <| .n) fun b3 => ?_)
                  refine ⟨⟨⟨_, rfl, .inl ⟨rfl, (el_from (lo := k) (xs := all) (enc := didC) sl30 sl_rl hk)⟩⟩, ⟨_, rfl, .inl ⟨rfl, e_move⟩⟩, ⟨_, rfl, .inl ⟨rfl, e_move⟩⟩, trivial⟩, ?_⟩
                  refine RW.any (is := [8]) rfl ⟨?_, trivial⟩
                  refine RWat.h rfl rfl rfl ?_
                  refine (hl_append (xs := [] ++ all.take k) (ys := [{ z with num := t.num }]) sl30 didE z44 (lit_rl didE [{ z with num := t.num }] rfl) (by have := hI.len; simp; omega) (fun a4 n4 c4 => ?_))
                  refine ⟨⟨⟨_, rfl, .inl ⟨rfl, (el_from (lo := k) (xs := all) (enc := didC) sl30 sl_rl hk)⟩⟩, ⟨_, rfl, .inl ⟨rfl, e_move⟩⟩, ⟨_, rfl, .inl ⟨rfl, e_move⟩⟩, trivial⟩, ?_⟩
                  refine RW.any (is := [12]) rfl ⟨?_, trivial⟩
                  refine RWat.h rfl rfl rfl ?_
                  refine (hl_append (xs := [] ++ all.take k ++ [{ z with num := t.num }]) (ys := all.drop k) sl30 didE z44 (RL.from_ didE (sl_rl (E := 44) (u := av.v) (xs := all)) hk) (by have := hI.len; simp; omega) (fun a5 n5 c5 => ?_))
                  rw [show [] ++ all.take k ++ [{ z with num := t.num }] ++ all.drop k = (all.take k ++ { z with num := t.num } :: all.drop k) by simp]
                  refine ⟨trivial, ?_⟩
                  refine RW.any (is := [13]) rfl ⟨?_, trivial⟩
                  refine RWat.h rfl rfl rfl ?_
                  refine HO.of_eo e_assign ?_
                  refine ⟨trivial, ?_⟩
                  refine RW.done ?_
                  refine PO.next ?_
                  refine WP.reg ?_
                  refine WL.e e_move <| WL.e (e_fa f37_1) <| WL.e (e_load a31) ?_
                  refine WL.h' (h_mapUpdate (k := x.tx) (kvs := kvs) Tryz.underlying29 (key_u32 Tryz.underlying31) ?_)
                  refine WL.nil ?_
                  refine PO.blockN ?_
                  refine PO.blockN ?_
                  refine PO.next ?_
                  refine WP.reg ?_
                  refine WL.e e_move <| WL.e (e_add (c := ((i + 1 : Nat) : Int)) rfl rfl (by have := hI.len; rw [w_i64 (by omega) (by omega)]; omega)) <| WL.e e_assign ?_
                  refine WL.nil ?_
                  refine PO.cls (A := Coms (all.take k ++ { z with num := t.num } :: all.drop k)) (B := [Sl 34 4 OpM.c z.os.v z.ops, Sl 49 1 resC z.ls.v z.l, ResR z.l, Coms all]) (fun S h => Coms_in (A := all.take k) (B := all.drop k) (d := { z with num := t.num }) S (by rw [List.take_append_drop]; exact h)) ?_
                  exact PO.againK (i + 1, comG s x.tx, delD F x.tx, (all.take k ++ { z with num := t.num } :: all.drop k), ⟨a5, n5, c5⟩, (mset kvs x.tx (.pointer none))) ⟨by simp only; omega, hI.com2 (by omega) hf hd hfit hno hk1 (fun a ha hl => e3 ⟨a, ha, hl⟩)⟩ (by simp only; omega)
                · skip
                  refine RWat.h rfl rfl rfl ?_
                  refine (h_bs sl30 z44 (.a3 (.tmp 146) rfl <| .n) fun b4 => ?_)
                  refine ⟨⟨⟨_, rfl, .inl ⟨rfl, (el_from (lo := k) (xs := all) (enc := didC) sl30 sl_rl hk)⟩⟩, ⟨_, rfl, .inl ⟨rfl, e_move⟩⟩, ⟨_, rfl, .inl ⟨rfl, e_move⟩⟩, ⟨_, rfl, .inl ⟨rfl, (el_to (hi := k) (xs := all) (enc := didC) sl30 sl_rl hk)⟩⟩, ⟨_, rfl, .inl ⟨rfl, e_move⟩⟩, ⟨_, rfl, .inl ⟨rfl, e_move⟩⟩, trivial⟩, ?_⟩
                  refine RW.any (is := [3]) rfl ⟨?_, trivial⟩
                  refine RWat.h rfl rfl rfl ?_
                  refine (hl_append (xs := []) (ys := all.take k) sl30 didE z44 (RL.to_ didE (sl_rl (E := 44) (u := av.v) (xs := all)) hk) (by have := hI.len; simp; omega) (fun a3 n3 c3 => ?_))
                  refine ⟨⟨⟨_, rfl, .inl ⟨rfl, (el_from (lo := k) (xs := all) (enc := didC) sl30 sl_rl hk)⟩⟩, ⟨_, rfl, .inl ⟨rfl, e_move⟩⟩, ⟨_, rfl, .inl ⟨rfl, e_move⟩⟩, trivial⟩, ?_⟩
                  refine RW.any (is := [8]) rfl ⟨?_, trivial⟩
                  refine RWat.h rfl rfl rfl ?_
                  refine (hl_append (xs := [] ++ all.take k) (ys := [{ z with num := t.num }]) sl30 didE z44 (lit_rl didE [{ z with num := t.num }] rfl) (by have := hI.len; simp; omega) (fun a4 n4 c4 => ?_))
                  refine ⟨⟨⟨_, rfl, .inl ⟨rfl, (el_from (lo := k) (xs := all) (enc := didC) sl30 sl_rl hk)⟩⟩, ⟨_, rfl, .inl ⟨rfl, e_move⟩⟩, ⟨_, rfl, .inl ⟨rfl, e_move⟩⟩, trivial⟩, ?_⟩
                  refine RW.any (is := [12]) rfl ⟨?_, trivial⟩
                  refine RWat.h rfl rfl rfl ?_
                  refine (hl_append (xs := [] ++ all.take k ++ [{ z with num := t.num }]) (ys := all.drop k) sl30 didE z44 (RL.from_ didE (sl_rl (E := 44) (u := av.v) (xs := all)) hk) (by have := hI.len; simp; omega) (fun a5 n5 c5 => ?_))
                  rw [show [] ++ all.take k ++ [{ z with num := t.num }] ++ all.drop k = (all.take k ++ { z with num := t.num } :: all.drop k) by simp]
                  refine ⟨trivial, ?_⟩
                  refine RW.any (is := [13]) rfl ⟨?_, trivial⟩
                  refine RWat.h rfl rfl rfl ?_
                  refine HO.of_eo e_assign ?_
                  refine ⟨trivial, ?_⟩
                  refine RW.done ?_
                  refine PO.next ?_
                  refine WP.reg ?_
                  refine WL.e e_move <| WL.e (e_fa f37_1) <| WL.e (e_load a31) ?_
                  refine WL.h' (h_mapUpdate (k := x.tx) (kvs := kvs) Tryz.underlying29 (key_u32 Tryz.underlying31) ?_)
                  refine WL.nil ?_
                  refine PO.blockN ?_
                  refine PO.blockN ?_
                  refine PO.next ?_
                  refine WP.reg ?_
                  refine WL.e e_move <| WL.e (e_add (c := ((i + 1 : Nat) : Int)) rfl rfl (by have := hI.len; rw [w_i64 (by omega) (by omega)]; omega)) <| WL.e e_assign ?_
                  refine WL.nil ?_
                  refine PO.cls (A := Coms (all.take k ++ { z with num := t.num } :: all.drop k)) (B := [Sl 34 4 OpM.c z.os.v z.ops, Sl 49 1 resC z.ls.v z.l, ResR z.l, Coms all]) (fun S h => Coms_in (A := all.take k) (B := all.drop k) (d := { z with num := t.num }) S (by rw [List.take_append_drop]; exact h)) ?_
                  exact PO.againK (i + 1, comG s x.tx, delD F x.tx, (all.take k ++ { z with num := t.num } :: all.drop k), ⟨a5, n5, c5⟩, (mset kvs x.tx (.pointer none))) ⟨by simp only; omega, hI.com2 (by omega) hf hd hfit hno hk1 (fun a ha hl => e3 ⟨a, ha, hl⟩)⟩ (by simp only; omega)
            · have hE : comE s x.tx ≠ 0 := by simpa using e2
              refine WP.skip ?_
              refine PO.next ?_
              refine WP.reg ?_
              refine WL.e e_move <| WL.e (e_fa f37_1) <| WL.e (e_load a31) ?_
              refine WL.h' (h_mapUpdate (k := x.tx) (kvs := kvs) Tryz.underlying29 (key_u32 Tryz.underlying31) ?_)
              refine WL.nil ?_
              refine PO.blockN ?_
              refine PO.blockN ?_
              refine PO.next ?_
              refine WP.reg ?_
              refine WL.e e_move <| WL.e (e_add (c := ((i + 1 : Nat) : Int)) rfl rfl (by have := hI.len; rw [w_i64 (by omega) (by omega)]; omega)) <| WL.e e_assign ?_
              refine WL.nil ?_
              refine PO.cls (A := Dids (delD F x.tx)) (B := [Dids F]) Dids_drop ?_
              exact PO.againK (i + 1, comG s x.tx, delD F x.tx, all, av, (mset kvs x.tx (.pointer none))) ⟨by simp only; omega, hI.comF (by omega) hE⟩ (by simp only; omega)
          · skip
            refine WP.seq ?_
            refine WP.reg ?_
            refine WL.e e_eql <| WL.e e_assign ?_
            refine WL.next ?_
            refine WP.cond rfl (fun c10 => ?_) (fun c10 => ?_)
            · skip
              refine WP.seq ?_
              refine WP.reg ?_
              refine WL.e e_move <| WL.e (e_fa f37_1) <| WL.e (e_load a31) ?_
              refine WL.h (h_call (Abort_spec (s := s) x.tx hI.ok) k12 ?_)
              refine WL.next ?_
              refine WP.reg ?_
              refine WL.e e_move <| WL.e (e_fa f37_1) <| WL.e (e_load a31) ?_
              refine WL.h' (h_mapUpdate (k := x.tx) (kvs := kvs) Tryz.underlying29 (key_u32 Tryz.underlying31) ?_)
              refine WL.nil ?_
              refine PO.blockN ?_
              refine PO.blockN ?_
              refine PO.next ?_
              refine WP.reg ?_
              refine WL.e e_move <| WL.e (e_add (c := ((i + 1 : Nat) : Int)) rfl rfl (by have := hI.len; rw [w_i64 (by omega) (by omega)]; omega)) <| WL.e e_assign ?_
              refine WL.nil ?_
              refine PO.cls (A := Dids (delD F x.tx)) (B := [Dids F]) Dids_drop ?_
              exact PO.againK (i + 1, aboG s x.tx, delD F x.tx, all, av, (mset kvs x.tx (.pointer none))) ⟨by simp only; omega, hI.abo (by omega) x.tx⟩ (by simp only; omega)
            · skip
              refine WP.seq ?_
              refine WP.reg ?_
              refine WL.e e_move <| WL.e (e_fa f37_1) <| WL.e (e_load a31) <| WL.e (e_fa f37_2) <| WL.e (e_loadN a34) ?_
              refine WL.h (h_call (Do_spec (s := s) x.tx x.op hI.ok) k13 ?_)
              rcases hdo : doG s x.tx x.op with ⟨s', e⟩ | ⟨t, c⟩ | ⟨t⟩
              · dsimp only
                have he := hI.err (by omega) hdo
                refine WL.e e_move <| WL.e e_extract <| WL.e e_extract ?_
                refine WL.h (h_alloc z49 fun b5 => ?_)
                refine WL.h' (h_store s49 ?_)
                refine WL.e e_assign ?_
                refine WL.next ?_
                refine WP.seq ?_
                refine WP.reg ?_
                refine WL.e e_move <| WL.e e_eql <| WL.e e_move ?_
                refine WL.bool 57 rfl (fun g1 => ?_) (fun g1 => ?_)
                · exact absurd (by simpa using g1) he.1 -- end
                · skip
                  refine WL.skip <| WL.skip <| WL.e e_pick_f ?_
                  refine WL.next ?_
                  refine WP.cond_f rfl ?_
                  refine WP.skip ?_
                  refine PO.blockN ?_
                  refine PO.blockN ?_
                  refine PO.next ?_
                  refine WP.reg ?_
                  refine WL.e e_move <| WL.e (e_add (c := ((i + 1 : Nat) : Int)) rfl rfl (by have := hI.len; rw [w_i64 (by omega) (by omega)]; omega)) <| WL.e e_assign ?_
                  refine WL.nil ?_
                  exact PO.againK (i + 1, s', F, all, av, kvs) ⟨by simp only; omega, he.2⟩ (by simp only; omega)
              · dsimp only
                intro sv7
                obtain ⟨z, hz, hI2⟩ := hI.put (by omega) hdo sv7
                rw [hz, Option.map_some]
                refine WL.e e_move <| WL.e e_extract <| WL.e e_extract ?_
                refine WL.h (h_alloc z49 fun b6 => ?_)
                refine WL.h' (h_store s49 ?_)
                refine WL.e e_assign ?_
                refine WL.next ?_
                refine WP.seq ?_
                refine WP.reg ?_
                refine WL.e e_move <| WL.e e_eql <| WL.e e_move ?_
                refine WL.bool 57 rfl (fun g1 => ?_) (fun g1 => ?_)
                · skip
                  refine WL.e e_move <| WL.e (e_pne pt38) <| WL.e e_pick_t ?_
                  refine WL.next ?_
                  refine WP.cond_t rfl ?_
                  refine WP.opn (Dids_out hz) fun _ => ?_
                  refine WP.seq ?_
                  refine WP.draws mixedOk 12 ?_
                  refine RW.e 0 rfl e_move <| RW.e 1 rfl e_move <| RW.e 2 rfl e_nil <| RW.e 3 rfl (e_fa f44_1) <| RW.e 4 rfl (e_load a41) <| RW.e 5 rfl (e_fa f37_2) <| RW.e 6 rfl (e_loadN a34) ?_
                  refine RW.any (is := [7]) rfl ⟨?_, trivial⟩
                  refine RWat.h rfl rfl rfl ?_
                  refine (h_bs sl41 z34 (.a4 (.tmp 67) rfl <| .n) fun b7 => ?_)
                  refine ⟨⟨⟨_, rfl, .inl ⟨rfl, (e_load a41)⟩⟩, ⟨_, rfl, .inl ⟨rfl, (e_fa f44_1)⟩⟩, ⟨_, rfl, .inl ⟨rfl, e_nil⟩⟩, ⟨_, rfl, .inl ⟨rfl, e_move⟩⟩, ⟨_, rfl, .inl ⟨rfl, e_move⟩⟩, trivial⟩, ?_⟩
                  refine RW.any (is := [8]) rfl ⟨?_, trivial⟩
                  refine RWat.h rfl rfl rfl ?_
                  refine (hl_append (xs := z.ops) (ys := [x.op]) sl41 opE z34 (lit_rl opE [x.op] rfl) (by have := hI.lenF z (findD_id hz).1; simp; omega) (fun a3 n3 c3 => ?_))
                  refine ⟨⟨⟨_, rfl, .inl ⟨rfl, e_move⟩⟩, trivial⟩, ?_⟩
                  refine RW.e 9 rfl e_nil <| RW.e 10 rfl (e_fa f44_1) ?_
                  refine RW.any (is := [11]) rfl ⟨?_, trivial⟩
                  refine RWat.h' rfl rfl rfl ?_
                  refine (h_store s41 ?_)
                  refine ⟨trivial, ?_⟩
                  refine RW.done ?_
                  refine PO.next ?_
                  refine WP.draws mixedOk 11 ?_
                  refine RW.e 0 rfl e_move <| RW.e 1 rfl e_move <| RW.e 2 rfl e_nil <| RW.e 3 rfl (e_fa f44_2) <| RW.e 4 rfl (e_load a42) <| RW.e 5 rfl (e_loadN a49) ?_
                  refine RW.any (is := [6]) rfl ⟨?_, trivial⟩
                  refine RWat.h rfl rfl rfl ?_
                  refine (h_bs sl42 z49 (.a1 (.tmp 77) rfl <| .n) fun b8 => ?_)
                  refine ⟨⟨⟨_, rfl, .inl ⟨rfl, (e_load a42)⟩⟩, ⟨_, rfl, .inl ⟨rfl, (e_fa f44_2)⟩⟩, ⟨_, rfl, .inl ⟨rfl, e_nil⟩⟩, ⟨_, rfl, .inl ⟨rfl, e_move⟩⟩, ⟨_, rfl, .inl ⟨rfl, e_move⟩⟩, trivial⟩, ?_⟩
                  refine RW.any (is := [7]) rfl ⟨?_, trivial⟩
                  refine RWat.h rfl rfl rfl ?_
                  refine (hl_append (xs := z.l) (ys := [((⟨none, 0, 0⟩ : SV), ([] : List RowM))]) sl42 resE z49 (lit_rl resE [((⟨none, 0, 0⟩ : SV), ([] : List RowM))] rfl) (by have := hI.lenF z (findD_id hz).1; simp; omega) (fun a4 n4 c4 => ?_))
                  refine ⟨⟨⟨_, rfl, .inl ⟨rfl, e_move⟩⟩, trivial⟩, ?_⟩
                  refine RW.e 8 rfl e_nil <| RW.e 9 rfl (e_fa f44_2) ?_
                  refine RW.any (is := [10]) rfl ⟨?_, trivial⟩
                  refine RWat.h' rfl rfl rfl ?_
                  refine (h_store s42 ?_)
                  refine ⟨trivial, ?_⟩
                  refine RW.done ?_
                  refine PO.blockN ?_
                  refine PO.blockN ?_
                  refine PO.next ?_
                  refine WP.reg ?_
                  refine WL.e e_move <| WL.e (e_add (c := ((i + 1 : Nat) : Int)) rfl rfl (by have := hI.len; rw [w_i64 (by omega) (by omega)]; omega)) <| WL.e e_assign ?_
                  refine WL.nil ?_
                  refine PO.nils 70 2 RowM.c none ?_
                  refine PO.cls (A := ResR (z.l ++ [((⟨none, 0, 0⟩ : SV), ([] : List RowM))])) (B := [ResR z.l, Sl 70 2 RowM.c (.slice none 0 0) (([] : List RowM))]) (ResR_snoc (l := z.l) (x := ((⟨none, 0, 0⟩ : SV), ([] : List RowM)))) ?_
                  refine PO.cls (A := Dids ({ z with os := ⟨a3, n3, c3⟩, ops := z.ops ++ [x.op], ls := ⟨a4, n4, c4⟩, l := z.l ++ [((⟨none, 0, 0⟩ : SV), ([] : List RowM))] } :: delD F x.tx)) (B := [cl z.p 44 [.int .u32 z.num.toNat, .slice a3 n3 c3, .slice a4 n4 c4], Sl 34 4 OpM.c (.slice a3 n3 c3) (z.ops ++ [x.op]), Sl 49 1 resC (.slice a4 n4 c4) (z.l ++ [((⟨none, 0, 0⟩ : SV), ([] : List RowM))]), ResR (z.l ++ [((⟨none, 0, 0⟩ : SV), ([] : List RowM))]), Dids (delD F x.tx)]) (Dids_in (d := { z with os := ⟨a3, n3, c3⟩, ops := z.ops ++ [x.op], ls := ⟨a4, n4, c4⟩, l := z.l ++ [((⟨none, 0, 0⟩ : SV), ([] : List RowM))] })) ?_
                  exact PO.againK (i + 1, putG s t.id c sv7, { z with os := ⟨a3, n3, c3⟩, ops := z.ops ++ [x.op], ls := ⟨a4, n4, c4⟩, l := z.l ++ [((⟨none, 0, 0⟩ : SV), ([] : List RowM))] } :: delD F x.tx, all, av, kvs) ⟨by simp only; omega, hI2 ⟨a3, n3, c3⟩ ⟨a4, n4, c4⟩⟩ (by simp only; omega)
                · exact absurd g1 (by decide) -- end
              · dsimp only
                intro a7 m7 c7
                obtain ⟨z, hz, hI2⟩ := hI.look (by omega) hdo ⟨a7, m7, c7⟩
                rw [hz, Option.map_some]
                refine WL.e e_move <| WL.e e_extract <| WL.e e_extract ?_
                refine WL.h (h_alloc z49 fun b9 => ?_)
                refine WL.h' (h_store s49 ?_)
                refine WL.e e_assign ?_
                refine WL.next ?_
                refine WP.seq ?_
                refine WP.reg ?_
                refine WL.e e_move <| WL.e e_eql <| WL.e e_move ?_
                refine WL.bool 57 rfl (fun g1 => ?_) (fun g1 => ?_)
                · skip
                  refine WL.e e_move <| WL.e (e_pne pt38) <| WL.e e_pick_t ?_
                  refine WL.next ?_
                  refine WP.cond_t rfl ?_
                  refine WP.opn (Dids_out hz) fun _ => ?_
                  refine WP.seq ?_
                  refine WP.draws mixedOk 12 ?_
                  refine RW.e 0 rfl e_move <| RW.e 1 rfl e_move <| RW.e 2 rfl e_nil <| RW.e 3 rfl (e_fa f44_1) <| RW.e 4 rfl (e_load a41) <| RW.e 5 rfl (e_fa f37_2) <| RW.e 6 rfl (e_loadN a34) ?_
                  refine RW.any (is := [7]) rfl ⟨?_, trivial⟩
                  refine RWat.h rfl rfl rfl ?_
                  refine (h_bs sl41 z34 (.a4 (.tmp 67) rfl <| .n) fun b10 => ?_)
                  refine ⟨⟨⟨_, rfl, .inl ⟨rfl, (e_load a41)⟩⟩, ⟨_, rfl, .inl ⟨rfl, (e_fa f44_1)⟩⟩, ⟨_, rfl, .inl ⟨rfl, e_nil⟩⟩, ⟨_, rfl, .inl ⟨rfl, e_move⟩⟩, ⟨_, rfl, .inl ⟨rfl, e_move⟩⟩, trivial⟩, ?_⟩
                  refine RW.any (is := [8]) rfl ⟨?_, trivial⟩
                  refine RWat.h rfl rfl rfl ?_
                  refine (hl_append (xs := z.ops) (ys := [x.op]) sl41 opE z34 (lit_rl opE [x.op] rfl) (by have := hI.lenF z (findD_id hz).1; simp; omega) (fun a3 n3 c3 => ?_))
                  refine ⟨⟨⟨_, rfl, .inl ⟨rfl, e_move⟩⟩, trivial⟩, ?_⟩
                  refine RW.e 9 rfl e_nil <| RW.e 10 rfl (e_fa f44_1) ?_
                  refine RW.any (is := [11]) rfl ⟨?_, trivial⟩
                  refine RWat.h' rfl rfl rfl ?_
                  refine (h_store s41 ?_)
                  refine ⟨trivial, ?_⟩
                  refine RW.done ?_
                  refine PO.next ?_
                  refine WP.draws mixedOk 11 ?_
                  refine RW.e 0 rfl e_move <| RW.e 1 rfl e_move <| RW.e 2 rfl e_nil <| RW.e 3 rfl (e_fa f44_2) <| RW.e 4 rfl (e_load a42) <| RW.e 5 rfl (e_loadN a49) ?_
                  refine RW.any (is := [6]) rfl ⟨?_, trivial⟩
                  refine RWat.h rfl rfl rfl ?_
                  refine (h_bs sl42 z49 (.a1 (.tmp 77) rfl <| .n) fun b11 => ?_)
                  refine ⟨⟨⟨_, rfl, .inl ⟨rfl, (e_load a42)⟩⟩, ⟨_, rfl, .inl ⟨rfl, (e_fa f44_2)⟩⟩, ⟨_, rfl, .inl ⟨rfl, e_nil⟩⟩, ⟨_, rfl, .inl ⟨rfl, e_move⟩⟩, ⟨_, rfl, .inl ⟨rfl, e_move⟩⟩, trivial⟩, ?_⟩
                  refine RW.any (is := [7]) rfl ⟨?_, trivial⟩
                  refine RWat.h rfl rfl rfl ?_
                  refine (hl_append (xs := z.l) (ys := [((⟨a7, m7, c7⟩ : SV), (scanR (changeR s.rows t.own) (spanOf x.op) 256))]) sl42 resE z49 (lit_rl resE [((⟨a7, m7, c7⟩ : SV), (scanR (changeR s.rows t.own) (spanOf x.op) 256))] rfl) (by have := hI.lenF z (findD_id hz).1; simp; omega) (fun a4 n4 c4 => ?_))
                  refine ⟨⟨⟨_, rfl, .inl ⟨rfl, e_move⟩⟩, trivial⟩, ?_⟩
                  refine RW.e 8 rfl e_nil <| RW.e 9 rfl (e_fa f44_2) ?_
                  refine RW.any (is := [10]) rfl ⟨?_, trivial⟩
                  refine RWat.h' rfl rfl rfl ?_
                  refine (h_store s42 ?_)
                  refine ⟨trivial, ?_⟩
                  refine RW.done ?_
                  refine PO.blockN ?_
                  refine PO.blockN ?_
                  refine PO.next ?_
                  refine WP.reg ?_
                  refine WL.e e_move <| WL.e (e_add (c := ((i + 1 : Nat) : Int)) rfl rfl (by have := hI.len; rw [w_i64 (by omega) (by omega)]; omega)) <| WL.e e_assign ?_
                  refine WL.nil ?_
                  refine PO.cls (A := ResR (z.l ++ [((⟨a7, m7, c7⟩ : SV), (scanR (changeR s.rows t.own) (spanOf x.op) 256))])) (B := [ResR z.l, Sl 70 2 RowM.c (.slice a7 m7 c7) ((scanR (changeR s.rows t.own) (spanOf x.op) 256))]) (ResR_snoc (l := z.l) (x := ((⟨a7, m7, c7⟩ : SV), (scanR (changeR s.rows t.own) (spanOf x.op) 256)))) ?_
                  refine PO.cls (A := Dids ({ z with os := ⟨a3, n3, c3⟩, ops := z.ops ++ [x.op], ls := ⟨a4, n4, c4⟩, l := z.l ++ [((⟨a7, m7, c7⟩ : SV), (scanR (changeR s.rows t.own) (spanOf x.op) 256))] } :: delD F x.tx)) (B := [cl z.p 44 [.int .u32 z.num.toNat, .slice a3 n3 c3, .slice a4 n4 c4], Sl 34 4 OpM.c (.slice a3 n3 c3) (z.ops ++ [x.op]), Sl 49 1 resC (.slice a4 n4 c4) (z.l ++ [((⟨a7, m7, c7⟩ : SV), (scanR (changeR s.rows t.own) (spanOf x.op) 256))]), ResR (z.l ++ [((⟨a7, m7, c7⟩ : SV), (scanR (changeR s.rows t.own) (spanOf x.op) 256))]), Dids (delD F x.tx)]) (Dids_in (d := { z with os := ⟨a3, n3, c3⟩, ops := z.ops ++ [x.op], ls := ⟨a4, n4, c4⟩, l := z.l ++ [((⟨a7, m7, c7⟩ : SV), (scanR (changeR s.rows t.own) (spanOf x.op) 256))] })) ?_
                  exact PO.againK (i + 1, lookG s t (spanOf x.op), { z with os := ⟨a3, n3, c3⟩, ops := z.ops ++ [x.op], ls := ⟨a4, n4, c4⟩, l := z.l ++ [((⟨a7, m7, c7⟩ : SV), (scanR (changeR s.rows t.own) (spanOf x.op) 256))] } :: delD F x.tx, all, av, kvs) ⟨by simp only; omega, hI2 ⟨a3, n3, c3⟩ ⟨a4, n4, c4⟩⟩ (by simp only; omega)
                · exact absurd g1 (by decide) -- end
    · skip
      refine WP.exit ?_
      refine PO.past nofun ?_
      refine PO.round nofun ?_
      refine PO.blockX ?_
      refine PO.next ?_
      refine WP.seq ?_
      refine WP.reg ?_
      refine WL.e e_assign ?_
      refine WL.next ?_
      refine WP.seq ?_
      refine WP.seq ?_
      refine WP.reg ?_
      refine WL.e e_assign ?_
      refine WL.next ?_
      refine WP.block ?_
      refine WP.nils 70 2 RowM.c none ?_
      refine WP.loopK (fun (x : Nat × SV) => [(16, .int .i64 x.1), (15, x.2.v)]) (fun (x : Nat × SV) => Sl 70 2 RowM.c x.2.v (rowsA all x.1) :: Gs p dp (s) :: Txs (s).txs :: Mp eU32 om (kvs) :: Dids (F) :: Sl 44 3 didC (av.v) (all) :: Coms (all) :: A :: R) [(4, _), (6, _)] (fun (x : Nat × SV) => x.1 ≤ all.length ∧ (rowsA all x.1).length ≤ x.1 * 150) (fun (x : Nat × SV) => all.length - x.1) (0, ⟨none, 0, 0⟩) (⟨Nat.zero_le _, Nat.le_refl _⟩) ?_
      rintro ⟨k, w⟩ ⟨hk, hkl⟩
      simp only at hk hkl
      dsimp only
      refine WP.seq ?_
      refine WP.seq ?_
      refine WP.reg ?_
      refine WL.e e_move <| WL.e e_move ?_
      refine WL.e (el_len (xs := all) (enc := didC) sl30 sl_rl) <| WL.e e_lss ?_
      refine WL.next ?_
      refine WP.cond rfl (fun h2 => ?_) (fun h2 => ?_)
      · have hkt : k < all.length := by rw [decide_eq_true_eq] at h2; omega
        obtain ⟨a, ha⟩ : ∃ a, all[k]? = some a := ⟨_, List.getElem?_eq_getElem hkt⟩
        obtain ⟨r1, r2, r3, r4, r5, r6, r7, r8⟩ := hI.run ha
        obtain ⟨A1, B1, eAB⟩ := mem_mid (List.mem_of_getElem? ha)
        have hal := hI.len
        refine WP.opn (Coms_out eAB) fun _ => ?_
        refine WP.skip ?_
        refine PO.next ?_
        refine WP.seq ?_
        refine WP.block ?_
        refine WP.seq ?_
        refine WP.reg ?_
        refine WL.e e_move <| WL.e e_move <| WL.e e_move ?_
        refine WL.e (el_ia (j := k) (xs := all) (enc := didC) sl30 sl_rl hkt) ?_
        refine WL.e (el_fa (z := 3) (j := k) (xs := all) (enc := didC) f44_1 sl_rl hkt) ?_
        refine WL.e (el_load (j := k) (f := 1) (xs := all) (enc := didC) a41 didE sl_rl ha) ?_
        refine WL.h (h_call (Run_spec (sl_rl (xs := rowsA all k)) (sl_rl (xs := a.ops)) r4 r5 r3 (by omega)) k14 ?_)
        intro sv1 ts1 a4 n4 c4 ht1
        refine WL.e e_move <| WL.e e_extract <| WL.e e_extract <| WL.e e_assign <| WL.e e_assign ?_
        refine WL.next ?_
        refine WP.seq ?_
        refine WP.seq ?_
        refine WP.reg ?_
        refine WL.e e_move <| WL.e e_move <| WL.e e_move ?_
        refine WL.e (el_ia (j := k) (xs := all) (enc := didC) sl30 sl_rl hkt) ?_
        refine WL.e (el_fa (z := 3) (j := k) (xs := all) (enc := didC) f44_2 sl_rl hkt) ?_
        refine WL.e (el_load (j := k) (f := 2) (xs := all) (enc := didC) a42 didE sl_rl ha) ?_
        refine WL.h (h_call (SameResults_spec (sl_rl (xs := ts1)) (sl_rl (xs := a.l)) (by have := congrArg List.length (ht1.trans r1); simp at this; omega) (fun y hy => by have h4 := runM_told (rowsA all k) a.ops y.2 (by rw [← ht1]; exact List.mem_map.2 ⟨y, hy, rfl⟩); omega)) k15 ?_)
        rw [decide_eq_true (show ts1.map (·.2) = a.l.map (·.2) from ht1.trans r1)]
        refine WL.e e_not ?_
        refine WL.next ?_
        refine WP.cond_f rfl ?_
        refine WP.skip ?_
        refine PO.next ?_
        refine WP.reg ?_
        refine WL.e e_move <| WL.e e_assign ?_
        refine WL.nil ?_
        refine PO.blockN ?_
        refine PO.next ?_
        refine WP.reg ?_
        refine WL.e e_move <| WL.e (e_add (c := ((k + 1 : Nat) : Int)) rfl rfl (by have := hI.len; rw [w_i64 (by omega) (by omega)]; omega)) <| WL.e e_assign ?_
        refine WL.nil ?_
        rw [r2]
        refine PO.cls (A := Coms all) (B := [Sl 34 4 OpM.c a.os.v a.ops, Sl 49 1 resC a.ls.v a.l, ResR a.l, Coms (A1 ++ B1)]) (fun S h => eAB ▸ Coms_in S h) ?_
        exact PO.againK (k + 1, ⟨a4, n4, c4⟩) ⟨by simp only; omega, by simp only; omega⟩ (by simp only; omega)
      · obtain rfl : k = all.length := by rw [decide_eq_false_iff_not] at h2; omega
        have hal := hI.len
        refine WP.exit ?_
        refine PO.past nofun ?_
        refine PO.round nofun ?_
        refine PO.blockX ?_
        refine PO.next ?_
        refine WP.seq ?_
        refine WP.reg ?_
        refine WL.e e_move <| WL.e e_move ?_
        refine WL.h (h_call (GRows_spec (s := s) (by have := hI.ok.sum; omega)) k17 ?_)
        intro a5 m5 c5
        refine WL.h (h_call (SameRows_spec (sl_rl (xs := rowsA all all.length)) (sl_rl (xs := s.rows)) (by omega)) k16 ?_)
        rw [decide_eq_true hI.done.symm]
        refine WL.e e_move ?_
        refine WL.bool 194 rfl (fun y1 => ?_) (fun y1 => ?_)
        · skip
          refine WL.h (h_call (lives_spec) k8 ?_)
          refine WL.e e_pick_t <| WL.e e_assign ?_
          refine WL.next ?_
          refine WP.ret ?_
          exact PO.finE Tryz.results3 (rv_tmp rv_nil) rfl hK
        · exact absurd y1 (by decide) -- end

end Go.SL
