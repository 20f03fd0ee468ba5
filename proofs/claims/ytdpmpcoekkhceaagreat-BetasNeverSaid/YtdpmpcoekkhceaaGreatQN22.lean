/- VE N7: rules and walks, several texts in one. -/
import Derived.Test.YtdpmpcoekkhceaaGreatQN21
import Derived.Test.YtdpmpcoekkhceaaGreatProg
import Derived.KernelRfl
set_option linter.unusedSimpArgs false
set_option linter.unusedVariables false
namespace Go.SL.VE
open Go Go.Proofs Go.SL
theorem a103 : aggOf Tryz.prog 103 = some none := by kernel_rfl
theorem a104 : aggOf Tryz.prog 104 = some none := by kernel_rfl
theorem a114 : aggOf Tryz.prog 114 = some none := by kernel_rfl
theorem a22 : aggOf Tryz.prog 22 = some none := by kernel_rfl
theorem a24 : aggOf Tryz.prog 24 = some none := by kernel_rfl
theorem a31 : aggOf Tryz.prog 31 = some (some 1) := by kernel_rfl
theorem a34 : aggOf Tryz.prog 34 = some none := by kernel_rfl
theorem a36 : aggOf Tryz.prog 36 = some (some 4) := by kernel_rfl
theorem a69 : aggOf Tryz.prog 69 = some (some 2) := by kernel_rfl
theorem a9 : aggOf Tryz.prog 9 = some none := by kernel_rfl
theorem a95 : aggOf Tryz.prog 95 = some none := by kernel_rfl
theorem a96 : aggOf Tryz.prog 96 = some none := by kernel_rfl
theorem a97 : aggOf Tryz.prog 97 = some none := by kernel_rfl
theorem a98 : aggOf Tryz.prog 98 = some none := by kernel_rfl
theorem f100_0 : fldOf Tryz.prog 100 0 = some 0 := by kernel_rfl
theorem f100_1 : fldOf Tryz.prog 100 1 = some 1 := by kernel_rfl
theorem f100_2 : fldOf Tryz.prog 100 2 = some 2 := by kernel_rfl
theorem f106_0 : fldOf Tryz.prog 106 0 = some 0 := by kernel_rfl
theorem f106_1 : fldOf Tryz.prog 106 1 = some 1 := by kernel_rfl
theorem f106_2 : fldOf Tryz.prog 106 2 = some 2 := by kernel_rfl
theorem f36_0 : fldOf Tryz.prog 36 0 = some 0 := by kernel_rfl
theorem f36_1 : fldOf Tryz.prog 36 1 = some 1 := by kernel_rfl
theorem f36_3 : fldOf Tryz.prog 36 3 = some 3 := by kernel_rfl
theorem k46 : callable Tryz.prog 46 = true := by kernel_rfl
theorem k47 : callable Tryz.prog 47 = true := by kernel_rfl
theorem k48 : callable Tryz.prog 48 = true := by kernel_rfl
theorem k49 : callable Tryz.prog 49 = true := by kernel_rfl
theorem k50 : callable Tryz.prog 50 = true := by kernel_rfl
theorem k51 : callable Tryz.prog 51 = true := by kernel_rfl
theorem k52 : callable Tryz.prog 52 = true := by kernel_rfl
theorem k53 : callable Tryz.prog 53 = true := by kernel_rfl
theorem k54 : callable Tryz.prog 54 = true := by kernel_rfl
theorem k55 : callable Tryz.prog 55 = true := by kernel_rfl
theorem k56 : callable Tryz.prog 56 = true := by kernel_rfl
theorem k57 : callable Tryz.prog 57 = true := by kernel_rfl
theorem k58 : callable Tryz.prog 58 = true := by kernel_rfl
theorem k59 : callable Tryz.prog 59 = true := by kernel_rfl
theorem k60 : callable Tryz.prog 60 = true := by kernel_rfl
theorem k80 : callable Tryz.prog 80 = true := by kernel_rfl
theorem k82 : callable Tryz.prog 82 = true := by kernel_rfl
theorem k84 : callable Tryz.prog 84 = true := by kernel_rfl
theorem k91 : callable Tryz.prog 91 = true := by kernel_rfl
theorem mixedOk : Tryz.prog.follows .mixedOrders = true := by kernel_rfl
theorem p100 : placesOf Tryz.prog 100 = some [(0, 1), (1, 1), (2, 1)] := by kernel_rfl
theorem p106 : placesOf Tryz.prog 106 = some [(0, 1), (1, 1), (2, 1)] := by kernel_rfl
theorem p108 : placesOf Tryz.prog 108 = some [(0, 1), (1, 1), (2, 1)] := by kernel_rfl
theorem p31 : placesOf Tryz.prog 31 = some [(0, 1)] := by kernel_rfl
theorem p69 : placesOf Tryz.prog 69 = some [(0, 1), (1, 1)] := by kernel_rfl
theorem pt95 : isPtr Tryz.prog 95 = true := by kernel_rfl
theorem s103 : szOf Tryz.prog 103 = some 1 := by kernel_rfl
theorem s104 : szOf Tryz.prog 104 = some 1 := by kernel_rfl
theorem s31 : szOf Tryz.prog 31 = some 1 := by kernel_rfl
theorem s69 : szOf Tryz.prog 69 = some 2 := by kernel_rfl
theorem s95 : szOf Tryz.prog 95 = some 1 := by kernel_rfl
theorem sl103 : slOf Tryz.prog 103 = some (108, 3, 24) := by kernel_rfl
theorem sl104 : slOf Tryz.prog 104 = some (69, 2, 32) := by kernel_rfl
theorem sl155 : slOf Tryz.prog 155 = some (114, 1, 24) := by kernel_rfl
theorem z100 : zeroOf Tryz.prog 100 = some [.pointer none, .pointer none, .map none] := by kernel_rfl
theorem z106 : zeroOf Tryz.prog 106 = some [.int .u32 0, .slice none 0 0, .slice none 0 0] := by kernel_rfl
theorem z108 : zeroOf Tryz.prog 108 = some [.string .empty, .int .u32 0, .bool false] := by kernel_rfl
theorem z31 : zeroOf Tryz.prog 31 = some [.slice none 0 0] := by kernel_rfl
theorem z69 : zeroOf Tryz.prog 69 = some [.string .empty, .string .empty] := by kernel_rfl
theorem z95 : zeroOf Tryz.prog 95 = some [.pointer none] := by kernel_rfl
theorem zz95 : (Tryz.prog.info? 95).bind (·.zero) = some (.pointer none) := by kernel_rfl
end Go.SL.VE
namespace Go.SL
open Go Go.Proofs VE
theorem Bbegins_spec {g : World} {p dp : Nat} {s : StV} (n : UInt32) (hf : findU s.txs n = none) : Spec Tryz.prog g 47 [.pointer (some ⟨p, 0, none⟩), .int .u32 n.toNat] [Bs p dp s, TxsU TPB s.txs] fun K R => ∀ q, K (.tuple #[]) (Bs p dp { s with txs := s.txs ++ [begT s n q] } :: TxsU TPB (s.txs ++ [begT s n q]) :: R) := by
  refine Spec.intro Tryz.func47 rfl Tryz.ntmps47 rfl fun R K hK => ?_
  refine WP.opn (Bs_op (p := p) (dp := dp) (s := s)) fun x => ?_
  obtain ⟨lp, pp, mb⟩ := x
  dsimp only
  refine WP.draws mixedOk 13 ?_
  refine RW.e 0 rfl e_move <| RW.e 1 rfl e_nil <| RW.e 2 rfl (e_fa f100_2) <| RW.e 3 rfl (e_load a98) <| RW.e 4 rfl e_move <| RW.e 5 rfl e_move <| RW.e 6 rfl e_nil <| RW.e 7 rfl (e_fa f100_1) <| RW.e 8 rfl (e_load a97) ?_
  refine RW.any (is := [9]) rfl ⟨?_, trivial⟩
  refine RWat.h rfl rfl rfl ?_
  refine (h_call (PNow_spec) k60 ?_)
  refine ⟨⟨⟨_, rfl, .inl ⟨rfl, e_move⟩⟩, ⟨_, rfl, .inl ⟨rfl, (e_load a98)⟩⟩, ⟨_, rfl, .inl ⟨rfl, (e_fa f100_2)⟩⟩, ⟨_, rfl, .inl ⟨rfl, e_nil⟩⟩, ⟨_, rfl, .inl ⟨rfl, e_move⟩⟩, trivial⟩, ?_⟩
  refine RW.e 10 rfl (e_build z106 p106 (.o (.tmp 13) rfl <| .z (.slice none 0 0) <| .z (.slice none 0 0) <| .n)) ?_
  refine RW.any (is := [11]) rfl ⟨?_, trivial⟩
  refine RWat.h rfl rfl rfl ?_
  refine (h_box fun b1 => ?_)
  refine ⟨⟨⟨_, rfl, .inl ⟨rfl, e_move⟩⟩, ⟨_, rfl, .inl ⟨rfl, (e_load a98)⟩⟩, ⟨_, rfl, .inl ⟨rfl, (e_fa f100_2)⟩⟩, ⟨_, rfl, .inl ⟨rfl, e_nil⟩⟩, ⟨_, rfl, .inl ⟨rfl, e_move⟩⟩, trivial⟩, ?_⟩
  refine RW.any (is := [12]) rfl ⟨?_, trivial⟩
  refine RWat.h' rfl rfl rfl ?_
  refine (h_mapUpdate (k := n) (kvs := List.map kvU s.txs) Tryz.underlying98 (key_u32 Tryz.underlying22) ?_)
  rw [show mset (List.map kvU s.txs) n (.pointer (some ⟨b1, 0, none⟩)) = List.map kvU (s.txs ++ [begT s n b1]) from mset_kvU s.txs (begT s n b1) hf]
  refine ⟨trivial, ?_⟩
  refine RW.done ?_
  refine PO.nils 69 2 SpanM.c none ?_
  refine PO.nils 108 3 ChgM.c none ?_
  refine PO.cls (A := Bs p dp ({ s with txs := s.txs ++ [begT s n b1] })) (B := [cl p 100 [.pointer (some ⟨lp, 0, none⟩), .pointer (some ⟨pp, 0, none⟩), .map (some mb)], cl lp 193 [.pointer (some ⟨dp, 0, none⟩), .int .i64 s.at_], Dk dp s.d, Pa pp s.H s.trim, Mp eU32 (.map (some mb)) (List.map kvU (s.txs ++ [begT s n b1]))]) (fun S h => ⟨(lp, pp, mb), h⟩) ?_
  refine PO.cls (A := TxB_ (begT s n b1)) (B := [cl b1 106 [.int .u32 (UInt32.ofNat s.H.length).toNat, .slice none 0 0, .slice none 0 0], Sl 69 2 SpanM.c (.slice none 0 0) [], Sl 108 3 ChgM.c (.slice none 0 0) []]) (fun S h => ⟨(⟨none, 0, 0⟩, ⟨none, 0, 0⟩), h⟩) ?_
  refine PO.cls (A := TxsU TPB (s.txs ++ [begT s n b1])) (B := [TxB_ (begT s n b1), TxsU TPB s.txs]) (fun S h => TxsU_in (TP := TPB) (A := s.txs) (B := []) (t := begT s n b1) S (by rw [List.append_nil]; exact h)) ?_
  exact PO.fin Tryz.results47 rv_nil (hK b1)
theorem BBegin_spec {g : World} {p dp : Nat} {s : StV} (n : UInt32) : Spec Tryz.prog g 15 [.pointer (some ⟨p, 0, none⟩), .int .u32 n.toNat] [Bs p dp s, TxsU TPB s.txs] fun K R => ∀ q, K (.int .i64 (begE s n)) (Bs p dp (begS s n q) :: TxsU TPB (begS s n q).txs :: R) := by
  refine Spec.intro Tryz.func15 rfl Tryz.ntmps15 rfl fun R K hK => ?_
  refine WP.seq ?_
  refine WP.reg ?_
  refine WL.e e_assign ?_
  refine WL.next ?_
  refine WP.seq ?_
  refine WP.block ?_
  refine WP.seq ?_
  refine WP.reg ?_
  refine WL.e e_move ?_
  refine WL.h (h_call (Bthere_spec) k46 ?_)
  refine WL.e e_not <| WL.e e_assign ?_
  refine WL.next ?_
  refine WP.cond_f rfl ?_
  refine WP.seq ?_
  refine WP.reg ?_
  refine WL.e e_move <| WL.e (e_eql32 (b := 0)) <| WL.e e_assign ?_
  refine WL.next ?_
  refine WP.cond rfl (fun h1 => ?_) (fun h1 => ?_)
  · replace h1 : n = 0 := by simpa using h1
    have hE : begE s n = 1 := by simp [begE, h1]
    refine WP.seq ?_
    refine WP.reg ?_
    refine WL.e e_assign ?_
    refine WL.next ?_
    refine WP.ret ?_
    refine PO.blockR ?_
    refine PO.past nofun ?_
    have hK := hK 0
    rw [hE, show begS s n 0 = s by simp [begS, hE]] at hK
    exact PO.fin Tryz.results15 (rv_tmp rv_nil) hK
  · replace h1 : n ≠ 0 := by simpa using h1
    refine WP.opn (Bs_op (p := p) (dp := dp) (s := s)) fun x => ?_
    obtain ⟨lp, pp, mb⟩ := x
    dsimp only
    refine WP.seq ?_
    refine WP.reg ?_
    refine WL.e e_move <| WL.e e_nil <| WL.e (e_fa f100_2) <| WL.e (e_load a98) <| WL.e e_move ?_
    refine WL.e (e_lookU (n := n) (ts := s.txs) Tryz.underlying98 (key_u32 Tryz.underlying22) zz95) <| WL.e (e_pne pt95) <| WL.e e_assign ?_
    refine WL.next ?_
    refine WP.cond rfl (fun h2 => ?_) (fun h2 => ?_)
    · replace h2 : (findU s.txs n).isSome = true := by cases e : findU s.txs n with
        | none => rw [e] at h2; cases h2
        | some t => rfl
      have hE : begE s n = 7 := by simp only [begE, h1, h2]; simp
      refine WP.seq ?_
      refine WP.reg ?_
      refine WL.e e_assign ?_
      refine WL.next ?_
      refine WP.ret ?_
      refine PO.blockR ?_
      refine PO.past nofun ?_
      refine PO.cls (A := Bs p dp (s)) (B := [cl p 100 [.pointer (some ⟨lp, 0, none⟩), .pointer (some ⟨pp, 0, none⟩), .map (some mb)], cl lp 193 [.pointer (some ⟨dp, 0, none⟩), .int .i64 s.at_], Dk dp s.d, Pa pp s.H s.trim, Mp eU32 (.map (some mb)) (List.map kvU s.txs)]) (fun S h => ⟨(lp, pp, mb), h⟩) ?_
      have hK := hK 0
      rw [hE, show begS s n 0 = s by simp [begS, hE]] at hK
      exact PO.fin Tryz.results15 (rv_tmp rv_nil) hK
    · have hf : findU s.txs n = none := by cases e : findU s.txs n with
        | none => rfl
        | some t => rw [e] at h2; cases h2
      refine WP.seq ?_
      refine WP.reg ?_
      refine WL.e e_move <| WL.e e_nil <| WL.e (e_fa f100_2) <| WL.e (e_load a98) <| WL.e (e_len_map Tryz.underlying98) <| WL.e e_geq <| WL.e e_assign ?_
      refine WL.next ?_
      refine WP.cond rfl (fun h3 => ?_) (fun h3 => ?_)
      · replace h3 : 32 ≤ s.txs.length := by simp at h3; omega
        have hE : begE s n = 5 := by simp [begE, h1, hf, h3]
        refine WP.seq ?_
        refine WP.reg ?_
        refine WL.e e_assign ?_
        refine WL.next ?_
        refine WP.ret ?_
        refine PO.blockR ?_
        refine PO.past nofun ?_
        refine PO.cls (A := Bs p dp (s)) (B := [cl p 100 [.pointer (some ⟨lp, 0, none⟩), .pointer (some ⟨pp, 0, none⟩), .map (some mb)], cl lp 193 [.pointer (some ⟨dp, 0, none⟩), .int .i64 s.at_], Dk dp s.d, Pa pp s.H s.trim, Mp eU32 (.map (some mb)) (List.map kvU s.txs)]) (fun S h => ⟨(lp, pp, mb), h⟩) ?_
        have hK := hK 0
        rw [hE, show begS s n 0 = s by simp [begS, hE]] at hK
        exact PO.fin Tryz.results15 (rv_tmp rv_nil) hK
      · replace h3 : ¬ 32 ≤ s.txs.length := by simp at h3; omega
        have hE : begE s n = 0 := by simp only [begE, h1, hf, h3]; simp
        refine WP.cls (A := Bs p dp (s)) (B := [cl p 100 [.pointer (some ⟨lp, 0, none⟩), .pointer (some ⟨pp, 0, none⟩), .map (some mb)], cl lp 193 [.pointer (some ⟨dp, 0, none⟩), .int .i64 s.at_], Dk dp s.d, Pa pp s.H s.trim, Mp eU32 (.map (some mb)) (List.map kvU s.txs)]) (fun S h => ⟨(lp, pp, mb), h⟩) ?_
        
        refine WP.skip ?_
        refine PO.blockN ?_
        refine PO.next ?_
        refine WP.seq ?_
        refine WP.reg ?_
        refine WL.e e_move <| WL.e e_move ?_
        refine WL.h (h_call (Bbegins_spec n hf) k47 ?_)
        intro q
        refine WL.next ?_
        refine WP.seq ?_
        refine WP.reg ?_
        refine WL.e e_assign ?_
        refine WL.next ?_
        refine WP.ret ?_
        have hK := hK q
        rw [hE, begS, if_pos hE] at hK
        exact PO.fin Tryz.results15 (rv_tmp rv_nil) hK
theorem BAbort_spec {g : World} {p dp b : Nat} {s : StV} (n : UInt32) (hs : BetOk s b) : Spec Tryz.prog g 31 [.pointer (some ⟨p, 0, none⟩), .int .u32 n.toNat] [Bs p dp s, TxsU TPB s.txs] fun K R => K (.int .i64 (aboE s n)) (Bs p dp (aboS betaI s n) :: TxsU TPB (aboS betaI s n).txs :: R) := by
  refine Spec.intro Tryz.func31 rfl Tryz.ntmps31 rfl fun R K hK => ?_
  refine WP.seq ?_
  refine WP.reg ?_
  refine WL.e e_assign ?_
  refine WL.next ?_
  refine WP.seq ?_
  refine WP.block ?_
  refine WP.seq ?_
  refine WP.reg ?_
  refine WL.e e_move ?_
  refine WL.h (h_call (Bthere_spec) k46 ?_)
  refine WL.e e_not <| WL.e e_assign ?_
  refine WL.next ?_
  refine WP.cond_f rfl ?_
  refine WP.opn (Bs_op (p := p) (dp := dp) (s := s)) fun x => ?_
  obtain ⟨lp, pp, mb⟩ := x
  dsimp only
  refine WP.seq ?_
  refine WP.reg ?_
  refine WL.e e_move <| WL.e e_nil <| WL.e (e_fa f100_2) <| WL.e (e_load a98) <| WL.e e_move ?_
  refine WL.e (e_lookU (n := n) (ts := s.txs) Tryz.underlying98 (key_u32 Tryz.underlying22) zz95) <| WL.e (e_peq pt95) <| WL.e e_assign ?_
  refine WL.next ?_
  refine WP.cond rfl (fun h2 => ?_) (fun h2 => ?_)
  · have hf : findU s.txs n = none := by simpa using h2
    rw [show aboE s n = 6 by simp [aboE, hf], show aboS betaI s n = s by simp [aboS, hf]] at hK
    refine WP.seq ?_
    refine WP.reg ?_
    refine WL.e e_assign ?_
    refine WL.next ?_
    refine WP.ret ?_
    refine PO.blockR ?_
    refine PO.past nofun ?_
    refine PO.cls (A := Bs p dp (s)) (B := [cl p 100 [.pointer (some ⟨lp, 0, none⟩), .pointer (some ⟨pp, 0, none⟩), .map (some mb)], cl lp 193 [.pointer (some ⟨dp, 0, none⟩), .int .i64 s.at_], Dk dp s.d, Pa pp s.H s.trim, Mp eU32 (.map (some mb)) (List.map kvU s.txs)]) (fun S h => ⟨(lp, pp, mb), h⟩) ?_
    exact PO.fin Tryz.results31 (rv_tmp rv_nil) hK
  · obtain ⟨t, hf⟩ : ∃ t, findU s.txs n = some t := by cases e : findU s.txs n with
      | none => rw [e] at h2; cases h2
      | some t => exact ⟨t, rfl⟩
    rw [hf, Option.map_some]
    obtain ⟨hid, A, B, hts, hdel, _⟩ := findU_mid hf
    rw [show aboE s n = 0 by simp [aboE, hf], show aboS betaI s n = endsB s n by simp [aboS, hf, betaI]] at hK
    refine WP.cls (A := Bs p dp (s)) (B := [cl p 100 [.pointer (some ⟨lp, 0, none⟩), .pointer (some ⟨pp, 0, none⟩), .map (some mb)], cl lp 193 [.pointer (some ⟨dp, 0, none⟩), .int .i64 s.at_], Dk dp s.d, Pa pp s.H s.trim, Mp eU32 (.map (some mb)) (List.map kvU s.txs)]) (fun S h => ⟨(lp, pp, mb), h⟩) ?_
    refine WP.cls (A := TxsU TPB (delU s.txs n)) (B := [TxsU TPB s.txs]) (fun S h => TxsU_del (stars_h1U h)) ?_
    
    refine WP.skip ?_
    refine PO.blockN ?_
    refine PO.next ?_
    refine WP.seq ?_
    refine WP.reg ?_
    refine WL.e e_move <| WL.e e_move ?_
    refine WL.h (h_call (Bends_spec n hs (by have := hs.st.tl; omega)) k54 ?_)
    refine WL.next ?_
    refine WP.seq ?_
    refine WP.reg ?_
    refine WL.e e_assign ?_
    refine WL.next ?_
    refine WP.ret ?_
    exact PO.fin Tryz.results31 (rv_tmp rv_nil) hK
set_option maxHeartbeats 4000000 in
theorem BDo_spec {g : World} {p dp b : Nat} {s : StV} (n : UInt32) (x : OpM) (hs : BetOk s b) : Spec Tryz.prog g 16 [.pointer (some ⟨p, 0, none⟩), .int .u32 n.toNat, x.v] [Bs p dp s, TxsU TPB s.txs] fun K R => match doB s n x with
      | .err s' e => K (.tuple #[.agg #[.slice none 0 0], .int .i64 e]) (Bs p dp s' :: TxsU TPB s'.txs :: R)
      | .put s' => K (.tuple #[.agg #[.slice none 0 0], .int .i64 0]) (Bs p dp s' :: TxsU TPB s'.txs :: R)
      | .look s' rows => ∀ a m c, K (.tuple #[.agg #[.slice a m c], .int .i64 0]) (Sl 40 2 RowM.c (.slice a m c) rows :: Bs p dp s' :: TxsU TPB s'.txs :: R) := by
  refine Spec.intro Tryz.func16 rfl Tryz.ntmps16 rfl fun R K hK => ?_
  refine WP.seq ?_
  refine WP.reg ?_
  refine WL.h (h_box fun b1 => ?_)
  refine WL.h (h_alloc z31 fun b2 => ?_)
  refine WL.e e_assign ?_
  refine WL.next ?_
  refine WP.seq ?_
  refine WP.block ?_
  refine WP.seq ?_
  refine WP.reg ?_
  refine WL.e e_move ?_
  refine WL.h (h_call (Bthere_spec) k46 ?_)
  refine WL.e e_not <| WL.e e_assign ?_
  refine WL.next ?_
  refine WP.cond_f rfl ?_
  refine WP.seq ?_
  refine WP.reg ?_
  refine WL.e (e_loadN a36) ?_
  refine WL.h (h_call (opCheck_spec _) k48 ?_)
  refine WL.e e_not <| WL.e e_assign ?_
  refine WL.next ?_
  refine WP.cond rfl (fun h1 => ?_) (fun h1 => ?_)
  · replace h1 : opOk x = false := by simpa using h1
    rw [show doB s n x = .err s 1 by simp [doB, h1]] at hK
    refine WP.seq ?_
    refine WP.reg ?_
    refine WL.e (e_build z31 p31 (.z (.slice none 0 0) <| .n)) ?_
    refine WL.h' (h_store s31 ?_)
    refine WL.e e_assign ?_
    refine WL.next ?_
    refine WP.ret ?_
    refine PO.blockR ?_
    refine PO.past nofun ?_
    exact PO.fin Tryz.results16 (rv_cellN a31 (rv_tmp rv_nil)) hK
  · replace h1 : opOk x = true := by simpa using h1
    refine WP.opn (Bs_op (p := p) (dp := dp) (s := s)) fun x => ?_
    obtain ⟨lp, pp, mb⟩ := x
    dsimp only
    refine WP.skip ?_
    refine PO.blockN ?_
    refine PO.next ?_
    refine WP.seq ?_
    refine WP.reg ?_
    refine WL.e e_move <| WL.e e_nil <| WL.e (e_fa f100_2) <| WL.e (e_load a98) <| WL.e e_move ?_
    refine WL.e (e_lookU (n := n) (ts := s.txs) Tryz.underlying98 (key_u32 Tryz.underlying22) zz95) <| WL.e e_assign ?_
    refine WL.next ?_
    refine WP.seq ?_
    refine WP.seq ?_
    refine WP.reg ?_
    refine WL.e e_move <| WL.e (e_peq pt95) ?_
    refine WL.next ?_
    refine WP.cond rfl (fun h2 => ?_) (fun h2 => ?_)
    · have hf : findU s.txs n = none := by simpa using h2
      rw [show doB s n x = .err s 6 by simp [doB, h1, hf]] at hK
      refine WP.seq ?_
      refine WP.reg ?_
      refine WL.e (e_build z31 p31 (.z (.slice none 0 0) <| .n)) ?_
      refine WL.h' (h_store s31 ?_)
      refine WL.e e_assign ?_
      refine WL.next ?_
      refine WP.ret ?_
      refine PO.past nofun ?_
      refine PO.cls (A := Bs p dp (s)) (B := [cl p 100 [.pointer (some ⟨lp, 0, none⟩), .pointer (some ⟨pp, 0, none⟩), .map (some mb)], cl lp 193 [.pointer (some ⟨dp, 0, none⟩), .int .i64 s.at_], Dk dp s.d, Pa pp s.H s.trim, Mp eU32 (.map (some mb)) (List.map kvU s.txs)]) (fun S h => ⟨(lp, pp, mb), h⟩) ?_
      exact PO.fin Tryz.results16 (rv_cellN a31 (rv_tmp rv_nil)) hK
    · obtain ⟨t, hf⟩ : ∃ t, findU s.txs n = some t := by cases e : findU s.txs n with
        | none => rw [e] at h2; cases h2
        | some t => exact ⟨t, rfl⟩
      rw [hf, Option.map_some]
      obtain ⟨hid, A, B, hts, hdel, _⟩ := findU_mid hf
      have hol := hs.st.own_le (findU_mem hf)
      have hlk := hs.st.lks t (findU_mem hf)
      have hbb := hs.st.bb
      have hset : ∀ y, setU s.txs n y = A ++ { t with x := y } :: B := fun y => by rw [← hid, hts]; exact setU_mid (hts ▸ hs.st.ids) y
      refine WP.opn (TxsU_out (TP := TPB) hts) fun _ => ?_
      refine WP.opn (TxB__op (t := t)) fun x => ?_
      obtain ⟨s1, s2⟩ := x
      dsimp only
      refine WP.skip ?_
      refine PO.next ?_
      refine WP.seq ?_
      refine WP.seq ?_
      refine WP.reg ?_
      refine WL.e (e_fa f36_0) <| WL.e (e_load a34) ?_
      refine WL.next ?_
      refine WP.block ?_
      refine WP.seq ?_
      refine WP.reg ?_
      refine WL.e (e_eql8 (b := 2)) <| WL.e e_assign ?_
      refine WL.next ?_
      refine WP.cond rfl (fun h4 => ?_) (fun h4 => ?_)
      · replace h4 : x.kind = 2 := by simpa using h4
        have hw : writes x = true := by simp [writes, h4]
        rw [show doB s n x = .put { s with txs := setU s.txs n { t.x with own := t.x.own ++ [chgOf x] } } by simp [doB, h1, hf, hw], hset, show chgOf x = ⟨x.key, x.val, false⟩ by simp [chgOf, h4]] at hK
        dsimp only at hK
        refine WP.draws mixedOk 15 ?_
        refine RW.e 0 rfl e_move <| RW.e 1 rfl e_move <| RW.e 2 rfl e_nil <| RW.e 3 rfl (e_fa f106_2) <| RW.e 4 rfl (e_load a103) <| RW.e 5 rfl (e_fa f36_1) <| RW.e 6 rfl (e_load a9) <| RW.e 7 rfl (e_fa f36_3) <| RW.e 8 rfl (e_load a22) <| RW.e 9 rfl (e_build z108 p108 (.o (.tmp 56) rfl <| .o (.tmp 58) rfl <| .z (.bool false) <| .n)) ?_
        refine RW.any (is := [10]) rfl ⟨?_, trivial⟩
        refine RWat.h rfl rfl rfl ?_
        refine (h_bs sl103 z108 (.a3 (.tmp 59) rfl <| .n) fun b3 => ?_)
        refine ⟨⟨⟨_, rfl, .inl ⟨rfl, (e_load a103)⟩⟩, ⟨_, rfl, .inl ⟨rfl, (e_fa f106_2)⟩⟩, ⟨_, rfl, .inl ⟨rfl, e_nil⟩⟩, ⟨_, rfl, .inl ⟨rfl, e_move⟩⟩, ⟨_, rfl, .inl ⟨rfl, e_move⟩⟩, trivial⟩, ?_⟩
        refine RW.any (is := [11]) rfl ⟨?_, trivial⟩
        refine RWat.h rfl rfl rfl ?_
        refine (hl_append (xs := t.x.own) (ys := [⟨x.key, x.val, false⟩]) sl103 chgE z108 (lit_rl chgE [⟨x.key, x.val, false⟩] rfl) (by simp; omega) (fun a5 n5 c5 => ?_))
        refine ⟨⟨⟨_, rfl, .inl ⟨rfl, e_move⟩⟩, trivial⟩, ?_⟩
        refine RW.e 12 rfl e_nil <| RW.e 13 rfl (e_fa f106_2) ?_
        refine RW.any (is := [14]) rfl ⟨?_, trivial⟩
        refine RWat.h' rfl rfl rfl ?_
        refine (h_store s103 ?_)
        refine ⟨trivial, ?_⟩
        refine RW.done ?_
        refine PO.blockN ?_
        refine PO.next ?_
        refine WP.seq ?_
        refine WP.reg ?_
        refine WL.e (e_build z31 p31 (.z (.slice none 0 0) <| .n)) ?_
        refine WL.h' (h_store s31 ?_)
        refine WL.e e_assign ?_
        refine WL.next ?_
        refine WP.ret ?_
        rw [show List.map kvU s.txs = List.map kvU (A ++ { t with x := { t.x with own := t.x.own ++ [⟨x.key, x.val, false⟩] } } :: B) by rw [hts]; simp [kvU]]
        refine PO.cls (A := TxB_ { t with x := { t.x with own := t.x.own ++ [⟨x.key, x.val, false⟩] } }) (B := [cl t.q 106 [.int .u32 t.x.at_.toNat, s1.v, .slice a5 n5 c5], Sl 69 2 SpanM.c s1.v t.x.looked, Sl 108 3 ChgM.c (.slice a5 n5 c5) (t.x.own ++ [⟨x.key, x.val, false⟩])]) (fun S h => ⟨(s1, ⟨a5, n5, c5⟩), h⟩) ?_
        refine PO.cls (A := TxsU TPB (A ++ { t with x := { t.x with own := t.x.own ++ [⟨x.key, x.val, false⟩] } } :: B)) (B := [TxB_ { t with x := { t.x with own := t.x.own ++ [⟨x.key, x.val, false⟩] } }, TxsU TPB (A ++ B)]) (fun S h => TxsU_in (TP := TPB) (t := { t with x := { t.x with own := t.x.own ++ [⟨x.key, x.val, false⟩] } }) S h) ?_
        refine PO.cls (A := Bs p dp ({ s with txs := A ++ { t with x := { t.x with own := t.x.own ++ [⟨x.key, x.val, false⟩] } } :: B })) (B := [cl p 100 [.pointer (some ⟨lp, 0, none⟩), .pointer (some ⟨pp, 0, none⟩), .map (some mb)], cl lp 193 [.pointer (some ⟨dp, 0, none⟩), .int .i64 s.at_], Dk dp s.d, Pa pp s.H s.trim, Mp eU32 (.map (some mb)) (List.map kvU (A ++ { t with x := { t.x with own := t.x.own ++ [⟨x.key, x.val, false⟩] } } :: B))]) (fun S h => ⟨(lp, pp, mb), h⟩) ?_
        exact PO.fin Tryz.results16 (rv_cellN a31 (rv_tmp rv_nil)) hK
      · replace h4 : x.kind ≠ 2 := by simpa using h4
        refine WP.seq ?_
        refine WP.reg ?_
        refine WL.e (e_eql8 (b := 3)) <| WL.e e_assign ?_
        refine WL.next ?_
        refine WP.cond rfl (fun h5 => ?_) (fun h5 => ?_)
        · replace h5 : x.kind = 3 := by simpa using h5
          have hw : writes x = true := by simp [writes, h5]
          rw [show doB s n x = .put { s with txs := setU s.txs n { t.x with own := t.x.own ++ [chgOf x] } } by simp [doB, h1, hf, hw], hset, show chgOf x = ⟨x.key, 0, true⟩ by simp [chgOf, h5]] at hK
          dsimp only at hK
          refine WP.draws mixedOk 13 ?_
          refine RW.e 0 rfl e_move <| RW.e 1 rfl e_move <| RW.e 2 rfl e_nil <| RW.e 3 rfl (e_fa f106_2) <| RW.e 4 rfl (e_load a103) <| RW.e 5 rfl (e_fa f36_1) <| RW.e 6 rfl (e_load a9) <| RW.e 7 rfl (e_build z108 p108 (.o (.tmp 72) rfl <| .z (.int .u32 0) <| .o (.const (.bool true)) rfl <| .n)) ?_
          refine RW.any (is := [8]) rfl ⟨?_, trivial⟩
          refine RWat.h rfl rfl rfl ?_
          refine (h_bs sl103 z108 (.a3 (.tmp 73) rfl <| .n) fun b4 => ?_)
          refine ⟨⟨⟨_, rfl, .inl ⟨rfl, (e_load a103)⟩⟩, ⟨_, rfl, .inl ⟨rfl, (e_fa f106_2)⟩⟩, ⟨_, rfl, .inl ⟨rfl, e_nil⟩⟩, ⟨_, rfl, .inl ⟨rfl, e_move⟩⟩, ⟨_, rfl, .inl ⟨rfl, e_move⟩⟩, trivial⟩, ?_⟩
          refine RW.any (is := [9]) rfl ⟨?_, trivial⟩
          refine RWat.h rfl rfl rfl ?_
          refine (hl_append (xs := t.x.own) (ys := [⟨x.key, 0, true⟩]) sl103 chgE z108 (lit_rl chgE [⟨x.key, 0, true⟩] rfl) (by simp; omega) (fun a5 n5 c5 => ?_))
          refine ⟨⟨⟨_, rfl, .inl ⟨rfl, e_move⟩⟩, trivial⟩, ?_⟩
          refine RW.e 10 rfl e_nil <| RW.e 11 rfl (e_fa f106_2) ?_
          refine RW.any (is := [12]) rfl ⟨?_, trivial⟩
          refine RWat.h' rfl rfl rfl ?_
          refine (h_store s103 ?_)
          refine ⟨trivial, ?_⟩
          refine RW.done ?_
          refine PO.blockN ?_
          refine PO.next ?_
          refine WP.seq ?_
          refine WP.reg ?_
          refine WL.e (e_build z31 p31 (.z (.slice none 0 0) <| .n)) ?_
          refine WL.h' (h_store s31 ?_)
          refine WL.e e_assign ?_
          refine WL.next ?_
          refine WP.ret ?_
          rw [show List.map kvU s.txs = List.map kvU (A ++ { t with x := { t.x with own := t.x.own ++ [⟨x.key, 0, true⟩] } } :: B) by rw [hts]; simp [kvU]]
          refine PO.cls (A := TxB_ { t with x := { t.x with own := t.x.own ++ [⟨x.key, 0, true⟩] } }) (B := [cl t.q 106 [.int .u32 t.x.at_.toNat, s1.v, .slice a5 n5 c5], Sl 69 2 SpanM.c s1.v t.x.looked, Sl 108 3 ChgM.c (.slice a5 n5 c5) (t.x.own ++ [⟨x.key, 0, true⟩])]) (fun S h => ⟨(s1, ⟨a5, n5, c5⟩), h⟩) ?_
          refine PO.cls (A := TxsU TPB (A ++ { t with x := { t.x with own := t.x.own ++ [⟨x.key, 0, true⟩] } } :: B)) (B := [TxB_ { t with x := { t.x with own := t.x.own ++ [⟨x.key, 0, true⟩] } }, TxsU TPB (A ++ B)]) (fun S h => TxsU_in (TP := TPB) (t := { t with x := { t.x with own := t.x.own ++ [⟨x.key, 0, true⟩] } }) S h) ?_
          refine PO.cls (A := Bs p dp ({ s with txs := A ++ { t with x := { t.x with own := t.x.own ++ [⟨x.key, 0, true⟩] } } :: B })) (B := [cl p 100 [.pointer (some ⟨lp, 0, none⟩), .pointer (some ⟨pp, 0, none⟩), .map (some mb)], cl lp 193 [.pointer (some ⟨dp, 0, none⟩), .int .i64 s.at_], Dk dp s.d, Pa pp s.H s.trim, Mp eU32 (.map (some mb)) (List.map kvU (A ++ { t with x := { t.x with own := t.x.own ++ [⟨x.key, 0, true⟩] } } :: B))]) (fun S h => ⟨(lp, pp, mb), h⟩) ?_
          exact PO.fin Tryz.results16 (rv_cellN a31 (rv_tmp rv_nil)) hK
        · replace h5 : x.kind ≠ 3 := by simpa using h5
          have hw : writes x = false := by simp [writes, h4, h5]
          rw [show doB s n x = .look { s with txs := setU s.txs n { t.x with looked := t.x.looked ++ [spanOf x] } } (scanR (changeR (rowsN s.H t.x.at_.toNat) t.x.own) (spanOf x) 256) by simp [doB, h1, hf, hw], hset] at hK
          dsimp only at hK
          refine WP.seq ?_
          refine WP.reg ?_
          refine WL.e (e_loadN a36) ?_
          refine WL.h (h_call (Of_spec _) k49 ?_)
          refine WL.h (h_alloc z69 fun b5 => ?_)
          refine WL.h' (h_store s69 ?_)
          refine WL.next ?_
          refine WP.seq ?_
          refine WP.draws mixedOk 11 ?_
          refine RW.e 0 rfl e_move <| RW.e 1 rfl e_move <| RW.e 2 rfl e_nil <| RW.e 3 rfl (e_fa f106_1) <| RW.e 4 rfl (e_load a104) <| RW.e 5 rfl (e_loadN a69) ?_
          refine RW.any (is := [6]) rfl ⟨?_, trivial⟩
          refine RWat.h rfl rfl rfl ?_
          refine (h_bs sl104 z69 (.a2 (.tmp 38) rfl <| .n) fun b6 => ?_)
          refine ⟨⟨⟨_, rfl, .inl ⟨rfl, (e_load a104)⟩⟩, ⟨_, rfl, .inl ⟨rfl, (e_fa f106_1)⟩⟩, ⟨_, rfl, .inl ⟨rfl, e_nil⟩⟩, ⟨_, rfl, .inl ⟨rfl, e_move⟩⟩, ⟨_, rfl, .inl ⟨rfl, e_move⟩⟩, trivial⟩, ?_⟩
          refine RW.any (is := [7]) rfl ⟨?_, trivial⟩
          refine RWat.h rfl rfl rfl ?_
          refine (hl_append (xs := t.x.looked) (ys := [spanOf x]) sl104 spanE z69 (lit_rl spanE [spanOf x] rfl) (by simp; omega) (fun a5 n5 c5 => ?_))
          refine ⟨⟨⟨_, rfl, .inl ⟨rfl, e_move⟩⟩, trivial⟩, ?_⟩
          refine RW.e 8 rfl e_nil <| RW.e 9 rfl (e_fa f106_1) ?_
          refine RW.any (is := [10]) rfl ⟨?_, trivial⟩
          refine RWat.h' rfl rfl rfl ?_
          refine (h_store s104 ?_)
          refine ⟨trivial, ?_⟩
          refine RW.done ?_
          refine PO.next ?_
          refine WP.seq ?_
          refine WP.reg ?_
          refine WL.e e_move <| WL.e e_move <| WL.e (e_loadN a69) ?_
          refine WL.cls (A := Bs p dp (s)) (B := [cl p 100 [.pointer (some ⟨lp, 0, none⟩), .pointer (some ⟨pp, 0, none⟩), .map (some mb)], cl lp 193 [.pointer (some ⟨dp, 0, none⟩), .int .i64 s.at_], Dk dp s.d, Pa pp s.H s.trim, Mp eU32 (.map (some mb)) (List.map kvU s.txs)]) (fun S h => ⟨(lp, pp, mb), h⟩) ?_
          refine WL.h (h_call (look_spec (t := t) (spanOf x) hs (findU_mem hf) (sl_rl (E := 108) (u := s2.v) (xs := t.x.own))) k50 ?_)
          intro a8 m8 c8
          refine WL.opn (Bs_op (p := p) (dp := dp) (s := s)) fun x => ?_
          obtain ⟨lp, pp, mb⟩ := x
          dsimp only
          refine WL.e (e_build z31 p31 (.o (.tmp 46) rfl <| .n)) ?_
          refine WL.h' (h_store s31 ?_)
          refine WL.e e_assign ?_
          refine WL.next ?_
          refine WP.ret ?_
          refine PO.blockR ?_
          refine PO.past nofun ?_
          rw [show List.map kvU s.txs = List.map kvU (A ++ { t with x := { t.x with looked := t.x.looked ++ [spanOf x] } } :: B) by rw [hts]; simp [kvU]]
          refine PO.cls (A := TxB_ { t with x := { t.x with looked := t.x.looked ++ [spanOf x] } }) (B := [cl t.q 106 [.int .u32 t.x.at_.toNat, .slice a5 n5 c5, s2.v], Sl 69 2 SpanM.c (.slice a5 n5 c5) (t.x.looked ++ [spanOf x]), Sl 108 3 ChgM.c s2.v t.x.own]) (fun S h => ⟨(⟨a5, n5, c5⟩, s2), h⟩) ?_
          refine PO.cls (A := TxsU TPB (A ++ { t with x := { t.x with looked := t.x.looked ++ [spanOf x] } } :: B)) (B := [TxB_ { t with x := { t.x with looked := t.x.looked ++ [spanOf x] } }, TxsU TPB (A ++ B)]) (fun S h => TxsU_in (TP := TPB) (t := { t with x := { t.x with looked := t.x.looked ++ [spanOf x] } }) S h) ?_
          refine PO.cls (A := Bs p dp ({ s with txs := A ++ { t with x := { t.x with looked := t.x.looked ++ [spanOf x] } } :: B })) (B := [cl p 100 [.pointer (some ⟨lp, 0, none⟩), .pointer (some ⟨pp, 0, none⟩), .map (some mb)], cl lp 193 [.pointer (some ⟨dp, 0, none⟩), .int .i64 s.at_], Dk dp s.d, Pa pp s.H s.trim, Mp eU32 (.map (some mb)) (List.map kvU (A ++ { t with x := { t.x with looked := t.x.looked ++ [spanOf x] } } :: B))]) (fun S h => ⟨(lp, pp, mb), h⟩) ?_
          exact PO.fin Tryz.results16 (rv_cellN a31 (rv_tmp rv_nil)) (hK a8 m8 c8)
theorem IndexS_spec {g : World} {A B : HP} {u y : Value} {xs : List (SpanM)} {p : SpanM → Bool} (hA : RL A 2 SpanM.c u xs) (hn : xs.length ≤ 68719476736) (hy : ∀ x, CallV Tryz.prog g y [.agg (SpanM.c x).toArray] [B] fun K R => K (.bool (p x)) (B :: R)) :
    Spec Tryz.prog g 91 [u, y] [A, B] fun K R => K (.int .i64 (if xs.any p then (xs.findIdx p : Nat) else -1)) (A :: B :: R) := by
  refine Spec.intro Tryz.func91 rfl Tryz.ntmps91 rfl fun R K hK => ?_
  refine WP.seq ?_
  refine WP.reg ?_
  refine WL.e e_assign ?_
  refine WL.next ?_
  refine WP.seq ?_
  refine WP.seq ?_
  refine WP.reg ?_
  refine WL.e e_move ?_
  refine WL.e (el_len sl104 hA) <| WL.e e_move ?_
  refine WL.next ?_
  refine WP.block ?_
  refine WP.loopK (fun (i : Nat) => [(8, .int .i64 i)]) (fun (i : Nat) => A :: B :: R) [(0, _), (1, _), (7, _)] (fun (i : Nat) => i ≤ xs.length ∧ (xs.take i).any p = false) (fun (i : Nat) => xs.length - i) 0 (⟨Nat.zero_le _, by simp⟩) ?_
  rintro i ⟨h1, h2⟩
  refine WP.seq ?_
  refine WP.reg ?_
  refine WL.e e_lss ?_
  refine WL.next ?_
  refine WP.seq ?_
  refine WP.cond rfl (fun h3 => ?_) (fun h3 => ?_)
  · have hlt : i < xs.length := by rw [decide_eq_true_eq] at h3; omega
    obtain ⟨x, hx⟩ : ∃ x, xs[i]? = some x := ⟨_, List.getElem?_eq_getElem hlt⟩
    refine WP.skip ?_
    refine PO.next ?_
    refine WP.seq ?_
    refine WP.block ?_
    refine WP.seq ?_
    refine WP.reg ?_
    refine WL.e e_move <| WL.e e_assign ?_
    refine WL.next ?_
    refine WP.seq ?_
    refine WP.reg ?_
    refine WL.e e_move <| WL.e e_move <| WL.e e_move ?_
    refine WL.e (el_ia sl104 hA hlt) ?_
    refine WL.e (el_loadN (vs := SpanM.c x) a69 spanE hA hx (hv := ext_of (spanE.len x))) ?_
    refine WL.h (h_cally (hy x) ?_)
    refine WL.next ?_
    refine WP.cond rfl (fun h4 => ?_) (fun h4 => ?_)
    · skip
      refine WP.seq ?_
      refine WP.reg ?_
      refine WL.e e_move <| WL.e e_assign ?_
      refine WL.next ?_
      refine WP.ret ?_
      refine PO.blockR ?_
      refine PO.past nofun ?_
      refine PO.round nofun ?_
      refine PO.blockR ?_
      refine PO.past nofun ?_
      exact PO.finE Tryz.results91 (rv_tmp rv_nil) (by rw [index_at h2 hx h4]; rfl) hK
    · skip
      refine WP.skip ?_
      refine PO.blockN ?_
      refine PO.next ?_
      refine WP.reg ?_
      refine WL.e (e_add rfl rfl (w_i64 (by omega) (by omega))) <| WL.e e_move ?_
      refine WL.nil ?_
      exact PO.againK (i + 1) ⟨by omega, by rw [take_snoc hx, List.any_append, h2]; simp [h4]⟩ (by omega)
  · have hall : xs.any p = false := by rw [decide_eq_false_iff_not] at h3; rwa [List.take_of_length_le (by omega)] at h2
    refine WP.exit ?_
    refine PO.past nofun ?_
    refine PO.round nofun ?_
    refine PO.blockX ?_
    refine PO.next ?_
    refine WP.seq ?_
    refine WP.reg ?_
    refine WL.e e_assign ?_
    refine WL.next ?_
    refine WP.ret ?_
    exact PO.finE Tryz.results91 (rv_tmp rv_nil) (by rw [hall]; rfl) hK
theorem ContainsS_spec {g : World} {A B : HP} {u y : Value} {xs : List SpanM} {p : SpanM → Bool} (hA : RL A 2 SpanM.c u xs) (hn : xs.length ≤ 68719476736) (hy : ∀ x, CallV Tryz.prog g y [.agg (SpanM.c x).toArray] [B] fun K R => K (.bool (p x)) (B :: R)) :
    Spec Tryz.prog g 51 [u, y] [A, B] fun K R => K (.bool (xs.any p)) (A :: B :: R) := by
  refine Spec.intro Tryz.func51 rfl Tryz.ntmps51 rfl fun R K hK => ?_
  refine WP.seq ?_
  refine WP.reg ?_
  refine WL.e e_assign ?_
  refine WL.next ?_
  refine WP.seq ?_
  refine WP.reg ?_
  refine WL.e e_move <| WL.e e_move ?_
  refine WL.h (h_call (IndexS_spec hA hn hy) k91 ?_)
  refine WL.e e_geq <| WL.e e_assign ?_
  refine WL.next ?_
  refine WP.ret ?_
  exact PO.finE Tryz.results51 (rv_tmp rv_nil) (by cases h : xs.any p <;> simp) hK
theorem BCom1_spec {g : World} {c2 c6 p dp b : Nat} {s : StV} {t : TxT} {v1 v2 : Value} (sp : SpanM) (hs : BetOk s b) (ht : t ∈ s.txs) : Spec Tryz.prog g 52 [.agg (SpanM.c sp).toArray, .pointer (some ⟨c2, 0, none⟩), .pointer (some ⟨c6, 0, none⟩)] [cl c2 24 [.pointer (some ⟨p, 0, none⟩)], cl c6 95 [.pointer (some ⟨t.q, 0, none⟩)], cl t.q 106 [.int .u32 t.x.at_.toNat, v1, v2], Bs p dp s] fun K R => K (.bool (sinceH s.H t.x.at_.toNat sp)) (cl c2 24 [.pointer (some ⟨p, 0, none⟩)] :: cl c6 95 [.pointer (some ⟨t.q, 0, none⟩)] :: cl t.q 106 [.int .u32 t.x.at_.toNat, v1, v2] :: Bs p dp s :: R) := by
  refine Spec.intro Tryz.func52 rfl Tryz.ntmps52 rfl fun R K hK => ?_
  refine WP.opn (Bs_op (p := p) (dp := dp) (s := s)) fun x => ?_
  obtain ⟨lp, pp, mb⟩ := x
  dsimp only
  refine WP.seq ?_
  refine WP.reg ?_
  refine WL.h (h_box fun b1 => ?_)
  refine WL.e e_assign ?_
  refine WL.next ?_
  refine WP.seq ?_
  refine WP.draws mixedOk 11 ?_
  refine RW.e 0 rfl (e_load a24) <| RW.e 1 rfl e_nil <| RW.e 2 rfl (e_fa f100_1) <| RW.e 3 rfl (e_load a97) <| RW.e 4 rfl (e_load a95) <| RW.e 5 rfl e_nil <| RW.e 6 rfl (e_fa f106_0) <| RW.e 7 rfl (e_load a22) <| RW.e 8 rfl (e_loadN a69) ?_
  refine RW.any (is := [9]) rfl ⟨?_, trivial⟩
  refine RWat.h rfl rfl rfl ?_
  refine (h_call (PSince_spec (p := pp) (H := s.H) (trim := s.trim) t.x.at_ sp (hs.ats t ht).1 (by have := hs.st.hl; have := hs.st.bb; omega)) k53 ?_)
  refine ⟨trivial, ?_⟩
  refine RW.e 10 rfl e_assign ?_
  refine RW.done ?_
  refine PO.next ?_
  refine WP.ret ?_
  refine PO.cls (A := Bs p dp (s)) (B := [cl p 100 [.pointer (some ⟨lp, 0, none⟩), .pointer (some ⟨pp, 0, none⟩), .map (some mb)], cl lp 193 [.pointer (some ⟨dp, 0, none⟩), .int .i64 s.at_], Dk dp s.d, Pa pp s.H s.trim, Mp eU32 (.map (some mb)) (List.map kvU s.txs)]) (fun S h => ⟨(lp, pp, mb), h⟩) ?_
  exact PO.fin Tryz.results52 (rv_tmp rv_nil) hK
set_option maxHeartbeats 4000000 in
theorem BCommit_spec {g : World} {p dp b : Nat} {s : StV} (n : UInt32) (hs : BetOk s b) (hb1 : b + 1 ≤ 1000000000) : Spec Tryz.prog g 19 [.pointer (some ⟨p, 0, none⟩), .int .u32 n.toNat] [Bs p dp s, TxsU TPB s.txs] fun K R => K (.tuple #[.int .u32 (comN betaI s n).toNat, .int .i64 (comE betaI s n)]) (Bs p dp (comS betaI s n) :: TxsU TPB (comS betaI s n).txs :: R) := by
  refine Spec.intro Tryz.func19 rfl Tryz.ntmps19 rfl fun R K hK => ?_
  refine WP.seq ?_
  refine WP.reg ?_
  refine WL.h (h_box fun b1 => ?_)
  refine WL.e e_assign <| WL.e e_assign ?_
  refine WL.next ?_
  refine WP.seq ?_
  refine WP.seq ?_
  refine WP.reg ?_
  refine WL.e (e_load a24) ?_
  refine WL.h (h_call (Bthere_spec) k46 ?_)
  refine WL.e e_not ?_
  refine WL.next ?_
  refine WP.cond_f rfl ?_
  refine WP.opn (Bs_op (p := p) (dp := dp) (s := s)) fun x => ?_
  obtain ⟨lp, pp, mb⟩ := x
  dsimp only
  refine WP.skip ?_
  refine PO.next ?_
  refine WP.seq ?_
  refine WP.reg ?_
  refine WL.e (e_load a24) <| WL.e e_nil <| WL.e (e_fa f100_2) <| WL.e (e_load a98) <| WL.e e_move ?_
  refine WL.e (e_lookU (n := n) (ts := s.txs) Tryz.underlying98 (key_u32 Tryz.underlying22) zz95) ?_
  refine WL.h (h_alloc z95 fun b2 => ?_)
  refine WL.h' (h_store s95 ?_)
  refine WL.next ?_
  refine WP.seq ?_
  refine WP.seq ?_
  refine WP.reg ?_
  refine WL.e (e_load a95) <| WL.e (e_peq pt95) ?_
  refine WL.next ?_
  refine WP.cond rfl (fun h2 => ?_) (fun h2 => ?_)
  · have hf : findU s.txs n = none := by simpa using h2
    rw [show comE betaI s n = 6 by simp [comE, hf], show comN betaI s n = 0 by simp [comN, comE, hf], show comS betaI s n = s by simp [comS, hf]] at hK
    refine WP.seq ?_
    refine WP.reg ?_
    refine WL.e e_assign <| WL.e e_assign ?_
    refine WL.next ?_
    refine WP.ret ?_
    refine PO.past nofun ?_
    refine PO.cls (A := Bs p dp (s)) (B := [cl p 100 [.pointer (some ⟨lp, 0, none⟩), .pointer (some ⟨pp, 0, none⟩), .map (some mb)], cl lp 193 [.pointer (some ⟨dp, 0, none⟩), .int .i64 s.at_], Dk dp s.d, Pa pp s.H s.trim, Mp eU32 (.map (some mb)) (List.map kvU s.txs)]) (fun S h => ⟨(lp, pp, mb), h⟩) ?_
    exact PO.fin Tryz.results19 (rv_tmp (rv_tmp rv_nil)) hK
  · obtain ⟨t, hf⟩ : ∃ t, findU s.txs n = some t := by cases e : findU s.txs n with
      | none => rw [e] at h2; cases h2
      | some t => exact ⟨t, rfl⟩
    rw [hf, Option.map_some]
    obtain ⟨hid, A, B, hts, hdel, _⟩ := findU_mid hf
    refine WP.cls (A := Bs p dp (s)) (B := [cl p 100 [.pointer (some ⟨lp, 0, none⟩), .pointer (some ⟨pp, 0, none⟩), .map (some mb)], cl lp 193 [.pointer (some ⟨dp, 0, none⟩), .int .i64 s.at_], Dk dp s.d, Pa pp s.H s.trim, Mp eU32 (.map (some mb)) (List.map kvU s.txs)]) (fun S h => ⟨(lp, pp, mb), h⟩) ?_
    refine WP.opn (TxsU_out (TP := TPB) hts) fun _ => ?_
    refine WP.opn (TxB__op (t := t)) fun x => ?_
    obtain ⟨s1, s2⟩ := x
    dsimp only
    rw [← hdel]
    have hol := hs.st.own_le (findU_mem hf)
    have hlk := hs.st.lks t (findU_mem hf)
    have hbb := hs.st.bb
    have hhl := hs.st.hl
    have hcl := chgs_len t.x.own
    have hok := hs.st.own t (findU_mem hf)
    have hcl2 := hcl.2 hok
    have hall : t.x.own.all chgOk = true := List.all_eq_true.2 hok
    have hrl := chgsB_len t.x.own
    have hdk := hs.st.log
    refine WP.skip ?_
    refine PO.next ?_
    refine WP.seq ?_
    refine WP.reg ?_
    refine WL.e (e_load a95) <| WL.e e_nil <| WL.e (e_fa f106_1) <| WL.e (e_load a104) <| WL.e e_makeFunc ?_
    refine WL.cls (A := bun [cl b1 24 [.pointer (some ⟨p, 0, none⟩)], cl b2 95 [.pointer (some ⟨t.q, 0, none⟩)], cl t.q 106 [.int .u32 t.x.at_.toNat, s1.v, s2.v], Bs p dp s]) (B := [cl b1 24 [.pointer (some ⟨p, 0, none⟩)], cl b2 95 [.pointer (some ⟨t.q, 0, none⟩)], cl t.q 106 [.int .u32 t.x.at_.toNat, s1.v, s2.v], Bs p dp s]) (fun S h => h) ?_
    refine WL.h (h_call (ContainsS_spec (B := bun [cl b1 24 [.pointer (some ⟨p, 0, none⟩)], cl b2 95 [.pointer (some ⟨t.q, 0, none⟩)], cl t.q 106 [.int .u32 t.x.at_.toNat, s1.v, s2.v], Bs p dp s]) (xs := t.x.looked) sl_rl (by omega) (fun sp => CallV.bun (CallV.of_spec (fs := []) (cs := [.pointer (some ⟨b1, 0, none⟩), .pointer (some ⟨b2, 0, none⟩)]) (BCom1_spec (c2 := b1) (c6 := b2) (p := p) (dp := dp) (t := t) (v1 := s1.v) (v2 := s2.v) sp hs (findU_mem hf)) k52))) k51 ?_)
    show WL _ _ _ _ _ _ _ _
    refine WL.open_ (k := ?_)
    refine WL.e e_assign ?_
    refine WL.next ?_
    refine WP.seq ?_
    refine WP.reg ?_
    refine WL.e (e_load a24) <| WL.e e_move ?_
    refine WL.h (h_call (Bends_spec n hs (by have := hs.st.tl; omega)) k54 ?_)
    refine WL.next ?_
    refine WP.seq ?_
    refine WP.seq ?_
    refine WP.reg ?_
    refine WL.e e_move ?_
    refine WL.next ?_
    refine WP.cond rfl (fun h3 => ?_) (fun h3 => ?_)
    · have hck : betaI.chk s t.x = true := h3
      rw [show comE betaI s n = 9 by simp [comE, hf, hck], show comN betaI s n = 0 by simp [comN, comE, hf, hck], show comS betaI s n = endsB s n by simp only [comS, hf, hck, if_true]; rfl] at hK
      refine WP.seq ?_
      refine WP.reg ?_
      refine WL.e e_assign <| WL.e e_assign ?_
      refine WL.next ?_
      refine WP.ret ?_
      refine PO.past nofun ?_
      exact PO.fin Tryz.results19 (rv_tmp (rv_tmp rv_nil)) hK
    · have hck : betaI.chk s t.x = false := h3
      refine WP.skip ?_
      refine PO.next ?_
      refine WP.seq ?_
      refine WP.reg ?_
      refine WL.e (e_load a95) <| WL.e e_nil <| WL.e (e_fa f106_2) <| WL.e (e_load a103) ?_
      refine WL.h (h_call (PutChanges_spec (u := s2.v) (sl_rl (xs := t.x.own)) (by omega) (by omega)) k55 ?_)
      refine ⟨fun hb => absurd hb (by rw [hall]; simp), fun _ hle => ?_, fun _ hle a3 n3 c3 => ?_⟩
      · have hnf : ¬ fitsS s t.x := not_fitsS hle
        rw [show comE betaI s n = 5 by simp [comE, hf, hck, hnf], show comN betaI s n = 0 by simp [comN, comE, hf, hck, hnf], show comS betaI s n = endsB s n by simp only [comS, hf, hck, hnf, if_false, Bool.false_eq_true]; rfl] at hK
        refine WL.e e_move <| WL.e e_extract <| WL.e e_extract <| WL.e e_assign <| WL.e e_assign ?_
        refine WL.next ?_
        refine WP.seq ?_
        refine WP.seq ?_
        refine WP.reg ?_
        refine WL.e e_move <| WL.e e_neq <| WL.e e_move ?_
        refine WL.bool 41 rfl (fun hg => ?_) (fun hg => ?_)
        · skip
          refine WL.skip <| WL.skip <| WL.skip <| WL.skip <| WL.skip <| WL.skip <| WL.skip <| WL.e e_pick_t ?_
          refine WL.next ?_
          refine WP.cond_t rfl ?_
          refine WP.seq ?_
          refine WP.reg ?_
          refine WL.e e_assign <| WL.e e_assign ?_
          refine WL.next ?_
          refine WP.ret ?_
          refine PO.past nofun ?_
          exact PO.fin Tryz.results19 (rv_tmp (rv_tmp rv_nil)) hK
        · exact absurd hg (by decide) -- end
      · refine WL.opn (Bs_op (p := p) (dp := dp) (s := (endsB s n))) fun x => ?_
        obtain ⟨lp, pp, mb⟩ := x
        dsimp only
        refine WL.e e_move <| WL.e e_extract <| WL.e e_extract <| WL.e e_assign <| WL.e e_assign ?_
        refine WL.next ?_
        refine WP.seq ?_
        refine WP.seq ?_
        refine WP.reg ?_
        refine WL.e e_move <| WL.e e_neq <| WL.e e_move ?_
        refine WL.bool 41 rfl (fun hg => ?_) (fun hg => ?_)
        · exact absurd hg (by decide) -- end
        · skip
          refine WL.e (e_load a24) <| WL.e e_nil <| WL.e (e_fa f100_0) <| WL.e (e_load a96) <| WL.e e_move ?_
          refine WL.h (h_call (Add_spec (i := s.at_) (d := s.d) (sl_rl (xs := chgsB t.x.own)) hdk.ok (by have := hdk.le; have := hdk.len; omega) (by rw [hdk.waits]; simp)) k56 ?_)
          refine ⟨fun h => ?_, fun h h' => ?_, fun h h' => ?_⟩
          · have hnf : ¬ fitsS s t.x := fun hf => absurd hf.1 (by omega)
            rw [show comE betaI s n = 5 by simp [comE, hf, hck, hnf], show comN betaI s n = 0 by simp [comN, comE, hf, hck, hnf], show comS betaI s n = endsB s n by simp only [comS, hf, hck, hnf, if_false, Bool.false_eq_true]; rfl] at hK
            refine WL.e e_neq <| WL.e e_pick_f ?_
            refine WL.next ?_
            refine WP.cond_t rfl ?_
            refine WP.seq ?_
            refine WP.reg ?_
            refine WL.e e_assign <| WL.e e_assign ?_
            refine WL.next ?_
            refine WP.ret ?_
            refine PO.past nofun ?_
            refine PO.cls (A := Bs p dp ((endsB s n))) (B := [cl p 100 [.pointer (some ⟨lp, 0, none⟩), .pointer (some ⟨pp, 0, none⟩), .map (some mb)], cl lp 193 [.pointer (some ⟨dp, 0, none⟩), .int .i64 s.at_], Dk dp s.d, Pa pp s.H (endsB s n).trim, Mp eU32 (.map (some mb)) (List.map kvU (delU s.txs n))]) (fun S h => ⟨(lp, pp, mb), h⟩) ?_
            exact PO.fin Tryz.results19 (rv_tmp (rv_tmp rv_nil)) hK
          · have hnf : ¬ fitsS s t.x := fun hf => absurd hf.2 (by omega)
            rw [show comE betaI s n = 5 by simp [comE, hf, hck, hnf], show comN betaI s n = 0 by simp [comN, comE, hf, hck, hnf], show comS betaI s n = endsB s n by simp only [comS, hf, hck, hnf, if_false, Bool.false_eq_true]; rfl] at hK
            refine WL.e e_neq <| WL.e e_pick_f ?_
            refine WL.next ?_
            refine WP.cond_t rfl ?_
            refine WP.seq ?_
            refine WP.reg ?_
            refine WL.e e_assign <| WL.e e_assign ?_
            refine WL.next ?_
            refine WP.ret ?_
            refine PO.past nofun ?_
            refine PO.cls (A := Bs p dp ((endsB s n))) (B := [cl p 100 [.pointer (some ⟨lp, 0, none⟩), .pointer (some ⟨pp, 0, none⟩), .map (some mb)], cl lp 193 [.pointer (some ⟨dp, 0, none⟩), .int .i64 s.at_], Dk dp s.d, Pa pp s.H (endsB s n).trim, Mp eU32 (.map (some mb)) (List.map kvU (delU s.txs n))]) (fun S h => ⟨(lp, pp, mb), h⟩) ?_
            exact PO.fin Tryz.results19 (rv_tmp (rv_tmp rv_nil)) hK
          · have hfit : fitsS s t.x := ⟨h, h'⟩
            refine WL.e e_neq <| WL.e e_pick_f ?_
            refine WL.next ?_
            refine WP.cond_f rfl ?_
            refine WP.skip ?_
            refine PO.next ?_
            refine WP.seq ?_
            refine WP.reg ?_
            refine WL.e (e_load a24) <| WL.e e_nil <| WL.e (e_fa f100_0) <| WL.e (e_load a96) ?_
            refine WL.h (h_call (Force_spec (d := (addW s.d s.at_ (frame (chgsB t.x.own)) (secs (chgsB t.x.own).length))) (addW_ok _ _ _ _ hdk.ok)) k57 ?_)
            refine WL.next ?_
            refine WP.seq ?_
            refine WP.draws mixedOk 13 ?_
            refine RW.e 0 rfl (e_load a24) <| RW.e 1 rfl e_nil <| RW.e 2 rfl (e_fa f100_1) <| RW.e 3 rfl (e_load a97) <| RW.e 4 rfl (e_load a95) <| RW.e 5 rfl e_nil <| RW.e 6 rfl (e_fa f106_2) <| RW.e 7 rfl (e_load a103) ?_
            refine RW.any (is := [8]) rfl ⟨?_, trivial⟩
            refine RWat.h rfl rfl rfl ?_
            refine (h_call (PCommit_spec (p := pp) (H := s.H) (trim := (endsB s n).trim) (u := s2.v) (cs := t.x.own) (sl_rl (E := 108)) hok (by omega) (by omega)) k58 ?_)
            refine ⟨trivial, ?_⟩
            refine RW.e 9 rfl e_extract <| RW.e 10 rfl e_extract <| RW.e 11 rfl e_assign <| RW.e 12 rfl e_assign ?_
            refine RW.done ?_
            refine PO.next ?_
            refine WP.ret ?_
            rw [show comE betaI s n = 0 by simp [comE, hf, hck, hfit], show comN betaI s n = UInt32.ofNat s.H.length + 1 by simp [comN, comE, hf, hck, hfit], show comS betaI s n = addS (endsB s n) t.x.own by simp only [comS, hf, hck, hfit, if_true, if_false, Bool.false_eq_true]; rfl] at hK
            refine PO.cls (A := Bs p dp (addS (endsB s n) t.x.own)) (B := [cl p 100 [.pointer (some ⟨lp, 0, none⟩), .pointer (some ⟨pp, 0, none⟩), .map (some mb)], cl lp 193 [.pointer (some ⟨dp, 0, none⟩), .int .i64 (s.at_ + secs (chgsB t.x.own).length : Nat)], Dk dp (addW s.d s.at_ (frame (chgsB t.x.own)) (secs (chgsB t.x.own).length)).sync, Pa pp (s.H ++ [t.x.own]) (endsB s n).trim, Mp eU32 (.map (some mb)) (List.map kvU (delU s.txs n))]) (fun S h => ⟨(lp, pp, mb), h⟩) ?_
            exact PO.fin Tryz.results19 (rv_tmp (rv_tmp rv_nil)) hK
theorem BRows_spec {g : World} {p dp b : Nat} {s : StV} (hs : BetOk s b) : Spec Tryz.prog g 20 [.pointer (some ⟨p, 0, none⟩)] [Bs p dp s] fun K R => ∀ a m c, K (.slice a m c) (Sl 40 2 RowM.c (.slice a m c) s.rows :: Bs p dp s :: R) := by
  refine Spec.intro Tryz.func20 rfl Tryz.ntmps20 rfl fun R K hK => ?_
  refine WP.seq ?_
  refine WP.reg ?_
  refine WL.e e_assign ?_
  refine WL.next ?_
  refine WP.seq ?_
  refine WP.seq ?_
  refine WP.reg ?_
  refine WL.e e_move ?_
  refine WL.h (h_call (Bthere_spec) k46 ?_)
  refine WL.e e_not ?_
  refine WL.next ?_
  refine WP.cond_f rfl ?_
  refine WP.opn (Bs_op (p := p) (dp := dp) (s := s)) fun x => ?_
  obtain ⟨lp, pp, mb⟩ := x
  dsimp only
  have hbb := hs.st.bb
  have hhl := hs.st.hl
  have hsum := hs.st.sum
  refine WP.skip ?_
  refine PO.next ?_
  refine WP.seq ?_
  refine WP.draws mixedOk 12 ?_
  refine RW.e 0 rfl e_move <| RW.e 1 rfl e_nil <| RW.e 2 rfl (e_fa f100_1) <| RW.e 3 rfl (e_load a97) <| RW.e 4 rfl e_move <| RW.e 5 rfl e_nil <| RW.e 6 rfl (e_fa f100_1) <| RW.e 7 rfl (e_load a97) <| RW.e 9 rfl (e_build z69 p69 (.o (.const (.string ⟨#[48]⟩)) rfl <| .o (.const (.string ⟨#[122, 122, 122, 122, 122, 122, 122, 122, 122, 122, 122, 122, 122, 122, 122, 122]⟩)) rfl <| .n)) ?_
  refine RW.any (is := [8]) rfl ⟨?_, trivial⟩
  refine RWat.h rfl rfl rfl ?_
  refine (h_call (PNow_spec) k60 ?_)
  refine ⟨⟨⟨_, rfl, .inl ⟨rfl, (e_build z69 p69 (.o (.const (.string ⟨#[48]⟩)) rfl <| .o (.const (.string ⟨#[122, 122, 122, 122, 122, 122, 122, 122, 122, 122, 122, 122, 122, 122, 122, 122]⟩)) rfl <| .n))⟩⟩, ⟨_, rfl, .inl ⟨rfl, (e_load a97)⟩⟩, ⟨_, rfl, .inl ⟨rfl, (e_fa f100_1)⟩⟩, ⟨_, rfl, .inl ⟨rfl, e_nil⟩⟩, ⟨_, rfl, .inl ⟨rfl, e_move⟩⟩, trivial⟩, ?_⟩
  refine RW.any (is := [10]) rfl ⟨?_, trivial⟩
  refine RWat.h rfl rfl rfl ?_
  refine (h_call (PScan_spec (p := pp) (H := s.H) (trim := s.trim) (UInt32.ofNat s.H.length) allSpan 2147483647 (by rw [UInt32.le_iff_toNat_le, len32 hs.st]; exact hs.trim) (by rw [len32 hs.st]; exact Nat.le_refl _) (by omega) (by omega) (by decide)) k59 ?_)
  rw [len32 hs.st, scan_all (rowsN_rising _ _) (keys_rowsN (fun cs hcs => (hs.st.recs cs hcs).2) _) (by have := rowsN_len s.H s.H.length; omega)]
  intro a9 m9 c9
  refine ⟨trivial, ?_⟩
  refine RW.e 11 rfl e_assign ?_
  refine RW.done ?_
  refine PO.next ?_
  refine WP.ret ?_
  refine PO.cls (A := Bs p dp (s)) (B := [cl p 100 [.pointer (some ⟨lp, 0, none⟩), .pointer (some ⟨pp, 0, none⟩), .map (some mb)], cl lp 193 [.pointer (some ⟨dp, 0, none⟩), .int .i64 s.at_], Dk dp s.d, Pa pp s.H s.trim, Mp eU32 (.map (some mb)) (List.map kvU s.txs)]) (fun S h => ⟨(lp, pp, mb), h⟩) ?_
  exact PO.fin Tryz.results20 (rv_tmp rv_nil) (hK a9 m9 c9)
set_option maxHeartbeats 4000000 in
theorem BNew_spec {g : World} {dp : Nat} {d : DiskM} {at0 : Nat} (H : List (List ChgM)) (hd : DiskLogB d at0 (H.map chgsB)) (hok : ∀ cs ∈ H, cs.length ≤ 4096 ∧ ∀ c ∈ cs, chgOk c = true) :
    Spec Tryz.prog g 44 [.pointer (some ⟨dp, 0, none⟩)] [Dk dp d] fun K R => ∀ p, K (.tuple #[.pointer (some ⟨p, 0, none⟩), .int .i64 0]) (Bs p dp (st0 d at0 H) :: TxsU TPB [] :: R) := by
  refine Spec.intro Tryz.func44 rfl Tryz.ntmps44 rfl fun R K hK => ?_
  refine WP.seq ?_
  refine WP.reg ?_
  refine WL.e e_assign <| WL.e e_assign ?_
  refine WL.next ?_
  refine WP.seq ?_
  refine WP.reg ?_
  refine WL.e e_move ?_
  refine WL.h (h_call (Open_spec hd.ok (by rw [hd.waits]; simp)) k80 ?_)
  intro lp rv xs hx
  obtain ⟨hz, ha, hc⟩ := hd.recs
  obtain rfl : tot xs = at0 := by rw [← ha, ← hx]; simp [tot]; rfl
  have hxl : xs.map (·.2.1) = H.map chgsB := by rw [← hz, ← hx]; simp
  have hlen : xs.length = H.length := by have := congrArg List.length hxl; simpa using this
  have hxb : xs.length ≤ 4096 := by have h7 := (recs_le _ d.seen.flatten (Nat.le_refl _)).2; rw [flat_seen hd.ok.l2, hd.ok.len] at h7; have h8 := hd.ok.le; have h9 := congrArg List.length hx; simp at h9; omega
  rw [hc, hd.sync]
  refine WL.e e_move <| WL.e e_extract <| WL.e e_extract <| WL.e e_extract <| WL.e e_assign <| WL.e e_assign <| WL.e e_assign ?_
  refine WL.next ?_
  refine WP.seq ?_
  refine WP.seq ?_
  refine WP.reg ?_
  refine WL.e e_move <| WL.e e_neq ?_
  refine WL.next ?_
  refine WP.cond_f rfl ?_
  refine WP.skip ?_
  refine PO.next ?_
  refine WP.seq ?_
  refine WP.reg ?_
  refine WL.e e_move ?_
  refine WL.h (h_call (PNew_spec) k84 ?_)
  intro pp
  refine WL.h (h_makeMapB (ek := eU32) fun mb => ?_)
  refine WL.e (e_build z100 p100 (.o (.tmp 21) rfl <| .o (.tmp 22) rfl <| .o (.tmp 23) rfl <| .n)) ?_
  refine WL.h (h_box fun b1 => ?_)
  refine WL.e e_assign ?_
  refine WL.next ?_
  refine WP.seq ?_
  refine WP.seq ?_
  refine WP.reg ?_
  refine WL.e e_move ?_
  refine WL.e (el_len (xs := xs) sl155 sl_rl) <| WL.e e_move ?_
  refine WL.next ?_
  refine WP.block ?_
  refine WP.loopK (fun (i : Nat) => [(28, .int .i64 i)]) (fun (i : Nat) => cl b1 100 [.pointer (some ⟨lp, 0, none⟩), .pointer (some ⟨pp, 0, none⟩), .map (some mb)] :: cl lp 193 [.pointer (some ⟨dp, 0, none⟩), .int .i64 (tot xs)] :: Dk dp d :: Pa pp (H.take i) 0 :: Mp eU32 (.map (some mb)) ([] : List (UInt32 × Value)) :: Sl 114 1 recC rv.v xs :: RecsR xs :: R) [(7, _), (26, _), (27, _)] (fun (i : Nat) => i ≤ H.length) (fun (i : Nat) => H.length - i) 0 (Nat.zero_le _) ?_
  intro i hi
  refine WP.seq ?_
  refine WP.reg ?_
  refine WL.e e_lss ?_
  refine WL.next ?_
  refine WP.seq ?_
  refine WP.cond rfl (fun h1 => ?_) (fun h1 => ?_)
  · have hlt : i < xs.length := by rw [decide_eq_true_eq] at h1; omega
    obtain ⟨x, hxi⟩ : ∃ x, xs[i]? = some x := ⟨_, List.getElem?_eq_getElem hlt⟩
    obtain ⟨y, hy⟩ : ∃ y, H[i]? = some y := ⟨_, List.getElem?_eq_getElem (by omega)⟩
    have hxy : x.2.1 = chgsB y := by have := congrArg (·[i]?) hxl; simpa [hxi, hy] using this
    have hrl := recs_rl (List.mem_of_getElem? hxi)
    obtain ⟨hy1, hy2⟩ := hok y (List.mem_of_getElem? hy)
    refine WP.skip ?_
    refine PO.next ?_
    refine WP.seq ?_
    refine WP.block ?_
    refine WP.seq ?_
    refine WP.reg ?_
    refine WL.e (el_ia (j := i) (xs := xs) sl155 sl_rl hlt) ?_
    refine WL.e (el_load0 (j := i) (xs := xs) (a := x) a114 recCE sl_rl hxi) <| WL.e e_assign ?_
    refine WL.next ?_
    refine WP.seq ?_
    refine WP.reg ?_
    refine WL.e e_move ?_
    refine WL.h (h_call (GetChanges_spec (v := x.1) (l := y) hy1 hy2 (hxy ▸ hrl)) k82 ?_)
    intro a5 n5 c5
    refine WL.e e_move <| WL.e e_extract <| WL.e e_extract <| WL.e e_assign <| WL.e e_assign ?_
    refine WL.next ?_
    refine WP.seq ?_
    refine WP.seq ?_
    refine WP.reg ?_
    refine WL.e e_move <| WL.e e_eql ?_
    refine WL.next ?_
    refine WP.cond_t rfl ?_
    refine WP.reg ?_
    refine WL.e e_move <| WL.e e_nil <| WL.e (e_fa f100_1) <| WL.e (e_load a97) <| WL.e e_move ?_
    refine WL.h (h_call (PCommit_spec (p := pp) (H := H.take i) (trim := 0) (cs := y) (sl_rl (E := 108)) hy2 (by omega) (by rw [List.length_take]; omega)) k58 ?_)
    refine WL.e e_move <| WL.e e_extract <| WL.e e_extract <| WL.e e_assign ?_
    refine WL.next ?_
    refine WP.seq ?_
    refine WP.reg ?_
    refine WL.e e_move <| WL.e e_neq ?_
    refine WL.next ?_
    refine WP.cond_f rfl ?_
    refine WP.skip ?_
    refine PO.blockN ?_
    refine PO.next ?_
    refine WP.reg ?_
    refine WL.e (e_add rfl rfl (w_i64 (by omega) (by omega))) <| WL.e e_move ?_
    refine WL.nil ?_
    rw [← take_snoc hy]
    exact PO.againK (i + 1) (by omega) (by omega)
  · rw [List.take_of_length_le (show H.length ≤ i by rw [decide_eq_false_iff_not] at h1; omega)]
    refine WP.exit ?_
    refine PO.past nofun ?_
    refine PO.round nofun ?_
    refine PO.blockX ?_
    refine PO.next ?_
    refine WP.seq ?_
    refine WP.reg ?_
    refine WL.e e_move <| WL.e e_assign <| WL.e e_assign ?_
    refine WL.next ?_
    refine WP.ret ?_
    refine PO.conv (fun S h => TxsU_nil (TP := TPB) h) ?_
    refine PO.cls (A := Bs b1 dp (st0 d (tot xs) H)) (B := [cl b1 100 [.pointer (some ⟨lp, 0, none⟩), .pointer (some ⟨pp, 0, none⟩), .map (some mb)], cl lp 193 [.pointer (some ⟨dp, 0, none⟩), .int .i64 (tot xs)], Dk dp d, Pa pp (H) 0, Mp eU32 (.map (some mb)) ([] : List (UInt32 × Value))]) (fun S h => ⟨(lp, pp, mb), h⟩) ?_
    exact PO.fin Tryz.results44 (rv_tmp (rv_tmp rv_nil)) (hK b1)
end Go.SL
/- A store of transactions, in plain Lean: a few, one behind the other. -/
set_option linter.unusedSimpArgs false
set_option linter.unusedVariables false
set_option linter.unusedSectionVars false
namespace Go.SL
open Go
/-- What is known of a store that has done a few things. -/
structure AtS {I : Kind} (G : Good I) (s : StV) (ts : List TxT) (H : List (List ChgM)) (b : Nat) : Prop where
  ok : G.Ok s b
  txs : s.txs = ts
  his : s.H = H
  at_ : s.at_ ≤ 82 * H.length
section
variable {I : Kind} {G : Good I} {s : StV} {ts : List TxT} {H : List (List ChgM)} {b : Nat}
theorem AtS.first (h : G.Ok stF 0) : AtS G stF [] [] 0 := ⟨h, rfl, rfl, Nat.zero_le _⟩
theorem AtS.beg (h : AtS G s ts H b) (n : UInt32) (q : Nat) (h0 : n ≠ 0) (hf : findU ts n = none) (hl : ts.length < 32) :
    begE s n = 0 ∧ AtS G (begS s n q) (ts ++ [⟨n, q, ⟨UInt32.ofNat H.length, [], [], []⟩⟩]) H b := by
  have hE : begE s n = 0 := by
    unfold begE
    rw [if_neg h0, h.txs, hf]
    simp; omega
  refine ⟨hE, G.beg h.ok n q, ?_, ?_, ?_⟩ <;> rw [begS, if_pos hE]
  · show s.txs ++ [begT s n q] = _
    rw [h.txs, begT, h.his]
  · exact h.his
  · exact h.at_
theorem AtS.com (h : AtS G s ts H b) {n : UInt32} {t : TxT} (hf : findU ts n = some t) (hc : I.chk s t.x = false) (hl : t.x.own.length ≤ 80) (hH : H.length ≤ 10) (hb : b ≤ 1000) :
    comE I s n = 0 ∧ comN I s n = UInt32.ofNat H.length + 1 ∧ AtS G (comS I s n) (delU ts n) (H ++ [t.x.own]) (b + 1) := by
  have hok := G.ok h.ok
  have hf' : findU s.txs n = some t := by rw [h.txs]; exact hf
  have hcl := (chgs_len t.x.own).2 (hok.own t (findU_mem hf'))
  have hlen := chgsB_len t.x.own
  have hat := h.at_
  have hfit : fitsS s t.x := ⟨by omega, by rw [hok.log.len]; unfold secs; omega⟩
  have hE : comE I s n = 0 := by simp [comE, hf', hc, hfit]
  have hS2 : comS I s n = addS (I.ends s n) t.x.own := by simp [comS, hf', hc, hfit]
  obtain ⟨e1, e2, e3, e4⟩ := G.endsE h.ok n
  refine ⟨hE, by rw [comN, if_pos hE, h.his], G.com h.ok (by omega) n, ?_, ?_, ?_⟩
  · rw [hS2]; show (I.ends s n).txs = _; rw [e4, h.txs]
  · rw [hS2]; show (I.ends s n).H ++ _ = _; rw [e3, h.his]
  · rw [hS2]; show (I.ends s n).at_ + _ ≤ _; rw [e2, List.length_append, List.length_singleton]; unfold secs; omega
theorem AtS.comX (h : AtS G s ts H b) {n : UInt32} {t : TxT} (hf : findU ts n = some t) (hc : I.chk s t.x = true) (hb : b ≤ 1000) :
    comE I s n = 9 ∧ comN I s n = 0 ∧ AtS G (comS I s n) (delU ts n) H (b + 1) := by
  have hf' : findU s.txs n = some t := by rw [h.txs]; exact hf
  have hE : comE I s n = 9 := by simp [comE, hf', hc]
  have hS2 : comS I s n = I.ends s n := by simp [comS, hf', hc]
  obtain ⟨e1, e2, e3, e4⟩ := G.endsE h.ok n
  refine ⟨hE, by rw [comN, hE]; rfl, G.com h.ok (by omega) n, ?_, ?_, ?_⟩
  · rw [hS2, e4, h.txs]
  · rw [hS2, e3, h.his]
  · rw [hS2, e2]; exact h.at_
theorem AtS.rows (h : AtS G s ts H b) : s.rows = rowsN H H.length := by unfold StV.rows; rw [h.his]
theorem AtS.abo (h : AtS G s ts H b) {n : UInt32} {t : TxT} (hf : findU ts n = some t) : aboE s n = 0 ∧ AtS G (aboS I s n) (delU ts n) H b := by
  have hf' : findU s.txs n = some t := by rw [h.txs]; exact hf
  obtain ⟨e1, e2, e3, e4⟩ := G.endsE h.ok n
  have hS : aboS I s n = I.ends s n := by simp [aboS, hf']
  refine ⟨by simp [aboE, hf'], ?_⟩
  rw [hS]
  exact ⟨G.ends h.ok n, by rw [e4, h.txs], by rw [e3, h.his], by rw [e2]; exact h.at_⟩
theorem AtS.abo0 (h : AtS G s ts H b) {n : UInt32} (hf : findU ts n = none) : aboE s n = 6 ∧ aboS I s n = s := by
  have hf' : findU s.txs n = none := by rw [h.txs]; exact hf
  exact ⟨by simp [aboE, hf'], by simp [aboS, hf']⟩
end
theorem beg_zero (s : StV) (q : Nat) : begE s 0 = 1 ∧ begS s 0 q = s := by
  have h : begE s 0 = 1 := by simp [begE]
  exact ⟨h, by rw [begS, h]; rfl⟩
theorem put_first (k : ByteArray) (v : UInt32) : changeR [] [⟨k, v, false⟩] = [⟨k, v⟩] := rfl
theorem put_other (k : ByteArray) (v w : UInt32) : changeR [⟨k, v⟩] [⟨k, w, false⟩] = [⟨k, w⟩] := by
  show setR [⟨k, v⟩] k w = [⟨k, w⟩]
  have h1 : lowI [⟨k, v⟩] k = 0 := by simp [lowI, sLt_irrefl]
  have h2 : hasI [⟨k, v⟩] k = true := by simp [hasI, h1, sEq_iff]
  simp [setR, h1, h2]
theorem scan_one1 (k : ByteArray) (v : UInt32) (m : Nat) (hm : 1 ≤ m) : scanR [⟨k, v⟩] (one k) m = [⟨k, v⟩] := by
  have : inSpan (one k) k = true := by rw [← meet_one]; exact in_one k
  unfold scanR
  simp only [List.filter_cons, this, if_true, List.filter_nil]
  exact List.take_of_length_le (by simpa using hm)
theorem since_one (k : ByteArray) (v : UInt32) : sinceH [[⟨k, v, false⟩]] 0 (one k) = true := by
  have : inSpan (one k) k = true := by rw [← meet_one]; exact in_one k
  simp [sinceH, this]
theorem mod3 {x : UInt8} (h1 : ¬ x % 3 = 1) (h2 : ¬ x % 3 = 2) : x % 3 = 0 := by
  have h : (x % 3).toNat < 3 := by rw [UInt8.toNat_mod]; exact Nat.mod_lt _ (by decide)
  rw [← UInt8.toNat_inj] at h1 h2 ⊢
  have e1 : (1 : UInt8).toNat = 1 := rfl
  have e2 : (2 : UInt8).toNat = 2 := rfl
  have e0 : (0 : UInt8).toNat = 0 := rfl
  omega
def kK : ByteArray := ⟨#[107]⟩
theorem keyK : keyOk kK = true := by
  have h1 : sEq kK ⟨#[]⟩ = false := sEq_no (by simp [kK])
  have h2 : allR keyRune kK = true := by decide +kernel
  simp [keyOk, h1, h2]; decide
/-! the store that looks back -/
section
variable {s : StV} {ts : List TxT} {H : List (List ChgM)} {b : Nat}
theorem bet_first : BetOk stF 0 := ⟨st0_first, by decide, by intro t h; cases h⟩
theorem bet_again {s : StV} {b : Nat} (h : BetOk s b) : BetOk (st0 s.d s.at_ s.H) b := ⟨st0_ok h.st, Nat.zero_le _, by intro t h; cases h⟩
theorem VB_first : VB stF (ogD []) := by intro t h; cases h
theorem AtS.put (h : AtS betaG s ts H b) {n : UInt32} {t : TxT} (hf : findU ts n = some t) {k : ByteArray} (hk : keyOk k = true) (v : UInt32) (hb : b ≤ 1000) :
    ∃ s', doB s n (opPut k v) = .put s' ∧ AtS betaG s' (setU ts n { t.x with own := t.x.own ++ [⟨k, v, false⟩] }) H (b + 1) := by
  have hf' : findU s.txs n = some t := by rw [h.txs]; exact hf
  have e : doB s n (opPut k v) = .put { s with txs := setU s.txs n { t.x with own := t.x.own ++ [chgOf (opPut k v)] } } := by simp [doB, put_ok, hk, hf', w_put]
  refine ⟨_, e, ?_, ?_, h.his, h.at_⟩
  · obtain ⟨_, _, _, _, _, _, _, _, _, hok, _⟩ := betaG.put h.ok (by omega) e
    exact hok
  · show setU s.txs n _ = _
    rw [h.txs]; rfl
theorem AtS.get (h : AtS betaG s ts H b) {n : UInt32} {t : TxT} (hf : findU ts n = some t) {k : ByteArray} (hk : keyOk k = true) (hb : b ≤ 1000) :
    ∃ s', doB s n (opGet k) = .look s' (scanR (changeR (rowsN H t.x.at_.toNat) t.x.own) (one k) 256) ∧ AtS betaG s' (setU ts n { t.x with looked := t.x.looked ++ [one k] }) H (b + 1) := by
  have hf' : findU s.txs n = some t := by rw [h.txs]; exact hf
  have e : doB s n (opGet k) = .look { s with txs := setU s.txs n { t.x with looked := t.x.looked ++ [one k] } } (scanR (changeR (rowsN s.H t.x.at_.toNat) t.x.own) (one k) 256) := by simp [doB, get_ok, hk, hf', w_get, span_get]
  refine ⟨{ s with txs := setU s.txs n { t.x with looked := t.x.looked ++ [one k] } }, e.trans (by rw [show rowsN s.H t.x.at_.toNat = rowsN H t.x.at_.toNat by rw [h.his]]), ?_, ?_, h.his, h.at_⟩
  · obtain ⟨_, _, _, _, _, _, _, _, _, hok, _⟩ := betaG.look h.ok (by omega) e
    exact hok
  · show setU s.txs n _ = _
    rw [h.txs]
theorem AtS.chk (h : AtS betaG s ts H b) (x : TX) : betaI.chk s x = x.looked.any fun p => sinceH H x.at_.toNat p := by
  show chkB s x = _
  unfold chkB; rw [h.his]
theorem AtS.step (h : AtS betaG s ts H b) {n : UInt32} {t : TxT} (hf : findU ts n = some t) (hb : b ≤ 1000) (x : OpM) :
    (opOk x = false ∧ doB s n x = .err s 1) ∨ (opOk x = true ∧ writes x = true ∧ ∃ s', doB s n x = .put s' ∧ AtS betaG s' (setU ts n { t.x with own := t.x.own ++ [chgOf x] }) H (b + 1)) ∨
    (opOk x = true ∧ writes x = false ∧ ∃ s', doB s n x = .look s' (scanR (changeR (rowsN H t.x.at_.toNat) t.x.own) (spanOf x) 256) ∧ AtS betaG s' (setU ts n { t.x with looked := t.x.looked ++ [spanOf x] }) H (b + 1)) := by
  have hf' : findU s.txs n = some t := by rw [h.txs]; exact hf
  cases hx : opOk x with
  | false => exact .inl ⟨rfl, by unfold doB; rw [hx]; rfl⟩
  | true =>
    right
    cases hw : writes x with
    | true =>
      have e : doB s n x = .put { s with txs := setU s.txs n { t.x with own := t.x.own ++ [chgOf x] } } := by simp [doB, hx, hf', hw]
      refine .inl ⟨rfl, rfl, _, e, ?_, ?_, h.his, h.at_⟩
      · obtain ⟨_, _, _, _, _, _, _, _, _, hok, _⟩ := betaG.put h.ok (by omega) e
        exact hok
      · show setU s.txs n _ = _
        rw [h.txs]
    | false =>
      have e : doB s n x = .look { s with txs := setU s.txs n { t.x with looked := t.x.looked ++ [spanOf x] } } (scanR (changeR (rowsN s.H t.x.at_.toNat) t.x.own) (spanOf x) 256) := by simp [doB, hx, hf', hw]
      refine .inr ⟨rfl, rfl, { s with txs := setU s.txs n { t.x with looked := t.x.looked ++ [spanOf x] } }, e.trans (by rw [show rowsN s.H t.x.at_.toNat = rowsN H t.x.at_.toNat by rw [h.his]]), ?_, ?_, h.his, h.at_⟩
      · obtain ⟨_, _, _, _, _, _, _, _, _, hok, _⟩ := betaG.look h.ok (by omega) e
        exact hok
      · show setU s.txs n _ = _
        rw [h.txs]
theorem AtS.own_le (h : AtS betaG s ts H b) {t : TxT} (ht : t ∈ ts) : t.x.own.length ≤ b := by
  have := (betaG.ok h.ok).own_le (t := t) (by rw [h.txs]; exact ht); omega
/-- What is asked for again, after others. -/
abbrev tS (n : UInt32) (q : Nat) (a : UInt32) (L : List SpanM) (O : List ChgM) : TxT := ⟨n, q, ⟨a, L, O, []⟩⟩
theorem opScan_ok (p : SpanM) : writes (opScan p) = false ∧ spanOf (opScan p) = p := ⟨rfl, by simp [spanOf, opScan]⟩
/-- Where nothing of a span was changed, the rows of that span are the same. -/
theorem since_scan {H : List (List ChgM)} {a : Nat} {p : SpanM} (h : sinceH H a p = false) (m : Nat) : scanR (rowsN H a) p m = scanR (rowsN H H.length) p m := by
  have e : (rowsN H a).filter (fun r => inSpan p r.key) = (rowsN H H.length).filter fun r => inSpan p r.key := by
    refine rising_ext ((rowsN_rising _ _).sublist List.filter_sublist) ((rowsN_rising _ _).sublist List.filter_sublist) fun r => ?_
    simp only [List.mem_filter]
    constructor
    · rintro ⟨h1, h2⟩; exact ⟨(rows_since h r h2).1 h1, h2⟩
    · rintro ⟨h1, h2⟩; exact ⟨(rows_since h r h2).2 h1, h2⟩
  unfold scanR; rw [e]
theorem run_scan (rows : List RowM) (p : SpanM) : (runM rows [opScan p]).1 = [scanR rows p 256] := by
  have h := runM_snoc rows [] (opScan p)
  rw [List.nil_append] at h
  rw [h]
  simp [runM_nil, doneO, opScan]
theorem never_do (s : StV) (n : UInt32) (x : OpM) : match doB s n x with
    | .err s' e => (e = 1 ∨ e = 6) ∧ s' = s
    | .put s' => s'.txs.map (·.id) = s.txs.map (·.id)
    | .look s' _ => s'.txs.map (·.id) = s.txs.map (·.id) := by
  unfold doB
  cases opOk x with
  | false => exact ⟨.inl rfl, rfl⟩
  | true =>
    cases hf : findU s.txs n with
    | none => exact ⟨.inr rfl, rfl⟩
    | some t =>
      cases hw : writes x
      · exact setU_ids _ _ _
      · exact setU_ids _ _ _
end
end Go.SL
