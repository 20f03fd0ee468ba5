/- VW VX: rules and walks, several texts in one. -/
import Derived.Test.YtdpmpcoekkhceaaGreatQD19
import Derived.Test.YtdpmpcoekkhceaaGreatProg
import Derived.KernelRfl
set_option linter.unusedSimpArgs false
set_option linter.unusedVariables false
namespace Go.SL.VW
open Go Go.Proofs Go.SL
theorem a103 : aggOf Tryz.prog 103 = some none := by kernel_rfl
theorem a123 : aggOf Tryz.prog 123 = some none := by kernel_rfl
theorem a124 : aggOf Tryz.prog 124 = some none := by kernel_rfl
theorem a125 : aggOf Tryz.prog 125 = some none := by kernel_rfl
theorem a22 : aggOf Tryz.prog 22 = some none := by kernel_rfl
theorem a31 : aggOf Tryz.prog 31 = some (some 1) := by kernel_rfl
theorem a34 : aggOf Tryz.prog 34 = some none := by kernel_rfl
theorem a36 : aggOf Tryz.prog 36 = some (some 4) := by kernel_rfl
theorem a69 : aggOf Tryz.prog 69 = some (some 2) := by kernel_rfl
theorem a9 : aggOf Tryz.prog 9 = some none := by kernel_rfl
theorem f127_1 : fldOf Tryz.prog 127 1 = some 1 := by kernel_rfl
theorem f127_3 : fldOf Tryz.prog 127 3 = some 3 := by kernel_rfl
theorem f127_4 : fldOf Tryz.prog 127 4 = some 4 := by kernel_rfl
theorem f129_0 : fldOf Tryz.prog 129 0 = some 0 := by kernel_rfl
theorem f129_1 : fldOf Tryz.prog 129 1 = some 1 := by kernel_rfl
theorem f36_0 : fldOf Tryz.prog 36 0 = some 0 := by kernel_rfl
theorem f36_1 : fldOf Tryz.prog 36 1 = some 1 := by kernel_rfl
theorem f36_3 : fldOf Tryz.prog 36 3 = some 3 := by kernel_rfl
theorem k120 : callable Tryz.prog 120 = true := by kernel_rfl
theorem k48 : callable Tryz.prog 48 = true := by kernel_rfl
theorem k49 : callable Tryz.prog 49 = true := by kernel_rfl
theorem k61 : callable Tryz.prog 61 = true := by kernel_rfl
theorem k63 : callable Tryz.prog 63 = true := by kernel_rfl
theorem k64 : callable Tryz.prog 64 = true := by kernel_rfl
theorem k65 : callable Tryz.prog 65 = true := by kernel_rfl
theorem k66 : callable Tryz.prog 66 = true := by kernel_rfl
theorem k67 : callable Tryz.prog 67 = true := by kernel_rfl
theorem k68 : callable Tryz.prog 68 = true := by kernel_rfl
theorem k69 : callable Tryz.prog 69 = true := by kernel_rfl
theorem k70 : callable Tryz.prog 70 = true := by kernel_rfl
theorem mixedOk : Tryz.prog.follows .mixedOrders = true := by kernel_rfl
theorem p108 : placesOf Tryz.prog 108 = some [(0, 1), (1, 1), (2, 1)] := by kernel_rfl
theorem p31 : placesOf Tryz.prog 31 = some [(0, 1)] := by kernel_rfl
theorem pt122 : isPtr Tryz.prog 122 = true := by kernel_rfl
theorem s103 : szOf Tryz.prog 103 = some 1 := by kernel_rfl
theorem s31 : szOf Tryz.prog 31 = some 1 := by kernel_rfl
theorem s69 : szOf Tryz.prog 69 = some 2 := by kernel_rfl
theorem s82 : szOf Tryz.prog 82 = some 1 := by kernel_rfl
theorem sl103 : slOf Tryz.prog 103 = some (108, 3, 24) := by kernel_rfl
theorem z108 : zeroOf Tryz.prog 108 = some [.string .empty, .int .u32 0, .bool false] := by kernel_rfl
theorem z31 : zeroOf Tryz.prog 31 = some [.slice none 0 0] := by kernel_rfl
theorem z69 : zeroOf Tryz.prog 69 = some [.string .empty, .string .empty] := by kernel_rfl
theorem zz122 : (Tryz.prog.info? 122).bind (·.zero) = some (.pointer none) := by kernel_rfl
end Go.SL.VW
namespace Go.SL
open Go Go.Proofs VW
theorem Asees_spec {g : World} {A : HP} {p mp q : Nat} {l : List RowM} {cs : List ChgM} {u v1 v3 v4 v5 v6 : Value} (hA : RL A 3 ChgM.c u cs) (hl : Rising l) (hn : l.length + cs.length ≤ 68719476000) (hok : cs.any (fun c => !chgOk c) = false) : Spec Tryz.prog g 68 [.pointer (some ⟨p, 0, none⟩), .pointer (some ⟨q, 0, none⟩)] [cl p 127 [v1, .pointer (some ⟨mp, 0, none⟩), v3, v4, v5], Mm mp l, cl q 129 [u, v6], A] fun K R => (cs = [] → K (.pointer (some ⟨mp, 0, none⟩)) (cl p 127 [v1, .pointer (some ⟨mp, 0, none⟩), v3, v4, v5] :: Mm mp l :: cl q 129 [u, v6] :: A :: R)) ∧ (cs ≠ [] → ∀ z, K (.pointer (some ⟨z, 0, none⟩)) (Mm z (changeR l cs) :: cl p 127 [v1, .pointer (some ⟨mp, 0, none⟩), v3, v4, v5] :: Mm mp l :: cl q 129 [u, v6] :: A :: R)) := by
  refine Spec.intro Tryz.func68 rfl Tryz.ntmps68 rfl fun R K hK => ?_
  refine WP.seq ?_
  refine WP.reg ?_
  refine WL.e e_assign ?_
  refine WL.next ?_
  refine WP.seq ?_
  refine WP.reg ?_
  refine WL.e e_move <| WL.e e_nil <| WL.e (e_fa f127_1) <| WL.e (e_load a123) <| WL.e e_assign ?_
  refine WL.next ?_
  refine WP.seq ?_
  refine WP.seq ?_
  refine WP.reg ?_
  refine WL.e e_move <| WL.e e_nil <| WL.e (e_fa f129_0) <| WL.e (e_load a103) ?_
  refine WL.e (el_len (xs := cs) sl103 hA) <| WL.e e_gtr ?_
  refine WL.next ?_
  refine WP.cond rfl (fun h1 => ?_) (fun h1 => ?_)
  · have hne : cs ≠ [] := by rintro rfl; simp at h1
    refine WP.seq ?_
    refine WP.reg ?_
    refine WL.e e_move ?_
    refine WL.h (h_call (Twin_spec (l := l) (by omega)) k120 ?_)
    intro q2
    refine WL.e e_assign ?_
    refine WL.next ?_
    refine WP.reg ?_
    refine WL.e e_move <| WL.e e_move <| WL.e e_nil <| WL.e (e_fa f129_0) <| WL.e (e_load a103) ?_
    refine WL.h (h_call (Change_spec hA hl (by omega)) k70 ?_)
    refine ⟨fun hb => absurd hb (by rw [hok]; simp), fun _ => ?_⟩
    refine WL.next ?_
    refine WP.seq ?_
    refine WP.reg ?_
    refine WL.e e_move <| WL.e e_assign ?_
    refine WL.next ?_
    refine WP.ret ?_
    exact PO.fin Tryz.results68 (rv_tmp rv_nil) (hK.2 hne q2)
  · have hne : cs = [] := by cases cs with
      | nil => rfl
      | cons c cs => simp at h1
    refine WP.skip ?_
    refine PO.next ?_
    refine WP.seq ?_
    refine WP.reg ?_
    refine WL.e e_move <| WL.e e_assign ?_
    refine WL.next ?_
    refine WP.ret ?_
    exact PO.fin Tryz.results68 (rv_tmp rv_nil) (hK.1 hne)
set_option maxHeartbeats 4000000 in
theorem ADo_spec {g : World} {p dp b : Nat} {s : StV} (n : UInt32) (x : OpM) (hs : AlphaOk s b) : Spec Tryz.prog g 24 [.pointer (some ⟨p, 0, none⟩), .int .u32 n.toNat, x.v] [As p dp s, TxsU TPA s.txs] fun K R => match doA s n x with
      | .err s' e => K (.tuple #[.agg #[.slice none 0 0], .int .i64 e]) (As p dp s' :: TxsU TPA s'.txs :: R)
      | .put s' => K (.tuple #[.agg #[.slice none 0 0], .int .i64 0]) (As p dp s' :: TxsU TPA s'.txs :: R)
      | .look s' rows => ∀ a m c, K (.tuple #[.agg #[.slice a m c], .int .i64 0]) (Sl 40 2 RowM.c (.slice a m c) rows :: As p dp s' :: TxsU TPA s'.txs :: R) := by
  refine Spec.intro Tryz.func24 rfl Tryz.ntmps24 rfl fun R K hK => ?_
  refine WP.seq ?_
  refine WP.reg ?_
  refine WL.h (h_box fun b1 => ?_)
  refine WL.h (h_alloc z31 fun b2 => ?_)
  refine WL.e e_assign ?_
  refine WL.next ?_
  refine WP.seq ?_
  refine WP.block ?_
  refine WP.seq ?_
  refine WP.reg ?_
  refine WL.e e_move ?_
  refine WL.h (h_call (Athere_spec) k61 ?_)
  refine WL.e e_not <| WL.e e_assign ?_
  refine WL.next ?_
  refine WP.cond_f rfl ?_
  refine WP.seq ?_
  refine WP.reg ?_
  refine WL.e (e_loadN a36) ?_
  refine WL.h (h_call (opCheck_spec _) k48 ?_)
  refine WL.e e_not <| WL.e e_assign ?_
  refine WL.next ?_
  refine WP.cond rfl (fun h1 => ?_) (fun h1 => ?_)
  · replace h1 : opOk x = false := by simpa using h1
    rw [show doA s n x = .err s 1 by simp [doA, h1]] at hK
    refine WP.seq ?_
    refine WP.reg ?_
    refine WL.e (e_build z31 p31 (.z (.slice none 0 0) <| .n)) ?_
    refine WL.h' (h_store s31 ?_)
    refine WL.e e_assign ?_
    refine WL.next ?_
    refine WP.ret ?_
    refine PO.blockR ?_
    refine PO.past nofun ?_
    exact PO.fin Tryz.results24 (rv_cellN a31 (rv_tmp rv_nil)) hK
  · replace h1 : opOk x = true := by simpa using h1
    refine WP.opn (As_op (p := p) (dp := dp) (s := s)) fun x => ?_
    obtain ⟨lp, mp, kp, mb⟩ := x
    dsimp only
    refine WP.skip ?_
    refine PO.blockN ?_
    refine PO.next ?_
    refine WP.seq ?_
    refine WP.reg ?_
    refine WL.e e_move <| WL.e e_nil <| WL.e (e_fa f127_3) <| WL.e (e_load a124) <| WL.e e_move ?_
    refine WL.e (e_lookU (n := n) (ts := s.txs) Tryz.underlying124 (key_u32 Tryz.underlying22) zz122) <| WL.e e_assign ?_
    refine WL.next ?_
    refine WP.seq ?_
    refine WP.seq ?_
    refine WP.reg ?_
    refine WL.e e_move <| WL.e (e_peq pt122) ?_
    refine WL.next ?_
    refine WP.cond rfl (fun h2 => ?_) (fun h2 => ?_)
    · have hf : findU s.txs n = none := by simpa using h2
      rw [show doA s n x = .err s 6 by simp [doA, h1, hf]] at hK
      refine WP.seq ?_
      refine WP.reg ?_
      refine WL.e (e_build z31 p31 (.z (.slice none 0 0) <| .n)) ?_
      refine WL.h' (h_store s31 ?_)
      refine WL.e e_assign ?_
      refine WL.next ?_
      refine WP.ret ?_
      refine PO.past nofun ?_
      refine PO.cls (A := As p dp (s)) (B := [cl p 127 [.pointer (some ⟨lp, 0, none⟩), .pointer (some ⟨mp, 0, none⟩), .int .u32 (UInt32.ofNat s.H.length).toNat, .map (some mb), .pointer (some ⟨kp, 0, none⟩)], cl lp 193 [.pointer (some ⟨dp, 0, none⟩), .int .i64 s.at_], Dk dp s.d, Mm mp s.rows, Mp eU32 (.map (some mb)) (List.map kvU s.txs), Lk kp s.locks]) (fun S h => ⟨(lp, mp, kp, mb), h⟩) ?_
      exact PO.fin Tryz.results24 (rv_cellN a31 (rv_tmp rv_nil)) hK
    · obtain ⟨t, hf⟩ : ∃ t, findU s.txs n = some t := by cases e : findU s.txs n with
        | none => rw [e] at h2; cases h2
        | some t => exact ⟨t, rfl⟩
      rw [hf, Option.map_some]
      obtain ⟨hid, A, B, hts, hdel, _⟩ := findU_mid hf
      have hol := hs.st.own_le (findU_mem hf)
      have hrl := hs.st.rows_le
      have hbb := hs.st.bb
      have htot := hs.tot
      have hn0 : n ≠ 0 := hid ▸ hs.nz t (findU_mem hf)
      have hok : t.x.own.any (fun c => !chgOk c) = false := List.any_eq_false.2 fun c hc => by simp [hs.st.own t (findU_mem hf) c hc]
      have hset : ∀ y, setU s.txs n y = A ++ { t with x := y } :: B := fun y => by rw [← hid, hts]; exact setU_mid (hts ▸ hs.st.ids) y
      have hs0 := hs.waitsS hf [] (Nat.zero_le _)
      rw [hset] at hs0
      refine WP.opn (TxsU_out (TP := TPA) hts) fun _ => ?_
      refine WP.opn (TxA__op (t := t)) fun x => ?_
      obtain ⟨s1, s2⟩ := x
      dsimp only
      refine WP.skip ?_
      refine PO.next ?_
      refine WP.seq ?_
      refine WP.reg ?_
      refine WL.e e_move <| WL.e e_nil <| WL.e (e_fa f129_1) ?_
      refine WL.h' (h_store s82 ?_)
      refine WL.next ?_
      refine WP.seq ?_
      refine WP.seq ?_
      refine WP.reg ?_
      refine WL.e (e_loadN a36) ?_
      refine WL.h (h_call (Of_spec _) k49 ?_)
      refine WL.h (h_alloc z69 fun b3 => ?_)
      refine WL.h' (h_store s69 ?_)
      refine WL.next ?_
      refine WP.seq ?_
      refine WP.reg ?_
      refine WL.e (e_loadN a69) <| WL.e (e_loadN a69) ?_
      refine WL.h (h_call (Meet_spec ⟨_, _⟩ ⟨_, _⟩) k63 ?_)
      refine WL.next ?_
      refine WP.cond rfl (fun h3 => ?_) (fun h3 => ?_)
      · replace h3 : meet (spanOf x) (spanOf x) = true := h3
        refine WP.seq ?_
        refine WP.draws mixedOk 14 ?_
        refine RW.e 0 rfl e_move <| RW.e 1 rfl e_nil <| RW.e 2 rfl (e_fa f127_4) <| RW.e 3 rfl (e_load a125) <| RW.e 4 rfl e_move <| RW.e 5 rfl (e_loadN a69) <| RW.e 6 rfl (e_loadN a36) ?_
        refine RW.any (is := [7]) rfl ⟨?_, trivial⟩
        refine RWat.h rfl rfl rfl ?_
        refine (h_call (Writes_spec _) k65 ?_)
        refine ⟨⟨⟨_, rfl, .inl ⟨rfl, (e_loadN a69)⟩⟩, ⟨_, rfl, .inl ⟨rfl, e_move⟩⟩, ⟨_, rfl, .inl ⟨rfl, (e_load a125)⟩⟩, ⟨_, rfl, .inl ⟨rfl, (e_fa f127_4)⟩⟩, ⟨_, rfl, .inl ⟨rfl, e_nil⟩⟩, ⟨_, rfl, .inl ⟨rfl, e_move⟩⟩, trivial⟩, ?_⟩
        refine RW.any (is := [8]) rfl ⟨?_, trivial⟩
        refine RWat.h rfl rfl rfl ?_
        refine (h_call (LAsk_spec n (spanOf x) (writes x) hn0 h3 hs.keys (by omega)) k64 ?_)
        refine ⟨fun hw a9 k9 c9 => ?_, fun hw => ?_⟩
        · skip
          refine ⟨trivial, ?_⟩
          refine RW.e 9 rfl e_move <| RW.e 10 rfl e_extract <| RW.e 11 rfl e_extract <| RW.e 12 rfl e_assign <| RW.e 13 rfl e_assign ?_
          refine RW.done ?_
          refine PO.next ?_
          refine WP.seq ?_
          refine WP.reg ?_
          refine WL.e e_move <| WL.e e_neq ?_
          refine WL.next ?_
          refine WP.cond_t rfl ?_
          refine WP.seq ?_
          refine WP.seq ?_
          refine WP.reg ?_
          refine WL.e e_move <| WL.e e_move <| WL.e e_move ?_
          rw [show List.map kvU s.txs = List.map kvU (A ++ { t with x := { t.x with waits := [] } } :: B) by rw [hts]; simp [kvU]]
          refine WL.nils 22 1 u32C none ?_
          refine WL.cls (A := TxA_ { t with x := { t.x with waits := [] } }) (B := [cl t.q 129 [s1.v, .slice none 0 0], Sl 108 3 ChgM.c s1.v t.x.own, Sl 22 1 u32C (.slice none 0 0) []]) (fun S h => ⟨(s1, ⟨none, 0, 0⟩), h⟩) ?_
          refine WL.cls (A := TxsU TPA (A ++ { t with x := { t.x with waits := [] } } :: B)) (B := [TxA_ { t with x := { t.x with waits := [] } }, TxsU TPA (A ++ B)]) (fun S h => TxsU_in (TP := TPA) (t := { t with x := { t.x with waits := [] } }) S h) ?_
          refine WL.cls (A := As p dp ({ s with txs := A ++ { t with x := { t.x with waits := [] } } :: B })) (B := [cl p 127 [.pointer (some ⟨lp, 0, none⟩), .pointer (some ⟨mp, 0, none⟩), .int .u32 (UInt32.ofNat s.H.length).toNat, .map (some mb), .pointer (some ⟨kp, 0, none⟩)], cl lp 193 [.pointer (some ⟨dp, 0, none⟩), .int .i64 s.at_], Dk dp s.d, Mm mp s.rows, Mp eU32 (.map (some mb)) (List.map kvU (A ++ { t with x := { t.x with waits := [] } } :: B)), Lk kp s.locks]) (fun S h => ⟨(lp, mp, kp, mb), h⟩) ?_
          refine WL.h (h_call (ring_spec (p := p) (dp := dp) (way := wayL s.locks n (spanOf x) (writes x)) n hs0 sl_rl (Nat.le_trans (way_len s.locks n (spanOf x) (writes x)) (Nat.le_trans (totL_len s.locks) (by omega)))) k66 ?_)
          refine WL.next ?_
          refine WP.cond rfl (fun h5 => ?_) (fun h5 => ?_)
          · replace h5 : ringB (A ++ { t with x := { t.x with waits := [] } } :: B) n (wayL s.locks n (spanOf x) (writes x)) = true := h5
            rw [show doA s n x = .err (endsA { s with txs := A ++ { t with x := { t.x with waits := [] } } :: B } n) 9 by unfold doA; rw [h1, hf]; simp only [if_true, h3, hw, hset, h5, Bool.true_and, decide_true]] at hK
            refine WP.seq ?_
            refine WP.reg ?_
            refine WL.e e_move <| WL.e e_move ?_
            refine WL.h (h_call (Aends_spec n) k67 ?_)
            refine WL.next ?_
            refine WP.seq ?_
            refine WP.reg ?_
            refine WL.e (e_build z31 p31 (.z (.slice none 0 0) <| .n)) ?_
            refine WL.h' (h_store s31 ?_)
            refine WL.e e_assign ?_
            refine WL.next ?_
            refine WP.ret ?_
            refine PO.past nofun ?_
            refine PO.past nofun ?_
            refine PO.cls (A := TxsU TPA (delU (A ++ { t with x := { t.x with waits := [] } } :: B) n)) (B := [TxsU TPA (A ++ { t with x := { t.x with waits := [] } } :: B)]) (fun S h => TxsU_del (stars_h1U h)) ?_
            exact PO.fin Tryz.results24 (rv_cellN a31 (rv_tmp rv_nil)) hK
          · replace h5 : ringB (A ++ { t with x := { t.x with waits := [] } } :: B) n (wayL s.locks n (spanOf x) (writes x)) = false := h5
            rw [show doA s n x = .err { s with txs := A ++ { t with x := { t.x with waits := wayL s.locks n (spanOf x) (writes x) } } :: B } 8 by unfold doA; rw [h1, hf]; simp only [if_true, h3, hw, hset, h5, Bool.true_and, decide_true, if_false, Bool.false_eq_true]] at hK
            refine WP.opn (TxsU_out (TP := TPA) (ts := A ++ { t with x := { t.x with waits := [] } } :: B) rfl) fun _ => ?_
            refine WP.opn (TxA__op (t := { t with x := { t.x with waits := [] } })) fun x => ?_
            obtain ⟨s3, s4⟩ := x
            dsimp only
            refine WP.opn (As_op (p := p) (dp := dp) (s := { s with txs := A ++ { t with x := { t.x with waits := [] } } :: B })) fun x => ?_
            obtain ⟨lp, mp, kp, mb⟩ := x
            dsimp only
            refine WP.skip ?_
            refine PO.next ?_
            refine WP.seq ?_
            refine WP.reg ?_
            refine WL.e e_move <| WL.e e_move <| WL.e e_nil <| WL.e (e_fa f129_1) ?_
            refine WL.h' (h_store s82 ?_)
            refine WL.next ?_
            refine WP.seq ?_
            refine WP.reg ?_
            refine WL.e (e_build z31 p31 (.z (.slice none 0 0) <| .n)) ?_
            refine WL.h' (h_store s31 ?_)
            refine WL.e e_assign ?_
            refine WL.next ?_
            refine WP.ret ?_
            refine PO.past nofun ?_
            refine PO.conv (conv1 (A := Mp eU32 (.map (some mb)) (List.map kvU (A ++ { t with x := { t.x with waits := [] } } :: B))) (B := Mp eU32 (.map (some mb)) (List.map kvU (A ++ { t with x := { t.x with waits := wayL s.locks n (spanOf x) (writes x) } } :: B))) (fun S h => by simpa [kvU] using h) (by repeat first | exact .z | apply Put.s)) ?_
            refine PO.cls (A := TxA_ { t with x := { t.x with waits := wayL s.locks n (spanOf x) (writes x) } }) (B := [cl t.q 129 [s3.v, .slice a9 k9 c9], Sl 108 3 ChgM.c s3.v t.x.own, Sl 22 1 u32C (.slice a9 k9 c9) (wayL s.locks n (spanOf x) (writes x))]) (fun S h => ⟨(s3, ⟨a9, k9, c9⟩), h⟩) ?_
            refine PO.cls (A := TxsU TPA (A ++ { t with x := { t.x with waits := wayL s.locks n (spanOf x) (writes x) } } :: B)) (B := [TxA_ { t with x := { t.x with waits := wayL s.locks n (spanOf x) (writes x) } }, TxsU TPA (A ++ B)]) (fun S h => TxsU_in (TP := TPA) (t := { t with x := { t.x with waits := wayL s.locks n (spanOf x) (writes x) } }) S h) ?_
            refine PO.cls (A := As p dp ({ s with txs := A ++ { t with x := { t.x with waits := wayL s.locks n (spanOf x) (writes x) } } :: B })) (B := [cl p 127 [.pointer (some ⟨lp, 0, none⟩), .pointer (some ⟨mp, 0, none⟩), .int .u32 (UInt32.ofNat s.H.length).toNat, .map (some mb), .pointer (some ⟨kp, 0, none⟩)], cl lp 193 [.pointer (some ⟨dp, 0, none⟩), .int .i64 s.at_], Dk dp s.d, Mm mp s.rows, Mp eU32 (.map (some mb)) (List.map kvU (A ++ { t with x := { t.x with waits := wayL s.locks n (spanOf x) (writes x) } } :: B)), Lk kp s.locks]) (fun S h => ⟨(lp, mp, kp, mb), h⟩) ?_
            exact PO.fin Tryz.results24 (rv_cellN a31 (rv_tmp rv_nil)) hK
        · have hdo : doA s n x = if writes x then .put { s with locks := lockS s.locks n (spanOf x) (writes x), txs := setU s.txs n { t.x with own := t.x.own ++ [chgOf x], waits := [] } } else .look { s with locks := lockS s.locks n (spanOf x) (writes x), txs := setU s.txs n { t.x with waits := [] } } (scanR (changeR s.rows t.x.own) (spanOf x) 256) := by simp [doA, h1, hf, h3, hw]
          refine ⟨trivial, ?_⟩
          refine RW.e 9 rfl e_move <| RW.e 10 rfl e_extract <| RW.e 11 rfl e_extract <| RW.e 12 rfl e_assign <| RW.e 13 rfl e_assign ?_
          refine RW.done ?_
          refine PO.next ?_
          refine WP.seq ?_
          refine WP.reg ?_
          refine WL.e e_move <| WL.e e_neq ?_
          refine WL.next ?_
          refine WP.cond_f rfl ?_
          refine WP.skip ?_
          refine PO.next ?_
          refine WP.seq ?_
          refine WP.seq ?_
          refine WP.reg ?_
          refine WL.e (e_fa f36_0) <| WL.e (e_load a34) ?_
          refine WL.next ?_
          refine WP.block ?_
          refine WP.seq ?_
          refine WP.reg ?_
          refine WL.e (e_eql8 (b := 2)) <| WL.e e_assign ?_
          refine WL.next ?_
          refine WP.cond rfl (fun h6 => ?_) (fun h6 => ?_)
          · replace h6 : x.kind = 2 := by simpa using h6
            have hw : writes x = true := by simp [writes, h6]
            rw [hdo, if_pos hw, hset, show chgOf x = ⟨x.key, x.val, false⟩ by simp [chgOf, h6]] at hK
            dsimp only at hK
            refine WP.draws mixedOk 15 ?_
            refine RW.e 0 rfl e_move <| RW.e 1 rfl e_move <| RW.e 2 rfl e_nil <| RW.e 3 rfl (e_fa f129_0) <| RW.e 4 rfl (e_load a103) <| RW.e 5 rfl (e_fa f36_1) <| RW.e 6 rfl (e_load a9) <| RW.e 7 rfl (e_fa f36_3) <| RW.e 8 rfl (e_load a22) <| RW.e 9 rfl (e_build z108 p108 (.o (.tmp 83) rfl <| .o (.tmp 85) rfl <| .z (.bool false) <| .n)) ?_
            refine RW.any (is := [10]) rfl ⟨?_, trivial⟩
            refine RWat.h rfl rfl rfl ?_
            refine (h_bs sl103 z108 (.a3 (.tmp 86) rfl <| .n) fun b4 => ?_)
            refine ⟨⟨⟨_, rfl, .inl ⟨rfl, (e_load a103)⟩⟩, ⟨_, rfl, .inl ⟨rfl, (e_fa f129_0)⟩⟩, ⟨_, rfl, .inl ⟨rfl, e_nil⟩⟩, ⟨_, rfl, .inl ⟨rfl, e_move⟩⟩, ⟨_, rfl, .inl ⟨rfl, e_move⟩⟩, trivial⟩, ?_⟩
            refine RW.any (is := [11]) rfl ⟨?_, trivial⟩
            refine RWat.h rfl rfl rfl ?_
            refine (hl_append (xs := t.x.own) (ys := [⟨x.key, x.val, false⟩]) sl103 chgE z108 (lit_rl chgE [⟨x.key, x.val, false⟩] rfl) (by simp; omega) (fun a5 n5 c5 => ?_))
            refine ⟨⟨⟨_, rfl, .inl ⟨rfl, e_move⟩⟩, trivial⟩, ?_⟩
            refine RW.e 12 rfl e_nil <| RW.e 13 rfl (e_fa f129_0) ?_
            refine RW.any (is := [14]) rfl ⟨?_, trivial⟩
            refine RWat.h' rfl rfl rfl ?_
            refine (h_store s103 ?_)
            refine ⟨trivial, ?_⟩
            refine RW.done ?_
            refine PO.blockN ?_
            refine PO.next ?_
            refine WP.seq ?_
            refine WP.reg ?_
            refine WL.e (e_build z31 p31 (.z (.slice none 0 0) <| .n)) ?_
            refine WL.h' (h_store s31 ?_)
            refine WL.e e_assign ?_
            refine WL.next ?_
            refine WP.ret ?_
            rw [show List.map kvU s.txs = List.map kvU (A ++ { t with x := { t.x with own := t.x.own ++ [⟨x.key, x.val, false⟩], waits := [] } } :: B) by rw [hts]; simp [kvU]]
            refine PO.nils 22 1 u32C none ?_
            refine PO.cls (A := TxA_ { t with x := { t.x with own := t.x.own ++ [⟨x.key, x.val, false⟩], waits := [] } }) (B := [cl t.q 129 [(.slice a5 n5 c5), .slice none 0 0], Sl 108 3 ChgM.c (.slice a5 n5 c5) (t.x.own ++ [⟨x.key, x.val, false⟩]), Sl 22 1 u32C (.slice none 0 0) []]) (fun S h => ⟨((⟨a5, n5, c5⟩ : SV), ⟨none, 0, 0⟩), h⟩) ?_
            refine PO.cls (A := TxsU TPA (A ++ { t with x := { t.x with own := t.x.own ++ [⟨x.key, x.val, false⟩], waits := [] } } :: B)) (B := [TxA_ { t with x := { t.x with own := t.x.own ++ [⟨x.key, x.val, false⟩], waits := [] } }, TxsU TPA (A ++ B)]) (fun S h => TxsU_in (TP := TPA) (t := { t with x := { t.x with own := t.x.own ++ [⟨x.key, x.val, false⟩], waits := [] } }) S h) ?_
            refine PO.cls (A := As p dp ({ s with locks := lockS s.locks n (spanOf x) (writes x), txs := A ++ { t with x := { t.x with own := t.x.own ++ [⟨x.key, x.val, false⟩], waits := [] } } :: B })) (B := [cl p 127 [.pointer (some ⟨lp, 0, none⟩), .pointer (some ⟨mp, 0, none⟩), .int .u32 (UInt32.ofNat s.H.length).toNat, .map (some mb), .pointer (some ⟨kp, 0, none⟩)], cl lp 193 [.pointer (some ⟨dp, 0, none⟩), .int .i64 s.at_], Dk dp s.d, Mm mp s.rows, Mp eU32 (.map (some mb)) (List.map kvU (A ++ { t with x := { t.x with own := t.x.own ++ [⟨x.key, x.val, false⟩], waits := [] } } :: B)), Lk kp (lockS s.locks n (spanOf x) (writes x))]) (fun S h => ⟨(lp, mp, kp, mb), h⟩) ?_
            exact PO.fin Tryz.results24 (rv_cellN a31 (rv_tmp rv_nil)) hK
          · replace h6 : x.kind ≠ 2 := by simpa using h6
            refine WP.seq ?_
            refine WP.reg ?_
            refine WL.e (e_eql8 (b := 3)) <| WL.e e_assign ?_
            refine WL.next ?_
            refine WP.cond rfl (fun h7 => ?_) (fun h7 => ?_)
            · replace h7 : x.kind = 3 := by simpa using h7
              have hw : writes x = true := by simp [writes, h7]
              rw [hdo, if_pos hw, hset, show chgOf x = ⟨x.key, 0, true⟩ by simp [chgOf, h7]] at hK
              dsimp only at hK
              refine WP.draws mixedOk 13 ?_
              refine RW.e 0 rfl e_move <| RW.e 1 rfl e_move <| RW.e 2 rfl e_nil <| RW.e 3 rfl (e_fa f129_0) <| RW.e 4 rfl (e_load a103) <| RW.e 5 rfl (e_fa f36_1) <| RW.e 6 rfl (e_load a9) <| RW.e 7 rfl (e_build z108 p108 (.o (.tmp 99) rfl <| .z (.int .u32 0) <| .o (.const (.bool true)) rfl <| .n)) ?_
              refine RW.any (is := [8]) rfl ⟨?_, trivial⟩
              refine RWat.h rfl rfl rfl ?_
              refine (h_bs sl103 z108 (.a3 (.tmp 100) rfl <| .n) fun b5 => ?_)
              refine ⟨⟨⟨_, rfl, .inl ⟨rfl, (e_load a103)⟩⟩, ⟨_, rfl, .inl ⟨rfl, (e_fa f129_0)⟩⟩, ⟨_, rfl, .inl ⟨rfl, e_nil⟩⟩, ⟨_, rfl, .inl ⟨rfl, e_move⟩⟩, ⟨_, rfl, .inl ⟨rfl, e_move⟩⟩, trivial⟩, ?_⟩
              refine RW.any (is := [9]) rfl ⟨?_, trivial⟩
              refine RWat.h rfl rfl rfl ?_
              refine (hl_append (xs := t.x.own) (ys := [⟨x.key, 0, true⟩]) sl103 chgE z108 (lit_rl chgE [⟨x.key, 0, true⟩] rfl) (by simp; omega) (fun a5 n5 c5 => ?_))
              refine ⟨⟨⟨_, rfl, .inl ⟨rfl, e_move⟩⟩, trivial⟩, ?_⟩
              refine RW.e 10 rfl e_nil <| RW.e 11 rfl (e_fa f129_0) ?_
              refine RW.any (is := [12]) rfl ⟨?_, trivial⟩
              refine RWat.h' rfl rfl rfl ?_
              refine (h_store s103 ?_)
              refine ⟨trivial, ?_⟩
              refine RW.done ?_
              refine PO.blockN ?_
              refine PO.next ?_
              refine WP.seq ?_
              refine WP.reg ?_
              refine WL.e (e_build z31 p31 (.z (.slice none 0 0) <| .n)) ?_
              refine WL.h' (h_store s31 ?_)
              refine WL.e e_assign ?_
              refine WL.next ?_
              refine WP.ret ?_
              rw [show List.map kvU s.txs = List.map kvU (A ++ { t with x := { t.x with own := t.x.own ++ [⟨x.key, 0, true⟩], waits := [] } } :: B) by rw [hts]; simp [kvU]]
              refine PO.nils 22 1 u32C none ?_
              refine PO.cls (A := TxA_ { t with x := { t.x with own := t.x.own ++ [⟨x.key, 0, true⟩], waits := [] } }) (B := [cl t.q 129 [(.slice a5 n5 c5), .slice none 0 0], Sl 108 3 ChgM.c (.slice a5 n5 c5) (t.x.own ++ [⟨x.key, 0, true⟩]), Sl 22 1 u32C (.slice none 0 0) []]) (fun S h => ⟨((⟨a5, n5, c5⟩ : SV), ⟨none, 0, 0⟩), h⟩) ?_
              refine PO.cls (A := TxsU TPA (A ++ { t with x := { t.x with own := t.x.own ++ [⟨x.key, 0, true⟩], waits := [] } } :: B)) (B := [TxA_ { t with x := { t.x with own := t.x.own ++ [⟨x.key, 0, true⟩], waits := [] } }, TxsU TPA (A ++ B)]) (fun S h => TxsU_in (TP := TPA) (t := { t with x := { t.x with own := t.x.own ++ [⟨x.key, 0, true⟩], waits := [] } }) S h) ?_
              refine PO.cls (A := As p dp ({ s with locks := lockS s.locks n (spanOf x) (writes x), txs := A ++ { t with x := { t.x with own := t.x.own ++ [⟨x.key, 0, true⟩], waits := [] } } :: B })) (B := [cl p 127 [.pointer (some ⟨lp, 0, none⟩), .pointer (some ⟨mp, 0, none⟩), .int .u32 (UInt32.ofNat s.H.length).toNat, .map (some mb), .pointer (some ⟨kp, 0, none⟩)], cl lp 193 [.pointer (some ⟨dp, 0, none⟩), .int .i64 s.at_], Dk dp s.d, Mm mp s.rows, Mp eU32 (.map (some mb)) (List.map kvU (A ++ { t with x := { t.x with own := t.x.own ++ [⟨x.key, 0, true⟩], waits := [] } } :: B)), Lk kp (lockS s.locks n (spanOf x) (writes x))]) (fun S h => ⟨(lp, mp, kp, mb), h⟩) ?_
              exact PO.fin Tryz.results24 (rv_cellN a31 (rv_tmp rv_nil)) hK
            · replace h7 : x.kind ≠ 3 := by simpa using h7
              have hw : writes x = false := by simp [writes, h6, h7]
              rw [hdo, if_neg (by rw [hw]; decide), hset] at hK
              dsimp only at hK
              refine WP.seq ?_
              refine WP.draws mixedOk 9 ?_
              refine RW.e 0 rfl e_move <| RW.e 1 rfl e_move <| RW.e 3 rfl (e_loadN a36) ?_
              refine RW.any (is := [2]) rfl ⟨?_, trivial⟩
              refine RWat.h rfl rfl rfl ?_
              refine (h_call (Asees_spec (p := p) (mp := mp) (q := t.q) (l := s.rows) (cs := t.x.own) sl_rl s.rising (by omega) hok) k68 ?_)
              refine ⟨fun he => ?_, fun _ z => ?_⟩
              · rw [show changeR s.rows t.x.own = s.rows by rw [he]; rfl] at hK
                refine ⟨⟨⟨_, rfl, .inl ⟨rfl, (e_loadN a36)⟩⟩, trivial⟩, ?_⟩
                refine RW.any (is := [4]) rfl ⟨?_, trivial⟩
                refine RWat.h rfl rfl rfl ?_
                refine (h_call (Of_spec _) k49 ?_)
                refine ⟨trivial, ?_⟩
                refine RW.any (is := [5]) rfl ⟨?_, trivial⟩
                refine RWat.h rfl rfl rfl ?_
                refine (h_call (Scan_spec (l := s.rows) (spanOf x) 256 s.rising (by omega) (by decide)) k69 ?_)
                intro a8 m8 c8
                refine ⟨trivial, ?_⟩
                refine RW.e 6 rfl (e_build z31 p31 (.o (.tmp 73) rfl <| .n)) ?_
                refine RW.any (is := [7]) rfl ⟨?_, trivial⟩
                refine RWat.h' rfl rfl rfl ?_
                refine (h_store s31 ?_)
                refine ⟨trivial, ?_⟩
                refine RW.e 8 rfl e_assign ?_
                refine RW.done ?_
                refine PO.next ?_
                refine WP.ret ?_
                refine PO.blockR ?_
                refine PO.past nofun ?_
                rw [show List.map kvU s.txs = List.map kvU (A ++ { t with x := { t.x with own := t.x.own, waits := [] } } :: B) by rw [hts]; simp [kvU]]
                refine PO.nils 22 1 u32C none ?_
                refine PO.cls (A := TxA_ { t with x := { t.x with own := t.x.own, waits := [] } }) (B := [cl t.q 129 [s1.v, .slice none 0 0], Sl 108 3 ChgM.c s1.v (t.x.own), Sl 22 1 u32C (.slice none 0 0) []]) (fun S h => ⟨(s1, ⟨none, 0, 0⟩), h⟩) ?_
                refine PO.cls (A := TxsU TPA (A ++ { t with x := { t.x with own := t.x.own, waits := [] } } :: B)) (B := [TxA_ { t with x := { t.x with own := t.x.own, waits := [] } }, TxsU TPA (A ++ B)]) (fun S h => TxsU_in (TP := TPA) (t := { t with x := { t.x with own := t.x.own, waits := [] } }) S h) ?_
                refine PO.cls (A := As p dp ({ s with locks := lockS s.locks n (spanOf x) (writes x), txs := A ++ { t with x := { t.x with own := t.x.own, waits := [] } } :: B })) (B := [cl p 127 [.pointer (some ⟨lp, 0, none⟩), .pointer (some ⟨mp, 0, none⟩), .int .u32 (UInt32.ofNat s.H.length).toNat, .map (some mb), .pointer (some ⟨kp, 0, none⟩)], cl lp 193 [.pointer (some ⟨dp, 0, none⟩), .int .i64 s.at_], Dk dp s.d, Mm mp s.rows, Mp eU32 (.map (some mb)) (List.map kvU (A ++ { t with x := { t.x with own := t.x.own, waits := [] } } :: B)), Lk kp (lockS s.locks n (spanOf x) (writes x))]) (fun S h => ⟨(lp, mp, kp, mb), h⟩) ?_
                exact PO.fin Tryz.results24 (rv_cellN a31 (rv_tmp rv_nil)) (hK a8 m8 c8)
              · skip
                refine ⟨⟨⟨_, rfl, .inl ⟨rfl, (e_loadN a36)⟩⟩, trivial⟩, ?_⟩
                refine RW.any (is := [4]) rfl ⟨?_, trivial⟩
                refine RWat.h rfl rfl rfl ?_
                refine (h_call (Of_spec _) k49 ?_)
                refine ⟨trivial, ?_⟩
                refine RW.any (is := [5]) rfl ⟨?_, trivial⟩
                refine RWat.h rfl rfl rfl ?_
                refine (h_call (Scan_spec (l := changeR s.rows t.x.own) (spanOf x) 256 (changeR_rising _ s.rising).1 (by have := (changeR_rising t.x.own s.rising).2; omega) (by decide)) k69 ?_)
                intro a8 m8 c8
                refine ⟨trivial, ?_⟩
                refine RW.e 6 rfl (e_build z31 p31 (.o (.tmp 73) rfl <| .n)) ?_
                refine RW.any (is := [7]) rfl ⟨?_, trivial⟩
                refine RWat.h' rfl rfl rfl ?_
                refine (h_store s31 ?_)
                refine ⟨trivial, ?_⟩
                refine RW.e 8 rfl e_assign ?_
                refine RW.done ?_
                refine PO.next ?_
                refine WP.ret ?_
                refine PO.blockR ?_
                refine PO.past nofun ?_
                rw [show List.map kvU s.txs = List.map kvU (A ++ { t with x := { t.x with own := t.x.own, waits := [] } } :: B) by rw [hts]; simp [kvU]]
                refine PO.nils 22 1 u32C none ?_
                refine PO.cls (A := TxA_ { t with x := { t.x with own := t.x.own, waits := [] } }) (B := [cl t.q 129 [s1.v, .slice none 0 0], Sl 108 3 ChgM.c s1.v (t.x.own), Sl 22 1 u32C (.slice none 0 0) []]) (fun S h => ⟨(s1, ⟨none, 0, 0⟩), h⟩) ?_
                refine PO.cls (A := TxsU TPA (A ++ { t with x := { t.x with own := t.x.own, waits := [] } } :: B)) (B := [TxA_ { t with x := { t.x with own := t.x.own, waits := [] } }, TxsU TPA (A ++ B)]) (fun S h => TxsU_in (TP := TPA) (t := { t with x := { t.x with own := t.x.own, waits := [] } }) S h) ?_
                refine PO.cls (A := As p dp ({ s with locks := lockS s.locks n (spanOf x) (writes x), txs := A ++ { t with x := { t.x with own := t.x.own, waits := [] } } :: B })) (B := [cl p 127 [.pointer (some ⟨lp, 0, none⟩), .pointer (some ⟨mp, 0, none⟩), .int .u32 (UInt32.ofNat s.H.length).toNat, .map (some mb), .pointer (some ⟨kp, 0, none⟩)], cl lp 193 [.pointer (some ⟨dp, 0, none⟩), .int .i64 s.at_], Dk dp s.d, Mm mp s.rows, Mp eU32 (.map (some mb)) (List.map kvU (A ++ { t with x := { t.x with own := t.x.own, waits := [] } } :: B)), Lk kp (lockS s.locks n (spanOf x) (writes x))]) (fun S h => ⟨(lp, mp, kp, mb), h⟩) ?_
                exact PO.fin Tryz.results24 (rv_cellN a31 (rv_tmp rv_nil)) (hK a8 m8 c8)
      · replace h3 : meet (spanOf x) (spanOf x) = false := h3
        have hdo : doA s n x = if writes x then .put { s with locks := s.locks, txs := setU s.txs n { t.x with own := t.x.own ++ [chgOf x], waits := [] } } else .look { s with locks := s.locks, txs := setU s.txs n { t.x with waits := [] } } (scanR (changeR s.rows t.x.own) (spanOf x) 256) := by simp [doA, h1, hf, h3]
        refine WP.skip ?_
        refine PO.next ?_
        refine WP.seq ?_
        refine WP.seq ?_
        refine WP.reg ?_
        refine WL.e (e_fa f36_0) <| WL.e (e_load a34) ?_
        refine WL.next ?_
        refine WP.block ?_
        refine WP.seq ?_
        refine WP.reg ?_
        refine WL.e (e_eql8 (b := 2)) <| WL.e e_assign ?_
        refine WL.next ?_
        refine WP.cond rfl (fun h6 => ?_) (fun h6 => ?_)
        · replace h6 : x.kind = 2 := by simpa using h6
          have hw : writes x = true := by simp [writes, h6]
          rw [hdo, if_pos hw, hset, show chgOf x = ⟨x.key, x.val, false⟩ by simp [chgOf, h6]] at hK
          dsimp only at hK
          refine WP.draws mixedOk 15 ?_
          refine RW.e 0 rfl e_move <| RW.e 1 rfl e_move <| RW.e 2 rfl e_nil <| RW.e 3 rfl (e_fa f129_0) <| RW.e 4 rfl (e_load a103) <| RW.e 5 rfl (e_fa f36_1) <| RW.e 6 rfl (e_load a9) <| RW.e 7 rfl (e_fa f36_3) <| RW.e 8 rfl (e_load a22) <| RW.e 9 rfl (e_build z108 p108 (.o (.tmp 83) rfl <| .o (.tmp 85) rfl <| .z (.bool false) <| .n)) ?_
          refine RW.any (is := [10]) rfl ⟨?_, trivial⟩
          refine RWat.h rfl rfl rfl ?_
          refine (h_bs sl103 z108 (.a3 (.tmp 86) rfl <| .n) fun b6 => ?_)
          refine ⟨⟨⟨_, rfl, .inl ⟨rfl, (e_load a103)⟩⟩, ⟨_, rfl, .inl ⟨rfl, (e_fa f129_0)⟩⟩, ⟨_, rfl, .inl ⟨rfl, e_nil⟩⟩, ⟨_, rfl, .inl ⟨rfl, e_move⟩⟩, ⟨_, rfl, .inl ⟨rfl, e_move⟩⟩, trivial⟩, ?_⟩
          refine RW.any (is := [11]) rfl ⟨?_, trivial⟩
          refine RWat.h rfl rfl rfl ?_
          refine (hl_append (xs := t.x.own) (ys := [⟨x.key, x.val, false⟩]) sl103 chgE z108 (lit_rl chgE [⟨x.key, x.val, false⟩] rfl) (by simp; omega) (fun a5 n5 c5 => ?_))
          refine ⟨⟨⟨_, rfl, .inl ⟨rfl, e_move⟩⟩, trivial⟩, ?_⟩
          refine RW.e 12 rfl e_nil <| RW.e 13 rfl (e_fa f129_0) ?_
          refine RW.any (is := [14]) rfl ⟨?_, trivial⟩
          refine RWat.h' rfl rfl rfl ?_
          refine (h_store s103 ?_)
          refine ⟨trivial, ?_⟩
          refine RW.done ?_
          refine PO.blockN ?_
          refine PO.next ?_
          refine WP.seq ?_
          refine WP.reg ?_
          refine WL.e (e_build z31 p31 (.z (.slice none 0 0) <| .n)) ?_
          refine WL.h' (h_store s31 ?_)
          refine WL.e e_assign ?_
          refine WL.next ?_
          refine WP.ret ?_
          rw [show List.map kvU s.txs = List.map kvU (A ++ { t with x := { t.x with own := t.x.own ++ [⟨x.key, x.val, false⟩], waits := [] } } :: B) by rw [hts]; simp [kvU]]
          refine PO.nils 22 1 u32C none ?_
          refine PO.cls (A := TxA_ { t with x := { t.x with own := t.x.own ++ [⟨x.key, x.val, false⟩], waits := [] } }) (B := [cl t.q 129 [(.slice a5 n5 c5), .slice none 0 0], Sl 108 3 ChgM.c (.slice a5 n5 c5) (t.x.own ++ [⟨x.key, x.val, false⟩]), Sl 22 1 u32C (.slice none 0 0) []]) (fun S h => ⟨((⟨a5, n5, c5⟩ : SV), ⟨none, 0, 0⟩), h⟩) ?_
          refine PO.cls (A := TxsU TPA (A ++ { t with x := { t.x with own := t.x.own ++ [⟨x.key, x.val, false⟩], waits := [] } } :: B)) (B := [TxA_ { t with x := { t.x with own := t.x.own ++ [⟨x.key, x.val, false⟩], waits := [] } }, TxsU TPA (A ++ B)]) (fun S h => TxsU_in (TP := TPA) (t := { t with x := { t.x with own := t.x.own ++ [⟨x.key, x.val, false⟩], waits := [] } }) S h) ?_
          refine PO.cls (A := As p dp ({ s with locks := s.locks, txs := A ++ { t with x := { t.x with own := t.x.own ++ [⟨x.key, x.val, false⟩], waits := [] } } :: B })) (B := [cl p 127 [.pointer (some ⟨lp, 0, none⟩), .pointer (some ⟨mp, 0, none⟩), .int .u32 (UInt32.ofNat s.H.length).toNat, .map (some mb), .pointer (some ⟨kp, 0, none⟩)], cl lp 193 [.pointer (some ⟨dp, 0, none⟩), .int .i64 s.at_], Dk dp s.d, Mm mp s.rows, Mp eU32 (.map (some mb)) (List.map kvU (A ++ { t with x := { t.x with own := t.x.own ++ [⟨x.key, x.val, false⟩], waits := [] } } :: B)), Lk kp (s.locks)]) (fun S h => ⟨(lp, mp, kp, mb), h⟩) ?_
          exact PO.fin Tryz.results24 (rv_cellN a31 (rv_tmp rv_nil)) hK
        · replace h6 : x.kind ≠ 2 := by simpa using h6
          refine WP.seq ?_
          refine WP.reg ?_
          refine WL.e (e_eql8 (b := 3)) <| WL.e e_assign ?_
          refine WL.next ?_
          refine WP.cond rfl (fun h7 => ?_) (fun h7 => ?_)
          · replace h7 : x.kind = 3 := by simpa using h7
            have hw : writes x = true := by simp [writes, h7]
            rw [hdo, if_pos hw, hset, show chgOf x = ⟨x.key, 0, true⟩ by simp [chgOf, h7]] at hK
            dsimp only at hK
            refine WP.draws mixedOk 13 ?_
            refine RW.e 0 rfl e_move <| RW.e 1 rfl e_move <| RW.e 2 rfl e_nil <| RW.e 3 rfl (e_fa f129_0) <| RW.e 4 rfl (e_load a103) <| RW.e 5 rfl (e_fa f36_1) <| RW.e 6 rfl (e_load a9) <| RW.e 7 rfl (e_build z108 p108 (.o (.tmp 99) rfl <| .z (.int .u32 0) <| .o (.const (.bool true)) rfl <| .n)) ?_
            refine RW.any (is := [8]) rfl ⟨?_, trivial⟩
            refine RWat.h rfl rfl rfl ?_
            refine (h_bs sl103 z108 (.a3 (.tmp 100) rfl <| .n) fun b7 => ?_)
            refine ⟨⟨⟨_, rfl, .inl ⟨rfl, (e_load a103)⟩⟩, ⟨_, rfl, .inl ⟨rfl, (e_fa f129_0)⟩⟩, ⟨_, rfl, .inl ⟨rfl, e_nil⟩⟩, ⟨_, rfl, .inl ⟨rfl, e_move⟩⟩, ⟨_, rfl, .inl ⟨rfl, e_move⟩⟩, trivial⟩, ?_⟩
            refine RW.any (is := [9]) rfl ⟨?_, trivial⟩
            refine RWat.h rfl rfl rfl ?_
            refine (hl_append (xs := t.x.own) (ys := [⟨x.key, 0, true⟩]) sl103 chgE z108 (lit_rl chgE [⟨x.key, 0, true⟩] rfl) (by simp; omega) (fun a5 n5 c5 => ?_))
            refine ⟨⟨⟨_, rfl, .inl ⟨rfl, e_move⟩⟩, trivial⟩, ?_⟩
            refine RW.e 10 rfl e_nil <| RW.e 11 rfl (e_fa f129_0) ?_
            refine RW.any (is := [12]) rfl ⟨?_, trivial⟩
            refine RWat.h' rfl rfl rfl ?_
            refine (h_store s103 ?_)
            refine ⟨trivial, ?_⟩
            refine RW.done ?_
            refine PO.blockN ?_
            refine PO.next ?_
            refine WP.seq ?_
            refine WP.reg ?_
            refine WL.e (e_build z31 p31 (.z (.slice none 0 0) <| .n)) ?_
            refine WL.h' (h_store s31 ?_)
            refine WL.e e_assign ?_
            refine WL.next ?_
            refine WP.ret ?_
            rw [show List.map kvU s.txs = List.map kvU (A ++ { t with x := { t.x with own := t.x.own ++ [⟨x.key, 0, true⟩], waits := [] } } :: B) by rw [hts]; simp [kvU]]
            refine PO.nils 22 1 u32C none ?_
            refine PO.cls (A := TxA_ { t with x := { t.x with own := t.x.own ++ [⟨x.key, 0, true⟩], waits := [] } }) (B := [cl t.q 129 [(.slice a5 n5 c5), .slice none 0 0], Sl 108 3 ChgM.c (.slice a5 n5 c5) (t.x.own ++ [⟨x.key, 0, true⟩]), Sl 22 1 u32C (.slice none 0 0) []]) (fun S h => ⟨((⟨a5, n5, c5⟩ : SV), ⟨none, 0, 0⟩), h⟩) ?_
            refine PO.cls (A := TxsU TPA (A ++ { t with x := { t.x with own := t.x.own ++ [⟨x.key, 0, true⟩], waits := [] } } :: B)) (B := [TxA_ { t with x := { t.x with own := t.x.own ++ [⟨x.key, 0, true⟩], waits := [] } }, TxsU TPA (A ++ B)]) (fun S h => TxsU_in (TP := TPA) (t := { t with x := { t.x with own := t.x.own ++ [⟨x.key, 0, true⟩], waits := [] } }) S h) ?_
            refine PO.cls (A := As p dp ({ s with locks := s.locks, txs := A ++ { t with x := { t.x with own := t.x.own ++ [⟨x.key, 0, true⟩], waits := [] } } :: B })) (B := [cl p 127 [.pointer (some ⟨lp, 0, none⟩), .pointer (some ⟨mp, 0, none⟩), .int .u32 (UInt32.ofNat s.H.length).toNat, .map (some mb), .pointer (some ⟨kp, 0, none⟩)], cl lp 193 [.pointer (some ⟨dp, 0, none⟩), .int .i64 s.at_], Dk dp s.d, Mm mp s.rows, Mp eU32 (.map (some mb)) (List.map kvU (A ++ { t with x := { t.x with own := t.x.own ++ [⟨x.key, 0, true⟩], waits := [] } } :: B)), Lk kp (s.locks)]) (fun S h => ⟨(lp, mp, kp, mb), h⟩) ?_
            exact PO.fin Tryz.results24 (rv_cellN a31 (rv_tmp rv_nil)) hK
          · replace h7 : x.kind ≠ 3 := by simpa using h7
            have hw : writes x = false := by simp [writes, h6, h7]
            rw [hdo, if_neg (by rw [hw]; decide), hset] at hK
            dsimp only at hK
            refine WP.seq ?_
            refine WP.draws mixedOk 9 ?_
            refine RW.e 0 rfl e_move <| RW.e 1 rfl e_move <| RW.e 3 rfl (e_loadN a36) ?_
            refine RW.any (is := [2]) rfl ⟨?_, trivial⟩
            refine RWat.h rfl rfl rfl ?_
            refine (h_call (Asees_spec (p := p) (mp := mp) (q := t.q) (l := s.rows) (cs := t.x.own) sl_rl s.rising (by omega) hok) k68 ?_)
            refine ⟨fun he => ?_, fun _ z => ?_⟩
            · rw [show changeR s.rows t.x.own = s.rows by rw [he]; rfl] at hK
              refine ⟨⟨⟨_, rfl, .inl ⟨rfl, (e_loadN a36)⟩⟩, trivial⟩, ?_⟩
              refine RW.any (is := [4]) rfl ⟨?_, trivial⟩
              refine RWat.h rfl rfl rfl ?_
              refine (h_call (Of_spec _) k49 ?_)
              refine ⟨trivial, ?_⟩
              refine RW.any (is := [5]) rfl ⟨?_, trivial⟩
              refine RWat.h rfl rfl rfl ?_
              refine (h_call (Scan_spec (l := s.rows) (spanOf x) 256 s.rising (by omega) (by decide)) k69 ?_)
              intro a8 m8 c8
              refine ⟨trivial, ?_⟩
              refine RW.e 6 rfl (e_build z31 p31 (.o (.tmp 73) rfl <| .n)) ?_
              refine RW.any (is := [7]) rfl ⟨?_, trivial⟩
              refine RWat.h' rfl rfl rfl ?_
              refine (h_store s31 ?_)
              refine ⟨trivial, ?_⟩
              refine RW.e 8 rfl e_assign ?_
              refine RW.done ?_
              refine PO.next ?_
              refine WP.ret ?_
              refine PO.blockR ?_
              refine PO.past nofun ?_
              rw [show List.map kvU s.txs = List.map kvU (A ++ { t with x := { t.x with own := t.x.own, waits := [] } } :: B) by rw [hts]; simp [kvU]]
              refine PO.nils 22 1 u32C none ?_
              refine PO.cls (A := TxA_ { t with x := { t.x with own := t.x.own, waits := [] } }) (B := [cl t.q 129 [s1.v, .slice none 0 0], Sl 108 3 ChgM.c s1.v (t.x.own), Sl 22 1 u32C (.slice none 0 0) []]) (fun S h => ⟨(s1, ⟨none, 0, 0⟩), h⟩) ?_
              refine PO.cls (A := TxsU TPA (A ++ { t with x := { t.x with own := t.x.own, waits := [] } } :: B)) (B := [TxA_ { t with x := { t.x with own := t.x.own, waits := [] } }, TxsU TPA (A ++ B)]) (fun S h => TxsU_in (TP := TPA) (t := { t with x := { t.x with own := t.x.own, waits := [] } }) S h) ?_
              refine PO.cls (A := As p dp ({ s with locks := s.locks, txs := A ++ { t with x := { t.x with own := t.x.own, waits := [] } } :: B })) (B := [cl p 127 [.pointer (some ⟨lp, 0, none⟩), .pointer (some ⟨mp, 0, none⟩), .int .u32 (UInt32.ofNat s.H.length).toNat, .map (some mb), .pointer (some ⟨kp, 0, none⟩)], cl lp 193 [.pointer (some ⟨dp, 0, none⟩), .int .i64 s.at_], Dk dp s.d, Mm mp s.rows, Mp eU32 (.map (some mb)) (List.map kvU (A ++ { t with x := { t.x with own := t.x.own, waits := [] } } :: B)), Lk kp (s.locks)]) (fun S h => ⟨(lp, mp, kp, mb), h⟩) ?_
              exact PO.fin Tryz.results24 (rv_cellN a31 (rv_tmp rv_nil)) (hK a8 m8 c8)
            · skip
              refine ⟨⟨⟨_, rfl, .inl ⟨rfl, (e_loadN a36)⟩⟩, trivial⟩, ?_⟩
              refine RW.any (is := [4]) rfl ⟨?_, trivial⟩
              refine RWat.h rfl rfl rfl ?_
              refine (h_call (Of_spec _) k49 ?_)
              refine ⟨trivial, ?_⟩
              refine RW.any (is := [5]) rfl ⟨?_, trivial⟩
              refine RWat.h rfl rfl rfl ?_
              refine (h_call (Scan_spec (l := changeR s.rows t.x.own) (spanOf x) 256 (changeR_rising _ s.rising).1 (by have := (changeR_rising t.x.own s.rising).2; omega) (by decide)) k69 ?_)
              intro a8 m8 c8
              refine ⟨trivial, ?_⟩
              refine RW.e 6 rfl (e_build z31 p31 (.o (.tmp 73) rfl <| .n)) ?_
              refine RW.any (is := [7]) rfl ⟨?_, trivial⟩
              refine RWat.h' rfl rfl rfl ?_
              refine (h_store s31 ?_)
              refine ⟨trivial, ?_⟩
              refine RW.e 8 rfl e_assign ?_
              refine RW.done ?_
              refine PO.next ?_
              refine WP.ret ?_
              refine PO.blockR ?_
              refine PO.past nofun ?_
              rw [show List.map kvU s.txs = List.map kvU (A ++ { t with x := { t.x with own := t.x.own, waits := [] } } :: B) by rw [hts]; simp [kvU]]
              refine PO.nils 22 1 u32C none ?_
              refine PO.cls (A := TxA_ { t with x := { t.x with own := t.x.own, waits := [] } }) (B := [cl t.q 129 [s1.v, .slice none 0 0], Sl 108 3 ChgM.c s1.v (t.x.own), Sl 22 1 u32C (.slice none 0 0) []]) (fun S h => ⟨(s1, ⟨none, 0, 0⟩), h⟩) ?_
              refine PO.cls (A := TxsU TPA (A ++ { t with x := { t.x with own := t.x.own, waits := [] } } :: B)) (B := [TxA_ { t with x := { t.x with own := t.x.own, waits := [] } }, TxsU TPA (A ++ B)]) (fun S h => TxsU_in (TP := TPA) (t := { t with x := { t.x with own := t.x.own, waits := [] } }) S h) ?_
              refine PO.cls (A := As p dp ({ s with locks := s.locks, txs := A ++ { t with x := { t.x with own := t.x.own, waits := [] } } :: B })) (B := [cl p 127 [.pointer (some ⟨lp, 0, none⟩), .pointer (some ⟨mp, 0, none⟩), .int .u32 (UInt32.ofNat s.H.length).toNat, .map (some mb), .pointer (some ⟨kp, 0, none⟩)], cl lp 193 [.pointer (some ⟨dp, 0, none⟩), .int .i64 s.at_], Dk dp s.d, Mm mp s.rows, Mp eU32 (.map (some mb)) (List.map kvU (A ++ { t with x := { t.x with own := t.x.own, waits := [] } } :: B)), Lk kp (s.locks)]) (fun S h => ⟨(lp, mp, kp, mb), h⟩) ?_
              exact PO.fin Tryz.results24 (rv_cellN a31 (rv_tmp rv_nil)) (hK a8 m8 c8)
end Go.SL
set_option linter.unusedSimpArgs false
set_option linter.unusedVariables false
namespace Go.SL.VX
open Go Go.Proofs Go.SL
theorem a103 : aggOf Tryz.prog 103 = some none := by kernel_rfl
theorem a123 : aggOf Tryz.prog 123 = some none := by kernel_rfl
theorem a124 : aggOf Tryz.prog 124 = some none := by kernel_rfl
theorem a22 : aggOf Tryz.prog 22 = some none := by kernel_rfl
theorem a96 : aggOf Tryz.prog 96 = some none := by kernel_rfl
theorem f127_0 : fldOf Tryz.prog 127 0 = some 0 := by kernel_rfl
theorem f127_1 : fldOf Tryz.prog 127 1 = some 1 := by kernel_rfl
theorem f127_2 : fldOf Tryz.prog 127 2 = some 2 := by kernel_rfl
theorem f127_3 : fldOf Tryz.prog 127 3 = some 3 := by kernel_rfl
theorem f129_0 : fldOf Tryz.prog 129 0 = some 0 := by kernel_rfl
theorem k55 : callable Tryz.prog 55 = true := by kernel_rfl
theorem k56 : callable Tryz.prog 56 = true := by kernel_rfl
theorem k57 : callable Tryz.prog 57 = true := by kernel_rfl
theorem k61 : callable Tryz.prog 61 = true := by kernel_rfl
theorem k67 : callable Tryz.prog 67 = true := by kernel_rfl
theorem k70 : callable Tryz.prog 70 = true := by kernel_rfl
theorem mixedOk : Tryz.prog.follows .mixedOrders = true := by kernel_rfl
theorem pt122 : isPtr Tryz.prog 122 = true := by kernel_rfl
theorem s22 : szOf Tryz.prog 22 = some 1 := by kernel_rfl
theorem zz122 : (Tryz.prog.info? 122).bind (·.zero) = some (.pointer none) := by kernel_rfl
end Go.SL.VX
namespace Go.SL
open Go Go.Proofs VX
theorem split_app : ∀ (A B : List HP), Split (A ++ B) A B
  | [], B => .nil
  | a :: A, B => .cons .z (split_app A B)
theorem PO.finDS {P : Program} {g : World} {L : List HP} {fn : Func} {K : Value → List HP → Prop} {e : Exit} {n : Nat} {l : List (Nat × Value)} {rs : List ResultVar} {vs : List Value} {f : FuncId} {args : List Value} {Pre R : List HP} {T : (Value → List HP → Prop) → List HP → Prop} (hs : SpecD P g f args Pre T) (hf : callable P f = true)
    (hr : fn.results = rs.toArray) (hv : ∀ M, RV P g ⟨n, [], l⟩ M rs vs) (hK : T (fun _ M => K (tupOf vs) M) R)
    (hL : Sub L (Pre ++ R) := by repeat first | exact .refl | exact Pick.z | apply Pick.s | apply Sub.cons | apply Sub.drop) (he : e = .ret ∨ e = .normal := by first | exact .inl rfl | exact .inr rfl) : PO g (RP P g fn K) e ⟨n, [dfr f args], l⟩ L := by
  have h : PO g (RP P g fn K) e ⟨n, [dfr f args], l⟩ (Pre ++ R) := PO.finD hs hf hr hv hK ?hL he
  case hL => exact split_app Pre R
  exact fun a w ha hw => h a w ha (hw.conv fun _ => hL.to)
set_option maxHeartbeats 4000000 in
theorem ACommit_spec {g : World} {p dp b : Nat} {s : StV} (n : UInt32) (hs : AlphaOk s b) (hb1 : b + 1 ≤ 1000000000) : Spec Tryz.prog g 26 [.pointer (some ⟨p, 0, none⟩), .int .u32 n.toNat] [As p dp s, TxsU TPA s.txs] fun K R => K (.tuple #[.int .u32 (comN alphaI s n).toNat, .int .i64 (comE alphaI s n)]) (As p dp (comS alphaI s n) :: TxsU TPA (comS alphaI s n).txs :: R) := by
  refine Spec.intro Tryz.func26 rfl Tryz.ntmps26 rfl fun R K hK => ?_
  refine WP.seq ?_
  refine WP.reg ?_
  refine WL.e e_assign <| WL.e e_assign ?_
  refine WL.next ?_
  refine WP.seq ?_
  refine WP.seq ?_
  refine WP.reg ?_
  refine WL.e e_move ?_
  refine WL.h (h_call (Athere_spec) k61 ?_)
  refine WL.e e_not ?_
  refine WL.next ?_
  refine WP.cond_f rfl ?_
  refine WP.opn (As_op (p := p) (dp := dp) (s := s)) fun x => ?_
  obtain ⟨lp, mp, kp, mb⟩ := x
  dsimp only
  refine WP.skip ?_
  refine PO.next ?_
  refine WP.seq ?_
  refine WP.reg ?_
  refine WL.e e_move <| WL.e e_nil <| WL.e (e_fa f127_3) <| WL.e (e_load a124) <| WL.e e_move ?_
  refine WL.e (e_lookU (n := n) (ts := s.txs) Tryz.underlying124 (key_u32 Tryz.underlying22) zz122) <| WL.e e_assign ?_
  refine WL.next ?_
  refine WP.seq ?_
  refine WP.seq ?_
  refine WP.reg ?_
  refine WL.e e_move <| WL.e (e_peq pt122) ?_
  refine WL.next ?_
  refine WP.cond rfl (fun h2 => ?_) (fun h2 => ?_)
  · have hf : findU s.txs n = none := by simpa using h2
    rw [show comE alphaI s n = 6 by simp [comE, hf], show comN alphaI s n = 0 by simp [comN, comE, hf], show comS alphaI s n = s by simp [comS, hf]] at hK
    refine WP.seq ?_
    refine WP.reg ?_
    refine WL.e e_assign <| WL.e e_assign ?_
    refine WL.next ?_
    refine WP.ret ?_
    refine PO.past nofun ?_
    refine PO.cls (A := As p dp (s)) (B := [cl p 127 [.pointer (some ⟨lp, 0, none⟩), .pointer (some ⟨mp, 0, none⟩), .int .u32 (UInt32.ofNat s.H.length).toNat, .map (some mb), .pointer (some ⟨kp, 0, none⟩)], cl lp 193 [.pointer (some ⟨dp, 0, none⟩), .int .i64 s.at_], Dk dp s.d, Mm mp s.rows, Mp eU32 (.map (some mb)) (List.map kvU s.txs), Lk kp s.locks]) (fun S h => ⟨(lp, mp, kp, mb), h⟩) ?_
    exact PO.fin Tryz.results26 (rv_tmp (rv_tmp rv_nil)) hK
  · obtain ⟨t, hf⟩ : ∃ t, findU s.txs n = some t := by cases e : findU s.txs n with
      | none => rw [e] at h2; cases h2
      | some t => exact ⟨t, rfl⟩
    rw [hf, Option.map_some]
    obtain ⟨hid, A, B, hts, hdel, _⟩ := findU_mid hf
    refine WP.opn (TxsU_out (TP := TPA) hts) fun _ => ?_
    refine WP.opn (TxA__op (t := t)) fun x => ?_
    obtain ⟨s1, s2⟩ := x
    dsimp only
    rw [← hdel]
    have hck : alphaI.chk s t.x = false := rfl
    have hol := hs.st.own_le (findU_mem hf)
    have hrw := hs.st.rows_le
    have hbb := hs.st.bb
    have hhl := hs.st.hl
    have hcl := chgs_len t.x.own
    have hok := hs.st.own t (findU_mem hf)
    have hcl2 := hcl.2 hok
    have hall : t.x.own.all chgOk = true := List.all_eq_true.2 hok
    have hany : t.x.own.any (fun c => !chgOk c) = false := List.any_eq_false.2 fun c hc => by simp [hok c hc]
    have hrl := chgsB_len t.x.own
    have hdk := hs.st.log
    refine WP.skip ?_
    refine PO.next ?_
    refine WP.seq ?_
    refine WP.reg ?_
    refine WL.e e_move <| WL.e e_move ?_
    refine WL.defer ?_
    refine WL.next ?_
    refine WP.seq ?_
    refine WP.reg ?_
    refine WL.e e_move <| WL.e e_nil <| WL.e (e_fa f129_0) <| WL.e (e_load a103) ?_
    refine WL.h (h_call (PutChanges_spec (u := s1.v) (sl_rl (xs := t.x.own)) (by omega) (by omega)) k55 ?_)
    refine ⟨fun hb => absurd hb (by rw [hall]; simp), fun _ hle => ?_, fun _ hle a3 n3 c3 => ?_⟩
    · have hnf : ¬ fitsS s t.x := not_fitsS hle
      rw [show comE alphaI s n = 5 by simp [comE, hf, hck, hnf], show comN alphaI s n = 0 by simp [comN, comE, hf, hck, hnf], show comS alphaI s n = endsA s n by simp only [comS, hf, hck, hnf, if_false, Bool.false_eq_true]; rfl] at hK
      refine WL.e e_move <| WL.e e_extract <| WL.e e_extract <| WL.e e_assign <| WL.e e_assign ?_
      refine WL.next ?_
      refine WP.seq ?_
      refine WP.seq ?_
      refine WP.reg ?_
      refine WL.e e_move <| WL.e e_neq <| WL.e e_move ?_
      refine WL.bool 32 rfl (fun hg => ?_) (fun hg => ?_)
      · skip
        refine WL.skip <| WL.skip <| WL.skip <| WL.skip <| WL.skip <| WL.skip <| WL.skip <| WL.e e_pick_t ?_
        refine WL.next ?_
        refine WP.cond_t rfl ?_
        refine WP.seq ?_
        refine WP.reg ?_
        refine WL.e e_assign <| WL.e e_assign ?_
        refine WL.next ?_
        refine WP.ret ?_
        refine PO.past nofun ?_
        refine PO.cls (A := As p dp (s)) (B := [cl p 127 [.pointer (some ⟨lp, 0, none⟩), .pointer (some ⟨mp, 0, none⟩), .int .u32 (UInt32.ofNat s.H.length).toNat, .map (some mb), .pointer (some ⟨kp, 0, none⟩)], cl lp 193 [.pointer (some ⟨dp, 0, none⟩), .int .i64 s.at_], Dk dp s.d, Mm mp s.rows, Mp eU32 (.map (some mb)) (List.map kvU s.txs), Lk kp s.locks]) (fun S h => ⟨(lp, mp, kp, mb), h⟩) ?_
        exact PO.finDS (AendsD_spec n) k67 Tryz.results26 (fun M => (rv_tmp (rv_tmp rv_nil))) hK
      · exact absurd hg (by decide) -- end
    · skip
      refine WL.e e_move <| WL.e e_extract <| WL.e e_extract <| WL.e e_assign <| WL.e e_assign ?_
      refine WL.next ?_
      refine WP.seq ?_
      refine WP.seq ?_
      refine WP.reg ?_
      refine WL.e e_move <| WL.e e_neq <| WL.e e_move ?_
      refine WL.bool 32 rfl (fun hg => ?_) (fun hg => ?_)
      · exact absurd hg (by decide) -- end
      · skip
        refine WL.e e_move <| WL.e e_nil <| WL.e (e_fa f127_0) <| WL.e (e_load a96) <| WL.e e_move ?_
        refine WL.h (h_call (Add_spec (i := s.at_) (d := s.d) (sl_rl (xs := chgsB t.x.own)) hdk.ok (by have := hdk.le; have := hdk.len; omega) (by rw [hdk.waits]; simp)) k56 ?_)
        refine ⟨fun h => ?_, fun h h' => ?_, fun h h' => ?_⟩
        · have hnf : ¬ fitsS s t.x := fun hf => absurd hf.1 (by omega)
          rw [show comE alphaI s n = 5 by simp [comE, hf, hck, hnf], show comN alphaI s n = 0 by simp [comN, comE, hf, hck, hnf], show comS alphaI s n = endsA s n by simp only [comS, hf, hck, hnf, if_false, Bool.false_eq_true]; rfl] at hK
          refine WL.e e_neq <| WL.e e_pick_f ?_
          refine WL.next ?_
          refine WP.cond_t rfl ?_
          refine WP.seq ?_
          refine WP.reg ?_
          refine WL.e e_assign <| WL.e e_assign ?_
          refine WL.next ?_
          refine WP.ret ?_
          refine PO.past nofun ?_
          refine PO.cls (A := As p dp (s)) (B := [cl p 127 [.pointer (some ⟨lp, 0, none⟩), .pointer (some ⟨mp, 0, none⟩), .int .u32 (UInt32.ofNat s.H.length).toNat, .map (some mb), .pointer (some ⟨kp, 0, none⟩)], cl lp 193 [.pointer (some ⟨dp, 0, none⟩), .int .i64 s.at_], Dk dp s.d, Mm mp s.rows, Mp eU32 (.map (some mb)) (List.map kvU s.txs), Lk kp s.locks]) (fun S h => ⟨(lp, mp, kp, mb), h⟩) ?_
          exact PO.finDS (AendsD_spec n) k67 Tryz.results26 (fun M => (rv_tmp (rv_tmp rv_nil))) hK
        · have hnf : ¬ fitsS s t.x := fun hf => absurd hf.2 (by omega)
          rw [show comE alphaI s n = 5 by simp [comE, hf, hck, hnf], show comN alphaI s n = 0 by simp [comN, comE, hf, hck, hnf], show comS alphaI s n = endsA s n by simp only [comS, hf, hck, hnf, if_false, Bool.false_eq_true]; rfl] at hK
          refine WL.e e_neq <| WL.e e_pick_f ?_
          refine WL.next ?_
          refine WP.cond_t rfl ?_
          refine WP.seq ?_
          refine WP.reg ?_
          refine WL.e e_assign <| WL.e e_assign ?_
          refine WL.next ?_
          refine WP.ret ?_
          refine PO.past nofun ?_
          refine PO.cls (A := As p dp (s)) (B := [cl p 127 [.pointer (some ⟨lp, 0, none⟩), .pointer (some ⟨mp, 0, none⟩), .int .u32 (UInt32.ofNat s.H.length).toNat, .map (some mb), .pointer (some ⟨kp, 0, none⟩)], cl lp 193 [.pointer (some ⟨dp, 0, none⟩), .int .i64 s.at_], Dk dp s.d, Mm mp s.rows, Mp eU32 (.map (some mb)) (List.map kvU s.txs), Lk kp s.locks]) (fun S h => ⟨(lp, mp, kp, mb), h⟩) ?_
          exact PO.finDS (AendsD_spec n) k67 Tryz.results26 (fun M => (rv_tmp (rv_tmp rv_nil))) hK
        · have hfit : fitsS s t.x := ⟨h, h'⟩
          refine WL.e e_neq <| WL.e e_pick_f ?_
          refine WL.next ?_
          refine WP.cond_f rfl ?_
          refine WP.skip ?_
          refine PO.next ?_
          refine WP.seq ?_
          refine WP.reg ?_
          refine WL.e e_move <| WL.e e_nil <| WL.e (e_fa f127_0) <| WL.e (e_load a96) ?_
          refine WL.h (h_call (Force_spec (d := (addW s.d s.at_ (frame (chgsB t.x.own)) (secs (chgsB t.x.own).length))) (addW_ok _ _ _ _ hdk.ok)) k57 ?_)
          refine WL.next ?_
          refine WP.seq ?_
          refine WP.draws mixedOk 9 ?_
          refine RW.e 0 rfl e_move <| RW.e 1 rfl e_nil <| RW.e 2 rfl (e_fa f127_1) <| RW.e 3 rfl (e_load a123) <| RW.e 4 rfl e_move <| RW.e 5 rfl e_nil <| RW.e 6 rfl (e_fa f129_0) <| RW.e 7 rfl (e_load a103) ?_
          refine RW.any (is := [8]) rfl ⟨?_, trivial⟩
          refine RWat.h rfl rfl rfl ?_
          refine (h_call (Change_spec (l := s.rows) (cs := t.x.own) (sl_rl (E := 108) (u := s1.v)) s.rising (by omega)) k70 ?_)
          refine ⟨fun hb => absurd hb (by rw [hany]; simp), fun _ => ?_⟩
          refine ⟨trivial, ?_⟩
          refine RW.done ?_
          refine PO.next ?_
          refine WP.seq ?_
          refine WP.reg ?_
          refine WL.e e_move <| WL.e e_nil <| WL.e (e_fa f127_2) <| WL.e (e_load a22) <| WL.e (e_add32 (b := 1)) <| WL.e e_nil <| WL.e (e_fa f127_2) ?_
          refine WL.h' (h_store s22 ?_)
          refine WL.next ?_
          refine WP.seq ?_
          refine WP.reg ?_
          refine WL.e e_move <| WL.e e_nil <| WL.e (e_fa f127_2) <| WL.e (e_load a22) <| WL.e e_assign <| WL.e e_assign ?_
          refine WL.next ?_
          refine WP.ret ?_
          have hln : UInt32.ofNat s.H.length + 1 = UInt32.ofNat (s.H ++ [t.x.own]).length := by rw [List.length_append]; simp [UInt32.ofNat_add]
          rw [show comE alphaI s n = 0 by simp [comE, hf, hck, hfit], show comN alphaI s n = UInt32.ofNat s.H.length + 1 by simp [comN, comE, hf, hck, hfit], show comS alphaI s n = endsA (addS s t.x.own) n by simp only [comS, hf, hck, hfit, if_true, if_false, Bool.false_eq_true]; rfl] at hK
          rw [show changeR s.rows t.x.own = (addS s t.x.own).rows from (addS_rows s t.x.own).symm]
          rw [hln] at hK ⊢
          refine PO.cls (A := As p dp (addS s t.x.own)) (B := [cl p 127 [.pointer (some ⟨lp, 0, none⟩), .pointer (some ⟨mp, 0, none⟩), .int .u32 (UInt32.ofNat (s.H ++ [t.x.own]).length).toNat, .map (some mb), .pointer (some ⟨kp, 0, none⟩)], cl lp 193 [.pointer (some ⟨dp, 0, none⟩), .int .i64 (s.at_ + secs (chgsB t.x.own).length : Nat)], Dk dp (addW s.d s.at_ (frame (chgsB t.x.own)) (secs (chgsB t.x.own).length)).sync, Mm mp (addS s t.x.own).rows, Mp eU32 (.map (some mb)) (List.map kvU s.txs), Lk kp s.locks]) (fun S h => ⟨(lp, mp, kp, mb), h⟩) ?_
          exact PO.finDS (AendsD_spec n) k67 Tryz.results26 (fun M => (rv_tmp (rv_tmp rv_nil))) hK
end Go.SL
