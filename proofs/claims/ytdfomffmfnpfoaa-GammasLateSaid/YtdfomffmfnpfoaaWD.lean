import Derived.Test.YtdfomffmfnpfoaaWC
import Derived.Test.YtdfomffmfnpfoaaSLs
import Derived.Test.YtdfomffmfnpfoaaMA
import Derived.Test.YtdfomffmfnpfoaaProg
import Derived.KernelRfl
set_option linter.unusedSimpArgs false
set_option linter.unusedVariables false
namespace Go.SL.WD
open Go Go.Proofs Go.SL
theorem a23 : aggOf Try.prog 23 = some (some 2) := by kernel_rfl
theorem a24 : aggOf Try.prog 24 = some none := by kernel_rfl
theorem a31 : aggOf Try.prog 31 = some none := by kernel_rfl
theorem a33 : aggOf Try.prog 33 = some none := by kernel_rfl
theorem a35 : aggOf Try.prog 35 = some (some 4) := by kernel_rfl
theorem a38 : aggOf Try.prog 38 = some (some 1) := by kernel_rfl
theorem a52 : aggOf Try.prog 52 = some none := by kernel_rfl
theorem a53 : aggOf Try.prog 53 = some none := by kernel_rfl
theorem a54 : aggOf Try.prog 54 = some none := by kernel_rfl
theorem a56 : aggOf Try.prog 56 = some none := by kernel_rfl
theorem a57 : aggOf Try.prog 57 = some none := by kernel_rfl
theorem a68 : aggOf Try.prog 68 = some (some 1) := by kernel_rfl
theorem a69 : aggOf Try.prog 69 = some none := by kernel_rfl
theorem a9 : aggOf Try.prog 9 = some none := by kernel_rfl
theorem f35_0 : fldOf Try.prog 35 0 = some 0 := by kernel_rfl
theorem f35_1 : fldOf Try.prog 35 1 = some 1 := by kernel_rfl
theorem f35_3 : fldOf Try.prog 35 3 = some 3 := by kernel_rfl
theorem f59_0 : fldOf Try.prog 59 0 = some 0 := by kernel_rfl
theorem f59_1 : fldOf Try.prog 59 1 = some 1 := by kernel_rfl
theorem f59_4 : fldOf Try.prog 59 4 = some 4 := by kernel_rfl
theorem f59_5 : fldOf Try.prog 59 5 = some 5 := by kernel_rfl
theorem f68_0 : fldOf Try.prog 68 0 = some 0 := by kernel_rfl
theorem f71_0 : fldOf Try.prog 71 0 = some 0 := by kernel_rfl
theorem f71_1 : fldOf Try.prog 71 1 = some 1 := by kernel_rfl
theorem k15 : callable Try.prog 15 = true := by kernel_rfl
theorem k16 : callable Try.prog 16 = true := by kernel_rfl
theorem k17 : callable Try.prog 17 = true := by kernel_rfl
theorem k18 : callable Try.prog 18 = true := by kernel_rfl
theorem k19 : callable Try.prog 19 = true := by kernel_rfl
theorem k20 : callable Try.prog 20 = true := by kernel_rfl
theorem k21 : callable Try.prog 21 = true := by kernel_rfl
theorem k22 : callable Try.prog 22 = true := by kernel_rfl
theorem k23 : callable Try.prog 23 = true := by kernel_rfl
theorem k24 : callable Try.prog 24 = true := by kernel_rfl
theorem k25 : callable Try.prog 25 = true := by kernel_rfl
theorem k26 : callable Try.prog 26 = true := by kernel_rfl
theorem k27 : callable Try.prog 27 = true := by kernel_rfl
theorem k28 : callable Try.prog 28 = true := by kernel_rfl
theorem k29 : callable Try.prog 29 = true := by kernel_rfl
theorem k30 : callable Try.prog 30 = true := by kernel_rfl
theorem k41 : callable Try.prog 41 = true := by kernel_rfl
theorem mixedOk : Try.prog.follows .mixedOrders = true := by kernel_rfl
theorem p38 : placesOf Try.prog 38 = some [(0, 1)] := by kernel_rfl
theorem p73 : placesOf Try.prog 73 = some [(0, 1), (1, 1), (2, 1)] := by kernel_rfl
theorem p75 : placesOf Try.prog 75 = some [(0, 1), (1, 2)] := by kernel_rfl
theorem pt52 : isPtr Try.prog 52 = true := by kernel_rfl
theorem s23 : szOf Try.prog 23 = some 2 := by kernel_rfl
theorem s31 : szOf Try.prog 31 = some 1 := by kernel_rfl
theorem s38 : szOf Try.prog 38 = some 1 := by kernel_rfl
theorem s52 : szOf Try.prog 52 = some 1 := by kernel_rfl
theorem s56 : szOf Try.prog 56 = some 1 := by kernel_rfl
theorem s69 : szOf Try.prog 69 = some 1 := by kernel_rfl
theorem sl56 : slOf Try.prog 56 = some (75, 3, 40) := by kernel_rfl
theorem sl69 : slOf Try.prog 69 = some (73, 3, 24) := by kernel_rfl
theorem sl81 : slOf Try.prog 81 = some (5, 1, 1) := by kernel_rfl
theorem z23 : zeroOf Try.prog 23 = some [.string .empty, .string .empty] := by kernel_rfl
theorem z31 : zeroOf Try.prog 31 = some [.int .i64 0] := by kernel_rfl
theorem z38 : zeroOf Try.prog 38 = some [.slice none 0 0] := by kernel_rfl
theorem z5 : zeroOf Try.prog 5 = some [.int .u8 0] := by kernel_rfl
theorem z52 : zeroOf Try.prog 52 = some [.pointer none] := by kernel_rfl
theorem z73 : zeroOf Try.prog 73 = some [.string .empty, .int .u32 0, .bool false] := by kernel_rfl
theorem z75 : zeroOf Try.prog 75 = some [.int .u32 0, .string .empty, .string .empty] := by kernel_rfl
theorem zz52 : (Try.prog.info? 52).bind (·.zero) = some (.pointer none) := by kernel_rfl
end Go.SL.WD
namespace Go.SL
open Go Go.Proofs WD
def DoJ (b2 b3 b4 q : Nat) : HP := fun S => ∃ _ : Unit, stars [cl b4 52 [.pointer (some ⟨q, 0, none⟩)], cl b2 38 [.slice none 0 0], cl b3 31 [.int .i64 0]] S
def DoX (b2 b3 b4 q : Nat) (j : Code) : HP := fun S => ∃ _ : { u : Unit // j = .ret }, stars [cl b4 52 [.pointer (some ⟨q, 0, none⟩)], cl b2 38 [.slice none 0 0], cl b3 31 [.int .i64 8]] S

theorem Do_spec {g : World} {p dp b : Nat} {s : GamV} (n : UInt32) (x : OpM) (hs : GamOk s b) : Spec Try.prog g 6 [.pointer (some ⟨p, 0, none⟩), .int .u32 n.toNat, x.v] [Gs p dp s, Txs s.txs] fun K R => match doG s n x with
      | .err s' e => K (.tuple #[.agg #[.slice none 0 0], .int .i64 e]) (Gs p dp s' :: Txs s'.txs :: R)
      | .put t c => ∀ sv', K (.tuple #[.agg #[.slice none 0 0], .int .i64 0]) (Gs p dp (putG s t.id c sv') :: Txs (putG s t.id c sv').txs :: R)
      | .look t => ∀ a m c, K (.tuple #[.agg #[.slice a m c], .int .i64 0]) (Sl 80 2 RowM.c (.slice a m c) (scanR (changeR s.rows t.own) (spanOf x) 256) :: Gs p dp (lookG s t (spanOf x)) :: Txs s.txs :: R) := by
  have hnd := hs.ids
  have hown : ∀ x ∈ s.txs, x.own.length ≤ 68719476736 := fun x hx => by have := hs.own_le hx; have := hs.bb; omega
  have hlk : s.looks.length ≤ 68719476736 := by have := hs.looks; have := hs.bb; omega
  refine Spec.intro Try.func6 rfl Try.ntmps6 rfl fun R K hK => ?_
  refine WP.seq ?_
  refine WP.reg ?_
  refine WL.h (h_box fun b1 => ?_)
  refine WL.h (h_alloc z38 fun b2 => ?_)
  refine WL.h (h_alloc z31 fun b3 => ?_)
  refine WL.next ?_
  refine WP.seq ?_
  refine WP.block ?_
  refine WP.seq ?_
  refine WP.reg ?_
  refine WL.e e_move ?_
  refine WL.h (h_call (Gthere_spec) k15 ?_)
  refine WL.e e_not <| WL.e e_assign ?_
  refine WL.next ?_
  refine WP.cond_f rfl ?_
  refine WP.seq ?_
  refine WP.reg ?_
  refine WL.e (e_loadN a35) ?_
  refine WL.h (h_call (opCheck_spec _) k17 ?_)
  refine WL.e e_not <| WL.e e_assign ?_
  refine WL.next ?_
  refine WP.cond rfl (fun h1 => ?_) (fun h1 => ?_)
  · replace h1 : opOk x = false := by simpa using h1
    rw [show doG s n x = .err s 1 by simp [doG, h1]] at hK
    refine WP.seq ?_
    refine WP.reg ?_
    refine WL.e (e_build z38 p38 (.z (.slice none 0 0) <| .n)) ?_
    refine WL.h' (h_store s38 ?_)
    refine WL.h' (h_store s31 ?_)
    refine WL.next ?_
    refine WP.ret ?_
    refine PO.blockR ?_
    refine PO.past nofun ?_
    exact PO.fin Try.results6 (rv_cellN a38 (rv_cell a31 rv_nil)) hK
  · replace h1 : opOk x = true := by simpa using h1
    refine WP.opn (Gs_op (p := p) (dp := dp) (s := s)) fun x => ?_
    obtain ⟨lp, mp, nm, lm, sv⟩ := x
    dsimp only
    refine WP.skip ?_
    refine PO.blockN ?_
    refine PO.next ?_
    refine WP.seq ?_
    refine WP.reg ?_
    refine WL.e e_move <| WL.e e_nil <| WL.e (e_fa f59_5) <| WL.e (e_load a57) <| WL.e e_move ?_
    refine WL.e (e_lookT Try.underlying57 (key_u32 Try.underlying24) zz52) ?_
    refine WL.h (h_alloc z52 fun b4 => ?_)
    refine WL.h' (h_store s52 ?_)
    refine WL.next ?_
    refine WP.seq ?_
    refine WP.seq ?_
    refine WP.reg ?_
    refine WL.e (e_load a52) <| WL.e (e_peq pt52) ?_
    refine WL.next ?_
    refine WP.cond rfl (fun h2 => ?_) (fun h2 => ?_)
    · have hf : findT s.txs n = none := by simpa using h2
      rw [show doG s n x = .err s 6 by simp [doG, h1, hf]] at hK
      refine WP.seq ?_
      refine WP.reg ?_
      refine WL.e (e_build z38 p38 (.z (.slice none 0 0) <| .n)) ?_
      refine WL.h' (h_store s38 ?_)
      refine WL.h' (h_store s31 ?_)
      refine WL.next ?_
      refine WP.ret ?_
      refine PO.past nofun ?_
      refine PO.cls (A := Gs p dp (s)) (B := [cl p 59 [.pointer (some ⟨lp, 0, none⟩), .pointer (some ⟨mp, 0, none⟩), nm, .int .u32 s.last.toNat, sv.v, lm], cl lp 124 [.pointer (some ⟨dp, 0, none⟩), .int .i64 s.at_], Dk dp s.d, Mm mp s.rows, Mp eStr nm (List.map numC s.nums), Sl 75 3 lookC (sv.v) s.looks, Mp eU32 lm (List.map kvT s.txs)]) (fun S h => ⟨⟨lp, mp, nm, lm, sv⟩, h⟩) ?_
      exact PO.fin Try.results6 (rv_cellN a38 (rv_cell a31 rv_nil)) hK
    · obtain ⟨t, hf⟩ : ∃ t, findT s.txs n = some t := by cases e : findT s.txs n with
        | none => rw [e] at h2; cases h2
        | some t => exact ⟨t, rfl⟩
      rw [hf, Option.map_some]
      obtain ⟨hid, A, B, hts, hdel, _⟩ := find_mid hf
      refine WP.cls (A := Gs p dp (s)) (B := [cl p 59 [.pointer (some ⟨lp, 0, none⟩), .pointer (some ⟨mp, 0, none⟩), nm, .int .u32 s.last.toNat, sv.v, lm], cl lp 124 [.pointer (some ⟨dp, 0, none⟩), .int .i64 s.at_], Dk dp s.d, Mm mp s.rows, Mp eStr nm (List.map numC s.nums), Sl 75 3 lookC (sv.v) s.looks, Mp eU32 lm (List.map kvT s.txs)]) (fun S h => ⟨⟨lp, mp, nm, lm, sv⟩, h⟩) ?_
      refine WP.opn (Txs_out hts) fun _ => ?_
      refine WP.skip ?_
      refine PO.next ?_
      refine WP.cutL (fun (q : Nat) => [(9, .pointer (some ⟨q, 0, none⟩)), (10, .bool (writes x))]) (fun (q : Nat) => cl q 23 [.string (spanOf x).a, .string (spanOf x).b] :: cl b4 52 [.pointer (some ⟨t.q, 0, none⟩)] :: cl b1 35 (OpM.c x) :: cl b2 38 [.slice none 0 0] :: cl b3 31 [.int .i64 0] :: Gs p dp s :: cl t.q 71 [.int .u32 t.num.toNat, t.sv.v] :: Sl 73 3 ChgM.c t.sv.v t.own :: Txs (A ++ B) :: R) (fun (q : Nat) => True) ?_ ?_
      · skip
        refine WP.draws mixedOk 7 ?_
        refine RW.e 0 rfl (e_loadN a35) <| RW.e 2 rfl (e_loadN a35) ?_
        refine RW.any (is := [1, 4]) rfl ⟨?_, ?_, trivial⟩
        · skip
          refine RWat.h rfl rfl rfl ?_
          refine (h_call (Of_spec _) k18 ?_)
          refine ⟨⟨⟨_, rfl, .inl ⟨rfl, (e_loadN a35)⟩⟩, trivial⟩, ?_⟩
          refine RW.any (is := [3, 4]) rfl ⟨?_, ?_, trivial⟩
          · skip
            refine RWat.h rfl rfl rfl ?_
            refine (h_call (Writes_spec _) k19 ?_)
            refine ⟨trivial, ?_⟩
            refine RW.any (is := [4]) rfl ⟨?_, trivial⟩
            refine RWat.h rfl rfl rfl ?_
            refine (h_alloc z23 fun b5 => ?_)
            refine ⟨trivial, ?_⟩
            refine RW.any (is := [5]) rfl ⟨?_, trivial⟩
            refine RWat.h' rfl rfl rfl ?_
            refine (h_store s23 ?_)
            refine ⟨trivial, ?_⟩
            refine RW.e 6 rfl e_assign ?_
            refine RW.done ?_
            exact PO.meetK b5 trivial
          · skip
            refine RWat.h rfl rfl rfl ?_
            refine (h_alloc z23 fun b6 => ?_)
            refine ⟨⟨⟨_, rfl, .inl ⟨rfl, (e_loadN a35)⟩⟩, trivial⟩, ?_⟩
            refine RW.any (is := [3]) rfl ⟨?_, trivial⟩
            refine RWat.h rfl rfl rfl ?_
            refine (h_call (Writes_spec _) k19 ?_)
            refine ⟨trivial, ?_⟩
            refine RW.any (is := [5]) rfl ⟨?_, trivial⟩
            refine RWat.h' rfl rfl rfl ?_
            refine (h_store s23 ?_)
            refine ⟨trivial, ?_⟩
            refine RW.e 6 rfl e_assign ?_
            refine RW.done ?_
            exact PO.meetK b6 trivial
        · skip
          refine RWat.h rfl rfl rfl ?_
          refine (h_alloc z23 fun b7 => ?_)
          refine ⟨⟨⟨_, rfl, .inl ⟨rfl, (e_loadN a35)⟩⟩, ⟨_, rfl, .inl ⟨rfl, (e_loadN a35)⟩⟩, trivial⟩, ?_⟩
          refine RW.any (is := [1]) rfl ⟨?_, trivial⟩
          refine RWat.h rfl rfl rfl ?_
          refine (h_call (Of_spec _) k18 ?_)
          refine ⟨⟨⟨_, rfl, .inl ⟨rfl, (e_loadN a35)⟩⟩, trivial⟩, ?_⟩
          refine RW.any (is := [3]) rfl ⟨?_, trivial⟩
          refine RWat.h rfl rfl rfl ?_
          refine (h_call (Writes_spec _) k19 ?_)
          refine ⟨trivial, ?_⟩
          refine RW.any (is := [5]) rfl ⟨?_, trivial⟩
          refine RWat.h' rfl rfl rfl ?_
          refine (h_store s23 ?_)
          refine ⟨trivial, ?_⟩
          refine RW.e 6 rfl e_assign ?_
          refine RW.done ?_
          exact PO.meetK b7 trivial
      · intro q _
        refine WP.seq ?_
        refine WP.seq ?_
        refine WP.reg ?_
        refine WL.e e_move <| WL.e (e_load a52) <| WL.e (e_loadN a23) <| WL.e e_move ?_
        refine WL.h (h_call (late_spec (spanOf x) (writes x) hts hnd hown hlk) k20 ?_)
        refine WL.next ?_
        refine WP.cond rfl (fun h3 => ?_) (fun h3 => ?_)
        · rw [show doG s n x = .err (endsG s n) 9 by simp [doG, h1, hf, h3]] at hK
          rw [← hdel]
          refine WP.seq ?_
          refine WP.reg ?_
          refine WL.e e_move <| WL.e e_move ?_
          refine WL.h (h_call (ends_spec n hlk) k21 ?_)
          refine WL.next ?_
          refine WP.seq ?_
          refine WP.reg ?_
          refine WL.e (e_build z38 p38 (.z (.slice none 0 0) <| .n)) ?_
          refine WL.h' (h_store s38 ?_)
          refine WL.h' (h_store s31 ?_)
          refine WL.next ?_
          refine WP.ret ?_
          refine PO.past nofun ?_
          exact PO.fin Try.results6 (rv_cellN a38 (rv_cell a31 rv_nil)) hK
        · skip
          refine WP.skip ?_
          refine PO.next ?_
          refine WP.seq ?_
          refine WP.seq ?_
          refine WP.reg ?_
          refine WL.e e_move <| WL.e (e_load a52) <| WL.e (e_loadN a23) ?_
          refine WL.h (h_call (under_spec (spanOf x)) k22 ?_)
          intro c1 c2 c3
          refine WL.next ?_
          refine WP.block ?_
          refine WP.cls (A := DoJ b2 b3 b4 t.q) (B := [cl b4 52 [.pointer (some ⟨t.q, 0, none⟩)], cl b2 38 [.slice none 0 0], cl b3 31 [.int .i64 0]]) (fun S h => ⟨(), h⟩) ?_
          refine WP.rangeL (R := ?RR) (f := 41) (fs := []) (cs := [.pointer (some ⟨c1, 0, none⟩), .pointer (some ⟨c2, 0, none⟩), .pointer (some ⟨c3, 0, none⟩)]) (fun _ => DoJ b2 b3 b4 t.q) (fun _ _ => DoX b2 b3 b4 t.q) (fun _ y => ¬ y < t.num) (under_iter (c1 := c1) (c2 := c2) (c3 := c3) (p := p) (dp := dp) (s := s) (t := t) (A := A) (B := B) (sp := spanOf x) hts hnd hown) k41 ?hLL ?_ ?_ ?_ (fun _ => rfl)
          case hLL => repeat first | exact .nil | exact Pick.z | apply Pick.s | apply Split.cons
          · rintro lb db fn tmps pre y R2 hp hh
            refine WP.opn (B := fun _ : Unit => [cl b4 52 [.pointer (some ⟨t.q, 0, none⟩)], cl b2 38 [.slice none 0 0], cl b3 31 [.int .i64 0]]) (fun _ h => h) fun _ => ?_
            refine WP.reg ?_
            refine WL.e e_assign ?_
            refine WL.nil ?_
            refine PO.asg rfl (by repeat first | exact .z | apply Put.s) ?_
            refine WP.block ?_
            refine WP.seq ?_
            refine WP.reg ?_
            refine WL.e e_move <| WL.e (e_load a52) <| WL.e e_nil <| WL.e (e_fa f71_0) <| WL.e (e_fa f68_0) <| WL.e (e_load a24) <| WL.e (e_lss32) ?_
            refine WL.next ?_
            refine WP.cond rfl (fun h5 => ?_) (fun h5 => ?_)
            · skip
              refine WP.seq ?_
              refine WP.reg ?_
              refine WL.e (e_build z38 p38 (.z (.slice none 0 0) <| .n)) ?_
              refine WL.h' (h_store s38 ?_)
              refine WL.h' (h_store s31 ?_)
              refine WL.next ?_
              refine WP.ret ?_
              refine PO.blockR ?_
              refine PO.cls (A := DoX b2 b3 b4 t.q .ret) (B := [cl b4 52 [.pointer (some ⟨t.q, 0, none⟩)], cl b2 38 [.slice none 0 0], cl b3 31 [.int .i64 8]]) (fun S h => ⟨⟨(), rfl⟩, h⟩) ?_
              exact PO.rnd_ret (by simpa using h5) (by repeat first | exact .refl | exact Pick.z | apply Pick.s | apply Sub.cons | apply Sub.drop)
            · skip
              refine WP.skip ?_
              refine PO.blockN ?_
              refine PO.cls (A := DoJ b2 b3 b4 t.q) (B := [cl b4 52 [.pointer (some ⟨t.q, 0, none⟩)], cl b2 38 [.slice none 0 0], cl b3 31 [.int .i64 0]]) (fun S h => ⟨(), h⟩) ?_
              exact PO.rnd (by simpa using h5) (by repeat first | exact .refl | exact Pick.z | apply Pick.s | apply Sub.cons | apply Sub.drop)
          · intro db xs hx hh
            have hu1 : (underL s.txs t.id (spanOf x)).any (fun n => decide (n < t.num)) = false := by rw [List.any_eq_false]; intro n hn; have := hist_all hh n (hx.symm.subset hn); simpa using this
            refine PO.opn (B := fun _ : Unit => [cl b4 52 [.pointer (some ⟨t.q, 0, none⟩)], cl b2 38 [.slice none 0 0], cl b3 31 [.int .i64 0]]) (fun _ h => h) fun _ => ?_
            refine PO.blockN ?_
            refine PO.next ?_
            refine WP.seq ?_
            refine WP.seq ?_
            refine WP.reg ?_
            refine WL.e (e_fa f35_0) <| WL.e (e_load a33) ?_
            refine WL.next ?_
            refine WP.block ?_
            refine WP.seq ?_
            refine WP.reg ?_
            refine WL.e (e_eql8 (b := 2)) <| WL.e e_assign ?_
            refine WL.next ?_
            refine WP.cond rfl (fun h6 => ?_) (fun h6 => ?_)
            · replace h6 : x.kind = 2 := by simpa using h6
              rw [show doG s n x = .put t ⟨x.key, x.val, false⟩ by simp only [doG, h1, hf, h3, hu1]; simp [writes, h6, chgOf]] at hK
              refine WP.seq ?_
              refine WP.draws mixedOk 15 ?_
              refine RW.e 0 rfl (e_load a52) <| RW.e 1 rfl (e_load a52) <| RW.e 2 rfl e_nil <| RW.e 3 rfl (e_fa f71_1) <| RW.e 4 rfl (e_load a69) <| RW.e 5 rfl (e_fa f35_1) <| RW.e 6 rfl (e_load a9) <| RW.e 7 rfl (e_fa f35_3) <| RW.e 8 rfl (e_load a24) <| RW.e 9 rfl (e_build z73 p73 (.o (.tmp 68) rfl <| .o (.tmp 70) rfl <| .z (.bool false) <| .n)) ?_
              refine RW.any (is := [10]) rfl ⟨?_, trivial⟩
              refine RWat.h rfl rfl rfl ?_
              refine (h_bs sl69 z73 (.a3 (.tmp 71) rfl <| .n) fun b8 => ?_)
              refine ⟨⟨⟨_, rfl, .inl ⟨rfl, (e_load a69)⟩⟩, ⟨_, rfl, .inl ⟨rfl, (e_fa f71_1)⟩⟩, ⟨_, rfl, .inl ⟨rfl, e_nil⟩⟩, ⟨_, rfl, .inl ⟨rfl, (e_load a52)⟩⟩, ⟨_, rfl, .inl ⟨rfl, (e_load a52)⟩⟩, trivial⟩, ?_⟩
              refine RW.any (is := [11]) rfl ⟨?_, trivial⟩
              refine RWat.h rfl rfl rfl ?_
              refine (hl_append (xs := t.own) (ys := [⟨x.key, x.val, false⟩]) sl69 chgE z73 (lit_rl chgE [⟨x.key, x.val, false⟩] rfl) (by have := hs.own_le (find_mem hf); have := hs.bb; simp; omega) (fun a7 m7 c7 => ?_))
              refine ⟨⟨⟨_, rfl, .inl ⟨rfl, (e_load a52)⟩⟩, trivial⟩, ?_⟩
              refine RW.e 12 rfl e_nil <| RW.e 13 rfl (e_fa f71_1) ?_
              refine RW.any (is := [14]) rfl ⟨?_, trivial⟩
              refine RWat.h' rfl rfl rfl ?_
              refine (h_store s69 ?_)
              refine ⟨trivial, ?_⟩
              refine RW.done ?_
              refine PO.next ?_
              refine WP.seq ?_
              refine WP.reg ?_
              refine WL.e (e_build z38 p38 (.z (.slice none 0 0) <| .n)) ?_
              refine WL.h' (h_store s38 ?_)
              refine WL.h' (h_store s31 ?_)
              refine WL.next ?_
              refine WP.ret ?_
              refine PO.blockR ?_
              refine PO.past nofun ?_
              refine PO.cls (A := Txs (A ++ { t with own := t.own ++ [⟨x.key, x.val, false⟩], sv := ⟨a7, m7, c7⟩ } :: B)) (B := [cl t.q 71 [.int .u32 t.num.toNat, .slice a7 m7 c7], Sl 73 3 ChgM.c (.slice a7 m7 c7) (t.own ++ [⟨x.key, x.val, false⟩]), Txs (A ++ B)]) (fun S h => Txs_in (t := { t with own := t.own ++ [⟨x.key, x.val, false⟩], sv := ⟨a7, m7, c7⟩ }) S h) ?_
              refine PO.conv (conv1 (A := Gs p dp s) (B := Gs p dp (putG s t.id (⟨x.key, x.val, false⟩) ⟨a7, m7, c7⟩)) (Gs_txs (putT_kv s.txs t.id _ _)) (by repeat first | exact .z | apply Put.s)) ?_
              have hpt : (putG s t.id (⟨x.key, x.val, false⟩) ⟨a7, m7, c7⟩).txs = A ++ { t with own := t.own ++ [⟨x.key, x.val, false⟩], sv := ⟨a7, m7, c7⟩ } :: B := by show putT s.txs t.id _ _ = _; rw [hts]; exact putT_mid (hts ▸ hnd) _ _
              rw [← hpt]
              exact PO.finM (by repeat first | exact .z | apply Put.s) Try.results6 (rv_cellN a38 (rv_cell a31 rv_nil)) (hK _)
            · replace h6 : x.kind ≠ 2 := by simpa using h6
              refine WP.seq ?_
              refine WP.reg ?_
              refine WL.e (e_eql8 (b := 3)) <| WL.e e_assign ?_
              refine WL.next ?_
              refine WP.cond rfl (fun h7 => ?_) (fun h7 => ?_)
              · replace h7 : x.kind = 3 := by simpa using h7
                rw [show doG s n x = .put t ⟨x.key, 0, true⟩ by simp only [doG, h1, hf, h3, hu1]; simp [writes, h7, chgOf]] at hK
                refine WP.seq ?_
                refine WP.draws mixedOk 13 ?_
                refine RW.e 0 rfl (e_load a52) <| RW.e 1 rfl (e_load a52) <| RW.e 2 rfl e_nil <| RW.e 3 rfl (e_fa f71_1) <| RW.e 4 rfl (e_load a69) <| RW.e 5 rfl (e_fa f35_1) <| RW.e 6 rfl (e_load a9) <| RW.e 7 rfl (e_build z73 p73 (.o (.tmp 85) rfl <| .z (.int .u32 0) <| .o (.const (.bool true)) rfl <| .n)) ?_
                refine RW.any (is := [8]) rfl ⟨?_, trivial⟩
                refine RWat.h rfl rfl rfl ?_
                refine (h_bs sl69 z73 (.a3 (.tmp 86) rfl <| .n) fun b9 => ?_)
                refine ⟨⟨⟨_, rfl, .inl ⟨rfl, (e_load a69)⟩⟩, ⟨_, rfl, .inl ⟨rfl, (e_fa f71_1)⟩⟩, ⟨_, rfl, .inl ⟨rfl, e_nil⟩⟩, ⟨_, rfl, .inl ⟨rfl, (e_load a52)⟩⟩, ⟨_, rfl, .inl ⟨rfl, (e_load a52)⟩⟩, trivial⟩, ?_⟩
                refine RW.any (is := [9]) rfl ⟨?_, trivial⟩
                refine RWat.h rfl rfl rfl ?_
                refine (hl_append (xs := t.own) (ys := [⟨x.key, 0, true⟩]) sl69 chgE z73 (lit_rl chgE [⟨x.key, 0, true⟩] rfl) (by have := hs.own_le (find_mem hf); have := hs.bb; simp; omega) (fun a7 m7 c7 => ?_))
                refine ⟨⟨⟨_, rfl, .inl ⟨rfl, (e_load a52)⟩⟩, trivial⟩, ?_⟩
                refine RW.e 10 rfl e_nil <| RW.e 11 rfl (e_fa f71_1) ?_
                refine RW.any (is := [12]) rfl ⟨?_, trivial⟩
                refine RWat.h' rfl rfl rfl ?_
                refine (h_store s69 ?_)
                refine ⟨trivial, ?_⟩
                refine RW.done ?_
                refine PO.next ?_
                refine WP.seq ?_
                refine WP.reg ?_
                refine WL.e (e_build z38 p38 (.z (.slice none 0 0) <| .n)) ?_
                refine WL.h' (h_store s38 ?_)
                refine WL.h' (h_store s31 ?_)
                refine WL.next ?_
                refine WP.ret ?_
                refine PO.blockR ?_
                refine PO.past nofun ?_
                refine PO.cls (A := Txs (A ++ { t with own := t.own ++ [⟨x.key, 0, true⟩], sv := ⟨a7, m7, c7⟩ } :: B)) (B := [cl t.q 71 [.int .u32 t.num.toNat, .slice a7 m7 c7], Sl 73 3 ChgM.c (.slice a7 m7 c7) (t.own ++ [⟨x.key, 0, true⟩]), Txs (A ++ B)]) (fun S h => Txs_in (t := { t with own := t.own ++ [⟨x.key, 0, true⟩], sv := ⟨a7, m7, c7⟩ }) S h) ?_
                refine PO.conv (conv1 (A := Gs p dp s) (B := Gs p dp (putG s t.id (⟨x.key, 0, true⟩) ⟨a7, m7, c7⟩)) (Gs_txs (putT_kv s.txs t.id _ _)) (by repeat first | exact .z | apply Put.s)) ?_
                have hpt : (putG s t.id (⟨x.key, 0, true⟩) ⟨a7, m7, c7⟩).txs = A ++ { t with own := t.own ++ [⟨x.key, 0, true⟩], sv := ⟨a7, m7, c7⟩ } :: B := by show putT s.txs t.id _ _ = _; rw [hts]; exact putT_mid (hts ▸ hnd) _ _
                rw [← hpt]
                exact PO.finM (by repeat first | exact .z | apply Put.s) Try.results6 (rv_cellN a38 (rv_cell a31 rv_nil)) (hK _)
              · replace h7 : x.kind ≠ 3 := by simpa using h7
                rw [show doG s n x = .look t by simp only [doG, h1, hf, h3, hu1]; simp [writes, h6, h7]] at hK
                refine WP.opn (Gs_op (p := p) (dp := dp) (s := s)) fun x => ?_
                obtain ⟨lp, mp, nm, lm, sv⟩ := x
                dsimp only
                refine WP.skip ?_
                refine PO.blockN ?_
                refine PO.next ?_
                refine WP.seq ?_
                refine WP.draws mixedOk 16 ?_
                refine RW.e 0 rfl e_move <| RW.e 1 rfl e_move <| RW.e 2 rfl e_nil <| RW.e 3 rfl (e_fa f59_4) <| RW.e 4 rfl (e_load a56) <| RW.e 5 rfl (e_load a52) <| RW.e 6 rfl e_nil <| RW.e 7 rfl (e_fa f71_0) <| RW.e 8 rfl (e_loadN a68) <| RW.e 9 rfl (e_loadN a23) <| RW.e 10 rfl (e_build z75 p75 (.a1 (.tmp 100) rfl <| .a2 (.tmp 101) rfl <| .n)) ?_
                refine RW.any (is := [11]) rfl ⟨?_, trivial⟩
                refine RWat.h rfl rfl rfl ?_
                refine (h_bs sl56 z75 (.a3 (.tmp 102) rfl <| .n) fun b10 => ?_)
                refine ⟨⟨⟨_, rfl, .inl ⟨rfl, (e_load a56)⟩⟩, ⟨_, rfl, .inl ⟨rfl, (e_fa f59_4)⟩⟩, ⟨_, rfl, .inl ⟨rfl, e_nil⟩⟩, ⟨_, rfl, .inl ⟨rfl, e_move⟩⟩, ⟨_, rfl, .inl ⟨rfl, e_move⟩⟩, trivial⟩, ?_⟩
                refine RW.any (is := [12]) rfl ⟨?_, trivial⟩
                refine RWat.h rfl rfl rfl ?_
                refine (hl_append (xs := s.looks) (ys := [(t.num, spanOf x)]) sl56 lookE z75 (lit_rl lookE [(t.num, spanOf x)] rfl) (by have := hs.looks; have := hs.bb; simp; omega) (fun a7 m7 c7 => ?_))
                refine ⟨⟨⟨_, rfl, .inl ⟨rfl, e_move⟩⟩, trivial⟩, ?_⟩
                refine RW.e 13 rfl e_nil <| RW.e 14 rfl (e_fa f59_4) ?_
                refine RW.any (is := [15]) rfl ⟨?_, trivial⟩
                refine RWat.h' rfl rfl rfl ?_
                refine (h_store s56 ?_)
                refine ⟨trivial, ?_⟩
                refine RW.done ?_
                refine PO.next ?_
                refine WP.seq ?_
                refine WP.reg ?_
                refine WL.e e_move <| WL.e e_nil <| WL.e (e_fa f59_1) <| WL.e (e_load a54) ?_
                refine WL.h (h_call (Twin_spec (l := s.rows) (by have := hs.sum; have := hs.bb; omega)) k23 ?_)
                intro q2
                refine WL.e e_assign ?_
                refine WL.next ?_
                refine WP.seq ?_
                refine WP.reg ?_
                refine WL.e e_move <| WL.e (e_load a52) <| WL.e e_nil <| WL.e (e_fa f71_1) <| WL.e (e_load a69) ?_
                refine WL.h (h_call (Change_spec (sl_rl (xs := t.own)) hs.rising (by have := hs.own_le (find_mem hf); have := hs.bb; omega)) k24 ?_)
                refine ⟨fun hb => absurd hb (by rw [hs.bad (find_mem hf)]; simp), fun _ => ?_⟩
                obtain ⟨hr1, hr2⟩ := changeR_rising t.own hs.rising
                refine WL.next ?_
                refine WP.seq ?_
                refine WP.reg ?_
                refine WL.e e_move <| WL.e (e_loadN a23) ?_
                refine WL.h (h_call (Scan_spec (spanOf x) 256 hr1 (by have := hs.own_le (find_mem hf); have := hs.bb; omega) (by decide)) k25 ?_)
                intro a8 m8 c8
                refine WL.e (e_build z38 p38 (.o (.tmp 120) rfl <| .n)) ?_
                refine WL.h' (h_store s38 ?_)
                refine WL.h' (h_store s31 ?_)
                refine WL.next ?_
                refine WP.ret ?_
                refine PO.cls (A := Gs p dp (lookG s t (spanOf x))) (B := [cl p 59 [.pointer (some ⟨lp, 0, none⟩), .pointer (some ⟨mp, 0, none⟩), nm, .int .u32 s.last.toNat, .slice a7 m7 c7, lm], cl lp 124 [.pointer (some ⟨dp, 0, none⟩), .int .i64 s.at_], Dk dp s.d, Mm mp s.rows, Mp eStr nm (List.map numC s.nums), Sl 75 3 lookC (.slice a7 m7 c7) (s.looks ++ [(t.num, spanOf x)]), Mp eU32 lm (List.map kvT s.txs)]) (fun S h => ⟨⟨lp, mp, nm, lm, ⟨a7, m7, c7⟩⟩, h⟩) ?_
                refine PO.cls (A := Txs s.txs) (B := [cl t.q 71 [.int .u32 t.num.toNat, t.sv.v], Sl 73 3 ChgM.c t.sv.v t.own, Txs (A ++ B)]) (fun S h => hts ▸ Txs_in S h) ?_
                exact PO.finM (by repeat first | exact .z | apply Put.s) Try.results6 (rv_cellN a38 (rv_cell a31 rv_nil)) (hK a8 m8 c8)
          · intro db pre y j hp hh hc
            have hu1 : (underL s.txs t.id (spanOf x)).any (fun n => decide (n < t.num)) = true := by obtain ⟨r, hr⟩ := hp; rw [List.any_eq_true]; exact ⟨y, hr.subset (by simp), by simpa using hc⟩
            rw [show doG s n x = .err s 8 by simp only [doG, h1, hf, h3, hu1]; simp] at hK
            refine WP.opn (B := fun sv : { u : Unit // j = .ret } => [cl b4 52 [.pointer (some ⟨t.q, 0, none⟩)], cl b2 38 [.slice none 0 0], cl b3 31 [.int .i64 8]]) (fun _ h => h) fun u => ?_
            obtain ⟨_, rfl⟩ := u
            refine WP.ret ?_
            refine PO.blockR ?_
            refine PO.past nofun ?_
            refine PO.cls (A := Txs s.txs) (B := [cl t.q 71 [.int .u32 t.num.toNat, t.sv.v], Sl 73 3 ChgM.c t.sv.v t.own, Txs (A ++ B)]) (fun S h => hts ▸ Txs_in S h) ?_
            exact PO.finM (by repeat first | exact .z | apply Put.s) Try.results6 (rv_cellN a38 (rv_cell a31 rv_nil)) hK

theorem Begin_spec {g : World} {p dp : Nat} {s : GamV} (n : UInt32) : Spec Try.prog g 5 [.pointer (some ⟨p, 0, none⟩), .int .u32 n.toNat] [Gs p dp s, Txs s.txs] fun K R => ∀ q, K (.int .i64 (begE s n)) (Gs p dp (begG s n q) :: Txs (begG s n q).txs :: R) := by
  refine Spec.intro Try.func5 rfl Try.ntmps5 rfl fun R K hK => ?_
  refine WP.seq ?_
  refine WP.reg ?_
  refine WL.e e_assign ?_
  refine WL.next ?_
  refine WP.seq ?_
  refine WP.block ?_
  refine WP.seq ?_
  refine WP.reg ?_
  refine WL.e e_move ?_
  refine WL.h (h_call (Gthere_spec) k15 ?_)
  refine WL.e e_not <| WL.e e_assign ?_
  refine WL.next ?_
  refine WP.cond_f rfl ?_
  refine WP.seq ?_
  refine WP.reg ?_
  refine WL.e e_move <| WL.e (e_eql32 (b := 0)) <| WL.e e_assign ?_
  refine WL.next ?_
  refine WP.cond rfl (fun h1 => ?_) (fun h1 => ?_)
  · replace h1 : n = 0 := by simpa using h1
    have hE : begE s n = 1 := by simp [begE, h1]
    refine WP.seq ?_
    refine WP.reg ?_
    refine WL.e e_assign ?_
    refine WL.next ?_
    refine WP.ret ?_
    refine PO.blockR ?_
    refine PO.past nofun ?_
    have hK := hK 0
    rw [hE, show begG s n 0 = s by simp [begG, hE]] at hK
    exact PO.fin Try.results5 (rv_tmp rv_nil) hK
  · replace h1 : n ≠ 0 := by simpa using h1
    refine WP.opn (Gs_op (p := p) (dp := dp) (s := s)) fun x => ?_
    obtain ⟨lp, mp, nm, lm, sv⟩ := x
    dsimp only
    refine WP.seq ?_
    refine WP.reg ?_
    refine WL.e e_move <| WL.e e_nil <| WL.e (e_fa f59_5) <| WL.e (e_load a57) <| WL.e e_move ?_
    refine WL.e (e_lookT Try.underlying57 (key_u32 Try.underlying24) zz52) <| WL.e (e_pne pt52) <| WL.e e_assign ?_
    refine WL.next ?_
    refine WP.cond rfl (fun h2 => ?_) (fun h2 => ?_)
    · replace h2 : (findT s.txs n).isSome = true := by cases e : findT s.txs n with
        | none => rw [e] at h2; cases h2
        | some t => rfl
      have hE : begE s n = 7 := by simp only [begE, h1, h2]; simp
      refine WP.seq ?_
      refine WP.reg ?_
      refine WL.e e_assign ?_
      refine WL.next ?_
      refine WP.ret ?_
      refine PO.blockR ?_
      refine PO.past nofun ?_
      refine PO.cls (A := Gs p dp (s)) (B := [cl p 59 [.pointer (some ⟨lp, 0, none⟩), .pointer (some ⟨mp, 0, none⟩), nm, .int .u32 s.last.toNat, sv.v, lm], cl lp 124 [.pointer (some ⟨dp, 0, none⟩), .int .i64 s.at_], Dk dp s.d, Mm mp s.rows, Mp eStr nm (List.map numC s.nums), Sl 75 3 lookC (sv.v) s.looks, Mp eU32 lm (List.map kvT s.txs)]) (fun S h => ⟨⟨lp, mp, nm, lm, sv⟩, h⟩) ?_
      have hK := hK 0
      rw [hE, show begG s n 0 = s by simp [begG, hE]] at hK
      exact PO.fin Try.results5 (rv_tmp rv_nil) hK
    · have hf : findT s.txs n = none := by cases e : findT s.txs n with
        | none => rfl
        | some t => rw [e] at h2; cases h2
      refine WP.seq ?_
      refine WP.reg ?_
      refine WL.e e_move <| WL.e e_nil <| WL.e (e_fa f59_5) <| WL.e (e_load a57) <| WL.e (e_len_map Try.underlying57) <| WL.e e_geq <| WL.e e_assign ?_
      refine WL.next ?_
      refine WP.cond rfl (fun h3 => ?_) (fun h3 => ?_)
      · replace h3 : 32 ≤ s.txs.length := by simp at h3; omega
        have hE : begE s n = 5 := by simp [begE, h1, hf, h3]
        refine WP.seq ?_
        refine WP.reg ?_
        refine WL.e e_assign ?_
        refine WL.next ?_
        refine WP.ret ?_
        refine PO.blockR ?_
        refine PO.past nofun ?_
        refine PO.cls (A := Gs p dp (s)) (B := [cl p 59 [.pointer (some ⟨lp, 0, none⟩), .pointer (some ⟨mp, 0, none⟩), nm, .int .u32 s.last.toNat, sv.v, lm], cl lp 124 [.pointer (some ⟨dp, 0, none⟩), .int .i64 s.at_], Dk dp s.d, Mm mp s.rows, Mp eStr nm (List.map numC s.nums), Sl 75 3 lookC (sv.v) s.looks, Mp eU32 lm (List.map kvT s.txs)]) (fun S h => ⟨⟨lp, mp, nm, lm, sv⟩, h⟩) ?_
        have hK := hK 0
        rw [hE, show begG s n 0 = s by simp [begG, hE]] at hK
        exact PO.fin Try.results5 (rv_tmp rv_nil) hK
      · replace h3 : ¬ 32 ≤ s.txs.length := by simp at h3; omega
        have hE : begE s n = 0 := by simp only [begE, h1, hf, h3]; simp
        refine WP.cls (A := Gs p dp (s)) (B := [cl p 59 [.pointer (some ⟨lp, 0, none⟩), .pointer (some ⟨mp, 0, none⟩), nm, .int .u32 s.last.toNat, sv.v, lm], cl lp 124 [.pointer (some ⟨dp, 0, none⟩), .int .i64 s.at_], Dk dp s.d, Mm mp s.rows, Mp eStr nm (List.map numC s.nums), Sl 75 3 lookC (sv.v) s.looks, Mp eU32 lm (List.map kvT s.txs)]) (fun S h => ⟨⟨lp, mp, nm, lm, sv⟩, h⟩) ?_
        
        refine WP.skip ?_
        refine PO.blockN ?_
        refine PO.next ?_
        refine WP.seq ?_
        refine WP.reg ?_
        refine WL.e e_move <| WL.e e_move ?_
        refine WL.h (h_call (begins_spec n hf) k16 ?_)
        intro q
        refine WL.next ?_
        refine WP.seq ?_
        refine WP.reg ?_
        refine WL.e e_assign ?_
        refine WL.next ?_
        refine WP.ret ?_
        have hK := hK q
        rw [hE, begG, if_pos hE] at hK
        exact PO.fin Try.results5 (rv_tmp rv_nil) hK

theorem Abort_spec {g : World} {p dp b : Nat} {s : GamV} (n : UInt32) (hs : GamOk s b) : Spec Try.prog g 8 [.pointer (some ⟨p, 0, none⟩), .int .u32 n.toNat] [Gs p dp s, Txs s.txs] fun K R => K (.int .i64 (aboE s n)) (Gs p dp (aboG s n) :: Txs (aboG s n).txs :: R) := by
  have hnd := hs.ids
  have hown : ∀ x ∈ s.txs, x.own.length ≤ 68719476736 := fun x hx => by have := hs.own_le hx; have := hs.bb; omega
  have hlk : s.looks.length ≤ 68719476736 := by have := hs.looks; have := hs.bb; omega
  refine Spec.intro Try.func8 rfl Try.ntmps8 rfl fun R K hK => ?_
  refine WP.seq ?_
  refine WP.reg ?_
  refine WL.e e_assign ?_
  refine WL.next ?_
  refine WP.seq ?_
  refine WP.block ?_
  refine WP.seq ?_
  refine WP.reg ?_
  refine WL.e e_move ?_
  refine WL.h (h_call (Gthere_spec) k15 ?_)
  refine WL.e e_not <| WL.e e_assign ?_
  refine WL.next ?_
  refine WP.cond_f rfl ?_
  refine WP.opn (Gs_op (p := p) (dp := dp) (s := s)) fun x => ?_
  obtain ⟨lp, mp, nm, lm, sv⟩ := x
  dsimp only
  refine WP.seq ?_
  refine WP.reg ?_
  refine WL.e e_move <| WL.e e_nil <| WL.e (e_fa f59_5) <| WL.e (e_load a57) <| WL.e e_move ?_
  refine WL.e (e_lookT Try.underlying57 (key_u32 Try.underlying24) zz52) <| WL.e (e_peq pt52) <| WL.e e_assign ?_
  refine WL.next ?_
  refine WP.cond rfl (fun h2 => ?_) (fun h2 => ?_)
  · have hf : findT s.txs n = none := by simpa using h2
    rw [show aboE s n = 6 by simp [aboE, hf], show aboG s n = s by simp [aboG, hf]] at hK
    refine WP.seq ?_
    refine WP.reg ?_
    refine WL.e e_assign ?_
    refine WL.next ?_
    refine WP.ret ?_
    refine PO.blockR ?_
    refine PO.past nofun ?_
    refine PO.cls (A := Gs p dp (s)) (B := [cl p 59 [.pointer (some ⟨lp, 0, none⟩), .pointer (some ⟨mp, 0, none⟩), nm, .int .u32 s.last.toNat, sv.v, lm], cl lp 124 [.pointer (some ⟨dp, 0, none⟩), .int .i64 s.at_], Dk dp s.d, Mm mp s.rows, Mp eStr nm (List.map numC s.nums), Sl 75 3 lookC (sv.v) s.looks, Mp eU32 lm (List.map kvT s.txs)]) (fun S h => ⟨⟨lp, mp, nm, lm, sv⟩, h⟩) ?_
    exact PO.fin Try.results8 (rv_tmp rv_nil) hK
  · obtain ⟨t, hf⟩ : ∃ t, findT s.txs n = some t := by cases e : findT s.txs n with
      | none => rw [e] at h2; cases h2
      | some t => exact ⟨t, rfl⟩
    rw [hf, Option.map_some]
    obtain ⟨hid, A, B, hts, hdel, _⟩ := find_mid hf
    rw [show aboE s n = 0 by simp [aboE, hf], show aboG s n = endsG s n by simp [aboG, hf]] at hK
    refine WP.cls (A := Gs p dp (s)) (B := [cl p 59 [.pointer (some ⟨lp, 0, none⟩), .pointer (some ⟨mp, 0, none⟩), nm, .int .u32 s.last.toNat, sv.v, lm], cl lp 124 [.pointer (some ⟨dp, 0, none⟩), .int .i64 s.at_], Dk dp s.d, Mm mp s.rows, Mp eStr nm (List.map numC s.nums), Sl 75 3 lookC (sv.v) s.looks, Mp eU32 lm (List.map kvT s.txs)]) (fun S h => ⟨⟨lp, mp, nm, lm, sv⟩, h⟩) ?_
    refine WP.opn (Txs_out hts) fun _ => ?_
    rw [← hdel]
    refine WP.skip ?_
    refine PO.blockN ?_
    refine PO.next ?_
    refine WP.seq ?_
    refine WP.reg ?_
    refine WL.e e_move <| WL.e e_move ?_
    refine WL.h (h_call (ends_spec n hlk) k21 ?_)
    refine WL.next ?_
    refine WP.seq ?_
    refine WP.reg ?_
    refine WL.e e_assign ?_
    refine WL.next ?_
    refine WP.ret ?_
    exact PO.fin Try.results8 (rv_tmp rv_nil) hK

set_option maxHeartbeats 4000000 in
theorem Commit_spec {g : World} {p dp b : Nat} {s : GamV} (n : UInt32) (hs : GamOk s b) : Spec Try.prog g 9 [.pointer (some ⟨p, 0, none⟩), .int .u32 n.toNat] [Gs p dp s, Txs s.txs] fun K R => K (.tuple #[.int .u32 (comN s n).toNat, .int .i64 (comE s n)]) (Gs p dp (comG s n) :: Txs (comG s n).txs :: R) := by
  have hnd := hs.ids
  have hown : ∀ x ∈ s.txs, x.own.length ≤ 68719476736 := fun x hx => by have := hs.own_le hx; have := hs.bb; omega
  have hlk : s.looks.length ≤ 68719476736 := by have := hs.looks; have := hs.bb; omega
  refine Spec.intro Try.func9 rfl Try.ntmps9 rfl fun R K hK => ?_
  refine WP.seq ?_
  refine WP.reg ?_
  refine WL.e e_assign <| WL.e e_assign ?_
  refine WL.next ?_
  refine WP.seq ?_
  refine WP.seq ?_
  refine WP.reg ?_
  refine WL.e e_move ?_
  refine WL.h (h_call (Gthere_spec) k15 ?_)
  refine WL.e e_not ?_
  refine WL.next ?_
  refine WP.cond_f rfl ?_
  refine WP.opn (Gs_op (p := p) (dp := dp) (s := s)) fun x => ?_
  obtain ⟨lp, mp, nm, lm, sv⟩ := x
  dsimp only
  refine WP.skip ?_
  refine PO.next ?_
  refine WP.seq ?_
  refine WP.reg ?_
  refine WL.e e_move <| WL.e e_nil <| WL.e (e_fa f59_5) <| WL.e (e_load a57) <| WL.e e_move ?_
  refine WL.e (e_lookT Try.underlying57 (key_u32 Try.underlying24) zz52) <| WL.e e_assign ?_
  refine WL.next ?_
  refine WP.seq ?_
  refine WP.seq ?_
  refine WP.reg ?_
  refine WL.e e_move <| WL.e (e_peq pt52) ?_
  refine WL.next ?_
  refine WP.cond rfl (fun h2 => ?_) (fun h2 => ?_)
  · have hf : findT s.txs n = none := by simpa using h2
    rw [show comE s n = 6 by simp [comE, hf], show comN s n = 0 by simp [comN, hf], show comG s n = s by simp [comG, hf]] at hK
    refine WP.seq ?_
    refine WP.reg ?_
    refine WL.e e_assign <| WL.e e_assign ?_
    refine WL.next ?_
    refine WP.ret ?_
    refine PO.past nofun ?_
    refine PO.cls (A := Gs p dp (s)) (B := [cl p 59 [.pointer (some ⟨lp, 0, none⟩), .pointer (some ⟨mp, 0, none⟩), nm, .int .u32 s.last.toNat, sv.v, lm], cl lp 124 [.pointer (some ⟨dp, 0, none⟩), .int .i64 s.at_], Dk dp s.d, Mm mp s.rows, Mp eStr nm (List.map numC s.nums), Sl 75 3 lookC (sv.v) s.looks, Mp eU32 lm (List.map kvT s.txs)]) (fun S h => ⟨⟨lp, mp, nm, lm, sv⟩, h⟩) ?_
    exact PO.fin Try.results9 (rv_tmp (rv_tmp rv_nil)) hK
  · obtain ⟨t, hf⟩ : ∃ t, findT s.txs n = some t := by cases e : findT s.txs n with
      | none => rw [e] at h2; cases h2
      | some t => exact ⟨t, rfl⟩
    rw [hf, Option.map_some]
    obtain ⟨hid, A, B, hts, hdel, _⟩ := find_mid hf
    refine WP.cls (A := Gs p dp (s)) (B := [cl p 59 [.pointer (some ⟨lp, 0, none⟩), .pointer (some ⟨mp, 0, none⟩), nm, .int .u32 s.last.toNat, sv.v, lm], cl lp 124 [.pointer (some ⟨dp, 0, none⟩), .int .i64 s.at_], Dk dp s.d, Mm mp s.rows, Mp eStr nm (List.map numC s.nums), Sl 75 3 lookC (sv.v) s.looks, Mp eU32 lm (List.map kvT s.txs)]) (fun S h => ⟨⟨lp, mp, nm, lm, sv⟩, h⟩) ?_
    refine WP.opn (Txs_out hts) fun _ => ?_
    rw [← hdel]
    have hol := hs.own_le (find_mem hf)
    have hbb := hs.bb
    have hcl := chgs_len t.own
    have hcl2 := hcl.2 (hs.own t (find_mem hf))
    have hall : t.own.all chgOk = true := List.all_eq_true.2 (hs.own t (find_mem hf))
    have hrl := recG_len t
    refine WP.skip ?_
    refine PO.next ?_
    refine WP.seq ?_
    refine WP.reg ?_
    refine WL.e e_move <| WL.e e_move ?_
    refine WL.h (h_call (ends_spec n hlk) k21 ?_)
    refine WL.next ?_
    refine WP.seq ?_
    refine WP.reg ?_
    refine WL.e e_move <| WL.e e_nil <| WL.e (e_fa f71_1) <| WL.e (e_load a69) ?_
    refine WL.h (h_call (PutChanges_spec (sl_rl (xs := t.own)) (by omega) (by omega)) k26 ?_)
    refine ⟨fun hb => absurd hb (by rw [hall]; simp), fun _ hle => ?_, fun _ hle a3 n3 c3 => ?_⟩
    · have hnf : ¬ fitsG s t := not_fits hle
      rw [show comE s n = 5 by simp [comE, hf, hnf], show comN s n = 0 by simp [comN, hf, hnf], comG_txs hf, show comG s n = endsG s n by simp [comG, hf, commG, hnf]] at hK
      refine WL.e e_move <| WL.e e_extract <| WL.e e_extract <| WL.e e_assign <| WL.e e_assign ?_
      refine WL.next ?_
      refine WP.seq ?_
      refine WP.seq ?_
      refine WP.draws mixedOk 18 ?_
      refine RW.e 0 rfl e_move <| RW.e 1 rfl e_neq <| RW.e 2 rfl e_move ?_
      refine RW.bool 33 rfl (fun hg => ?_) (fun hg => ?_)
      · skip
        refine RW.skip 3 rfl <| RW.skip 4 rfl <| RW.skip 5 rfl <| RW.skip 6 rfl <| RW.skip 7 rfl <| RW.skip 8 rfl <| RW.skip 9 rfl <| RW.skip 10 rfl <| RW.skip 11 rfl <| RW.skip 12 rfl <| RW.skip 13 rfl <| RW.skip 14 rfl ?_
        refine RW.skip 15 rfl <| RW.skip 16 rfl <| RW.e 17 rfl e_pick_t ?_
        refine RW.done ?_
        refine PO.next ?_
        refine WP.cond_t rfl ?_
        refine WP.seq ?_
        refine WP.reg ?_
        refine WL.e e_assign <| WL.e e_assign ?_
        refine WL.next ?_
        refine WP.ret ?_
        refine PO.past nofun ?_
        exact PO.fin Try.results9 (rv_tmp (rv_tmp rv_nil)) hK
      · exact absurd hg (by decide) -- end
    · refine WL.opn (Gs_op (p := p) (dp := dp) (s := (endsG s n))) fun x => ?_
      obtain ⟨lp, mp, nm, lm, sv⟩ := x
      dsimp only
      refine WL.e e_move <| WL.e e_extract <| WL.e e_extract <| WL.e e_assign <| WL.e e_assign ?_
      refine WL.next ?_
      refine WP.seq ?_
      refine WP.seq ?_
      refine WP.draws mixedOk 18 ?_
      refine RW.e 0 rfl e_move <| RW.e 1 rfl e_neq <| RW.e 2 rfl e_move ?_
      refine RW.bool 33 rfl (fun hg => ?_) (fun hg => ?_)
      · exact absurd hg (by decide) -- end
      · skip
        refine RW.e 3 rfl e_move <| RW.e 4 rfl e_nil <| RW.e 5 rfl (e_fa f59_0) <| RW.e 6 rfl (e_load a53) <| RW.e 7 rfl e_move <| RW.e 8 rfl e_nil <| RW.e 9 rfl (e_fa f71_0) <| RW.e 10 rfl (e_fa f68_0) <| RW.e 11 rfl (e_load a24) <| RW.e 13 rfl e_move ?_
        refine RW.any (is := [12]) rfl ⟨?_, trivial⟩
        refine RWat.h rfl rfl rfl ?_
        refine (h_call (four_spec t.num) k28 ?_)
        intro a4 n4 c4
        refine ⟨⟨⟨_, rfl, .inl ⟨rfl, e_move⟩⟩, ⟨_, rfl, .inl ⟨rfl, (e_load a53)⟩⟩, ⟨_, rfl, .inl ⟨rfl, (e_fa f59_0)⟩⟩, ⟨_, rfl, .inl ⟨rfl, e_nil⟩⟩, ⟨_, rfl, .inl ⟨rfl, e_move⟩⟩, trivial⟩, ?_⟩
        refine RW.any (is := [14]) rfl ⟨?_, trivial⟩
        refine RWat.h rfl rfl rfl ?_
        refine (hl_append (xs := numB t.num 4) (ys := chgsB t.own) sl81 eB_ok z5 sl_rl (by simp only [numB_len, chgsB, List.length_append]; omega) (fun a5 n5 c5 => ?_))
        refine ⟨⟨⟨_, rfl, .inl ⟨rfl, (e_load a53)⟩⟩, ⟨_, rfl, .inl ⟨rfl, (e_fa f59_0)⟩⟩, ⟨_, rfl, .inl ⟨rfl, e_nil⟩⟩, ⟨_, rfl, .inl ⟨rfl, e_move⟩⟩, trivial⟩, ?_⟩
        refine RW.any (is := [15]) rfl ⟨?_, trivial⟩
        refine RWat.h rfl rfl rfl ?_
        refine (h_call (Add_spec (i := s.at_) (d := s.d) (sl_rl (xs := recG t)) hs.dok hs.hat (by rw [hs.waits]; simp)) k27 ?_)
        refine ⟨fun h => ?_, fun h h' => ?_, fun h h' => ?_⟩
        · have hnf : ¬ fitsG s t := fun hf => absurd hf.1 (by omega)
          rw [show comE s n = 5 by simp [comE, hf, hnf], show comN s n = 0 by simp [comN, hf, hnf], comG_txs hf, show comG s n = endsG s n by simp [comG, hf, commG, hnf]] at hK
          refine ⟨trivial, ?_⟩
          refine RW.e 16 rfl e_neq <| RW.e 17 rfl e_pick_f ?_
          refine RW.done ?_
          refine PO.next ?_
          refine WP.cond_t rfl ?_
          refine WP.seq ?_
          refine WP.reg ?_
          refine WL.e e_assign <| WL.e e_assign ?_
          refine WL.next ?_
          refine WP.ret ?_
          refine PO.past nofun ?_
          refine PO.cls (A := Gs p dp ((endsG s n))) (B := [cl p 59 [.pointer (some ⟨lp, 0, none⟩), .pointer (some ⟨mp, 0, none⟩), nm, .int .u32 (endsG s n).last.toNat, sv.v, lm], cl lp 124 [.pointer (some ⟨dp, 0, none⟩), .int .i64 (endsG s n).at_], Dk dp (endsG s n).d, Mm mp (endsG s n).rows, Mp eStr nm (List.map numC (endsG s n).nums), Sl 75 3 lookC (sv.v) (endsG s n).looks, Mp eU32 lm (List.map kvT (endsG s n).txs)]) (fun S h => ⟨⟨lp, mp, nm, lm, sv⟩, h⟩) ?_
          exact PO.fin Try.results9 (rv_tmp (rv_tmp rv_nil)) hK
        · have hnf : ¬ fitsG s t := fun hf => absurd hf.2 (by omega)
          rw [show comE s n = 5 by simp [comE, hf, hnf], show comN s n = 0 by simp [comN, hf, hnf], comG_txs hf, show comG s n = endsG s n by simp [comG, hf, commG, hnf]] at hK
          refine ⟨trivial, ?_⟩
          refine RW.e 16 rfl e_neq <| RW.e 17 rfl e_pick_f ?_
          refine RW.done ?_
          refine PO.next ?_
          refine WP.cond_t rfl ?_
          refine WP.seq ?_
          refine WP.reg ?_
          refine WL.e e_assign <| WL.e e_assign ?_
          refine WL.next ?_
          refine WP.ret ?_
          refine PO.past nofun ?_
          refine PO.cls (A := Gs p dp ((endsG s n))) (B := [cl p 59 [.pointer (some ⟨lp, 0, none⟩), .pointer (some ⟨mp, 0, none⟩), nm, .int .u32 (endsG s n).last.toNat, sv.v, lm], cl lp 124 [.pointer (some ⟨dp, 0, none⟩), .int .i64 (endsG s n).at_], Dk dp (endsG s n).d, Mm mp (endsG s n).rows, Mp eStr nm (List.map numC (endsG s n).nums), Sl 75 3 lookC (sv.v) (endsG s n).looks, Mp eU32 lm (List.map kvT (endsG s n).txs)]) (fun S h => ⟨⟨lp, mp, nm, lm, sv⟩, h⟩) ?_
          exact PO.fin Try.results9 (rv_tmp (rv_tmp rv_nil)) hK
        · have hfit : fitsG s t := ⟨h, h'⟩
          refine ⟨trivial, ?_⟩
          refine RW.e 16 rfl e_neq <| RW.e 17 rfl e_pick_f ?_
          refine RW.done ?_
          refine PO.next ?_
          refine WP.cond_f rfl ?_
          refine WP.skip ?_
          refine PO.next ?_
          refine WP.seq ?_
          refine WP.reg ?_
          refine WL.e e_move <| WL.e e_nil <| WL.e (e_fa f59_0) <| WL.e (e_load a53) ?_
          refine WL.h (h_call (Force_spec (d := addW s.d s.at_ (frame (recG t)) (secs (recG t).length)) (addW_ok _ _ _ _ hs.dok)) k29 ?_)
          refine WL.next ?_
          refine WP.cutL (fun (_ : Unit) => []) (fun (_ : Unit) => Gs p dp { endsG s n with d := (addW s.d s.at_ (frame (recG t)) (secs (recG t).length)).sync, at_ := s.at_ + secs (recG t).length, rows := changeR s.rows t.own } :: cl t.q 71 [.int .u32 t.num.toNat, t.sv.v] :: Sl 73 3 ChgM.c t.sv.v t.own :: Txs (delT s.txs n) :: R) (fun (_ : Unit) => True) ?_ ?_
          · skip
            refine WP.draws mixedOk 9 ?_
            refine RW.e 0 rfl e_move <| RW.e 1 rfl e_nil <| RW.e 2 rfl (e_fa f59_1) <| RW.e 3 rfl (e_load a54) <| RW.e 4 rfl e_move <| RW.e 5 rfl e_nil <| RW.e 6 rfl (e_fa f71_1) <| RW.e 7 rfl (e_load a69) ?_
            refine RW.any (is := [8]) rfl ⟨?_, trivial⟩
            refine RWat.h rfl rfl rfl ?_
            refine (h_call (Change_spec (l := s.rows) (sl_rl (xs := t.own)) hs.rising (by omega)) k24 ?_)
            refine ⟨fun hb => absurd hb (by rw [hs.bad (find_mem hf)]; simp), fun _ => ?_⟩
            refine ⟨trivial, ?_⟩
            refine RW.done ?_
            refine PO.cls (A := Gs p dp ({ endsG s n with d := (addW s.d s.at_ (frame (recG t)) (secs (recG t).length)).sync, at_ := s.at_ + secs (recG t).length, rows := changeR s.rows t.own })) (B := [cl p 59 [.pointer (some ⟨lp, 0, none⟩), .pointer (some ⟨mp, 0, none⟩), nm, .int .u32 (endsG s n).last.toNat, sv.v, lm], cl lp 124 [.pointer (some ⟨dp, 0, none⟩), .int .i64 (s.at_ + secs (recG t).length : Nat)], Dk dp (addW s.d s.at_ (frame (recG t)) (secs (recG t).length)).sync, Mm mp (changeR s.rows t.own), Mp eStr nm (List.map numC (endsG s n).nums), Sl 75 3 lookC (sv.v) (endsG s n).looks, Mp eU32 lm (List.map kvT (endsG s n).txs)]) (fun S h => ⟨⟨lp, mp, nm, lm, sv⟩, h⟩) ?_
            exact PO.meetK () trivial
          · intro _ _
            refine WP.seq ?_
            refine WP.draws mixedOk 11 ?_
            refine RW.e 0 rfl e_move <| RW.e 1 rfl e_move <| RW.e 2 rfl e_nil <| RW.e 3 rfl (e_fa f71_0) <| RW.e 4 rfl (e_fa f68_0) <| RW.e 5 rfl (e_load a24) <| RW.e 6 rfl e_move <| RW.e 7 rfl e_nil <| RW.e 8 rfl (e_fa f71_1) <| RW.e 9 rfl (e_load a69) ?_
            refine RW.any (is := [10]) rfl ⟨?_, trivial⟩
            refine RWat.h rfl rfl rfl ?_
            refine (h_call (kept_spec t.num (sl_rl (xs := t.own)) (by omega)) k30 ?_)
            refine ⟨trivial, ?_⟩
            refine RW.done ?_
            refine PO.next ?_
            refine WP.seq ?_
            refine WP.reg ?_
            refine WL.e e_move <| WL.e e_nil <| WL.e (e_fa f71_0) <| WL.e (e_fa f68_0) <| WL.e (e_load a24) <| WL.e e_assign <| WL.e e_assign ?_
            refine WL.next ?_
            refine WP.ret ?_
            rw [show comE s n = 0 by simp [comE, hf, hfit], show comN s n = t.num by simp [comN, hf, hfit], comG_txs hf, show comG s n = { { endsG s n with d := (addW s.d s.at_ (frame (recG t)) (secs (recG t).length)).sync, at_ := s.at_ + secs (recG t).length, rows := changeR s.rows t.own } with nums := keptG s.nums t.num t.own } by simp [comG, hf, commG, hfit]] at hK
            exact PO.fin Try.results9 (rv_tmp (rv_tmp rv_nil)) hK

end Go.SL
