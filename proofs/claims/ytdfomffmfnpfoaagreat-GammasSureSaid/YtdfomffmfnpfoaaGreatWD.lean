import Derived.Test.YtdfomffmfnpfoaaGreatWC
import Derived.Test.YtdfomffmfnpfoaaGreatSLs
import Derived.Test.YtdfomffmfnpfoaaGreatMA
import Derived.Test.YtdfomffmfnpfoaaGreatProg
import Derived.KernelRfl
set_option linter.unusedSimpArgs false
set_option linter.unusedVariables false
namespace Go.SL.WD
open Go Go.Proofs Go.SL
theorem a31 : aggOf Tryz.prog 31 = some none := by kernel_rfl
theorem a32 : aggOf Tryz.prog 32 = some none := by kernel_rfl
theorem a34 : aggOf Tryz.prog 34 = some (some 4) := by kernel_rfl
theorem a39 : aggOf Tryz.prog 39 = some none := by kernel_rfl
theorem a49 : aggOf Tryz.prog 49 = some (some 1) := by kernel_rfl
theorem a72 : aggOf Tryz.prog 72 = some none := by kernel_rfl
theorem a73 : aggOf Tryz.prog 73 = some none := by kernel_rfl
theorem a74 : aggOf Tryz.prog 74 = some none := by kernel_rfl
theorem a76 : aggOf Tryz.prog 76 = some none := by kernel_rfl
theorem a77 : aggOf Tryz.prog 77 = some none := by kernel_rfl
theorem a85 : aggOf Tryz.prog 85 = some (some 1) := by kernel_rfl
theorem a86 : aggOf Tryz.prog 86 = some none := by kernel_rfl
theorem a9 : aggOf Tryz.prog 9 = some none := by kernel_rfl
theorem a96 : aggOf Tryz.prog 96 = some (some 2) := by kernel_rfl
theorem f34_0 : fldOf Tryz.prog 34 0 = some 0 := by kernel_rfl
theorem f34_1 : fldOf Tryz.prog 34 1 = some 1 := by kernel_rfl
theorem f34_3 : fldOf Tryz.prog 34 3 = some 3 := by kernel_rfl
theorem f79_0 : fldOf Tryz.prog 79 0 = some 0 := by kernel_rfl
theorem f79_1 : fldOf Tryz.prog 79 1 = some 1 := by kernel_rfl
theorem f79_4 : fldOf Tryz.prog 79 4 = some 4 := by kernel_rfl
theorem f79_5 : fldOf Tryz.prog 79 5 = some 5 := by kernel_rfl
theorem f85_0 : fldOf Tryz.prog 85 0 = some 0 := by kernel_rfl
theorem f88_0 : fldOf Tryz.prog 88 0 = some 0 := by kernel_rfl
theorem f88_1 : fldOf Tryz.prog 88 1 = some 1 := by kernel_rfl
theorem k24 : callable Tryz.prog 24 = true := by kernel_rfl
theorem k25 : callable Tryz.prog 25 = true := by kernel_rfl
theorem k26 : callable Tryz.prog 26 = true := by kernel_rfl
theorem k27 : callable Tryz.prog 27 = true := by kernel_rfl
theorem k28 : callable Tryz.prog 28 = true := by kernel_rfl
theorem k29 : callable Tryz.prog 29 = true := by kernel_rfl
theorem k30 : callable Tryz.prog 30 = true := by kernel_rfl
theorem k31 : callable Tryz.prog 31 = true := by kernel_rfl
theorem k32 : callable Tryz.prog 32 = true := by kernel_rfl
theorem k33 : callable Tryz.prog 33 = true := by kernel_rfl
theorem k34 : callable Tryz.prog 34 = true := by kernel_rfl
theorem k35 : callable Tryz.prog 35 = true := by kernel_rfl
theorem k36 : callable Tryz.prog 36 = true := by kernel_rfl
theorem k37 : callable Tryz.prog 37 = true := by kernel_rfl
theorem k38 : callable Tryz.prog 38 = true := by kernel_rfl
theorem k39 : callable Tryz.prog 39 = true := by kernel_rfl
theorem k75 : callable Tryz.prog 75 = true := by kernel_rfl
theorem mixedOk : Tryz.prog.follows .mixedOrders = true := by kernel_rfl
theorem p103 : placesOf Tryz.prog 103 = some [(0, 1), (1, 1), (2, 1)] := by kernel_rfl
theorem p105 : placesOf Tryz.prog 105 = some [(0, 1), (1, 2)] := by kernel_rfl
theorem p49 : placesOf Tryz.prog 49 = some [(0, 1)] := by kernel_rfl
theorem pt72 : isPtr Tryz.prog 72 = true := by kernel_rfl
theorem s39 : szOf Tryz.prog 39 = some 1 := by kernel_rfl
theorem s49 : szOf Tryz.prog 49 = some 1 := by kernel_rfl
theorem s72 : szOf Tryz.prog 72 = some 1 := by kernel_rfl
theorem s76 : szOf Tryz.prog 76 = some 1 := by kernel_rfl
theorem s86 : szOf Tryz.prog 86 = some 1 := by kernel_rfl
theorem s96 : szOf Tryz.prog 96 = some 2 := by kernel_rfl
theorem sl76 : slOf Tryz.prog 76 = some (105, 3, 40) := by kernel_rfl
theorem sl81 : slOf Tryz.prog 81 = some (5, 1, 1) := by kernel_rfl
theorem sl86 : slOf Tryz.prog 86 = some (103, 3, 24) := by kernel_rfl
theorem z103 : zeroOf Tryz.prog 103 = some [.string .empty, .int .u32 0, .bool false] := by kernel_rfl
theorem z105 : zeroOf Tryz.prog 105 = some [.int .u32 0, .string .empty, .string .empty] := by kernel_rfl
theorem z39 : zeroOf Tryz.prog 39 = some [.int .i64 0] := by kernel_rfl
theorem z49 : zeroOf Tryz.prog 49 = some [.slice none 0 0] := by kernel_rfl
theorem z5 : zeroOf Tryz.prog 5 = some [.int .u8 0] := by kernel_rfl
theorem z72 : zeroOf Tryz.prog 72 = some [.pointer none] := by kernel_rfl
theorem z96 : zeroOf Tryz.prog 96 = some [.string .empty, .string .empty] := by kernel_rfl
theorem zz72 : (Tryz.prog.info? 72).bind (·.zero) = some (.pointer none) := by kernel_rfl
end Go.SL.WD
namespace Go.SL
open Go Go.Proofs WD
def DoJ (b2 b3 b4 q : Nat) : HP := fun S => ∃ _ : Unit, stars [cl b4 72 [.pointer (some ⟨q, 0, none⟩)], cl b2 49 [.slice none 0 0], cl b3 39 [.int .i64 0]] S
def DoX (b2 b3 b4 q : Nat) (j : Code) : HP := fun S => ∃ _ : { u : Unit // j = .ret }, stars [cl b4 72 [.pointer (some ⟨q, 0, none⟩)], cl b2 49 [.slice none 0 0], cl b3 39 [.int .i64 8]] S

theorem Do_spec {g : World} {p dp b : Nat} {s : GamV} (n : UInt32) (x : OpM) (hs : GamOk s b) : Spec Tryz.prog g 13 [.pointer (some ⟨p, 0, none⟩), .int .u32 n.toNat, x.v] [Gs p dp s, Txs s.txs] fun K R => match doG s n x with
      | .err s' e => K (.tuple #[.agg #[.slice none 0 0], .int .i64 e]) (Gs p dp s' :: Txs s'.txs :: R)
      | .put t c => ∀ sv', K (.tuple #[.agg #[.slice none 0 0], .int .i64 0]) (Gs p dp (putG s t.id c sv') :: Txs (putG s t.id c sv').txs :: R)
      | .look t => ∀ a m c, K (.tuple #[.agg #[.slice a m c], .int .i64 0]) (Sl 70 2 RowM.c (.slice a m c) (scanR (changeR s.rows t.own) (spanOf x) 256) :: Gs p dp (lookG s t (spanOf x)) :: Txs s.txs :: R) := by
  have hnd := hs.ids
  have hown : ∀ x ∈ s.txs, x.own.length ≤ 68719476736 := fun x hx => by have := hs.own_le hx; have := hs.bb; omega
  have hlk : s.looks.length ≤ 68719476736 := by have := hs.looks; have := hs.bb; omega
  refine Spec.intro Tryz.func13 rfl Tryz.ntmps13 rfl fun R K hK => ?_
  refine WP.seq ?_
  refine WP.reg ?_
  refine WL.h (h_box fun b1 => ?_)
  refine WL.h (h_alloc z49 fun b2 => ?_)
  refine WL.h (h_alloc z39 fun b3 => ?_)
  refine WL.next ?_
  refine WP.seq ?_
  refine WP.block ?_
  refine WP.seq ?_
  refine WP.reg ?_
  refine WL.e e_move ?_
  refine WL.h (h_call (Gthere_spec) k24 ?_)
  refine WL.e e_not <| WL.e e_assign ?_
  refine WL.next ?_
  refine WP.cond_f rfl ?_
  refine WP.seq ?_
  refine WP.reg ?_
  refine WL.e (e_loadN a34) ?_
  refine WL.h (h_call (opCheck_spec _) k33 ?_)
  refine WL.e e_not <| WL.e e_assign ?_
  refine WL.next ?_
  refine WP.cond rfl (fun h1 => ?_) (fun h1 => ?_)
  · replace h1 : opOk x = false := by simpa using h1
    rw [show doG s n x = .err s 1 by simp [doG, h1]] at hK
    refine WP.seq ?_
    refine WP.reg ?_
    refine WL.e (e_build z49 p49 (.z (.slice none 0 0) <| .n)) ?_
    refine WL.h' (h_store s49 ?_)
    refine WL.h' (h_store s39 ?_)
    refine WL.next ?_
    refine WP.ret ?_
    refine PO.blockR ?_
    refine PO.past nofun ?_
    exact PO.fin Tryz.results13 (rv_cellN a49 (rv_cell a39 rv_nil)) hK
  · replace h1 : opOk x = true := by simpa using h1
    refine WP.opn (Gs_op (p := p) (dp := dp) (s := s)) fun x => ?_
    obtain ⟨lp, mp, nm, lm, sv⟩ := x
    dsimp only
    refine WP.skip ?_
    refine PO.blockN ?_
    refine PO.next ?_
    refine WP.seq ?_
    refine WP.reg ?_
    refine WL.e e_move <| WL.e e_nil <| WL.e (e_fa f79_5) <| WL.e (e_load a77) <| WL.e e_move ?_
    refine WL.e (e_lookT Tryz.underlying77 (key_u32 Tryz.underlying31) zz72) ?_
    refine WL.h (h_alloc z72 fun b4 => ?_)
    refine WL.h' (h_store s72 ?_)
    refine WL.next ?_
    refine WP.seq ?_
    refine WP.seq ?_
    refine WP.reg ?_
    refine WL.e (e_load a72) <| WL.e (e_peq pt72) ?_
    refine WL.next ?_
    refine WP.cond rfl (fun h2 => ?_) (fun h2 => ?_)
    · have hf : findT s.txs n = none := by simpa using h2
      rw [show doG s n x = .err s 6 by simp [doG, h1, hf]] at hK
      refine WP.seq ?_
      refine WP.reg ?_
      refine WL.e (e_build z49 p49 (.z (.slice none 0 0) <| .n)) ?_
      refine WL.h' (h_store s49 ?_)
      refine WL.h' (h_store s39 ?_)
      refine WL.next ?_
      refine WP.ret ?_
      refine PO.past nofun ?_
      refine PO.cls (A := Gs p dp (s)) (B := [cl p 79 [.pointer (some ⟨lp, 0, none⟩), .pointer (some ⟨mp, 0, none⟩), nm, .int .u32 s.last.toNat, sv.v, lm], cl lp 143 [.pointer (some ⟨dp, 0, none⟩), .int .i64 s.at_], Dk dp s.d, Mm mp s.rows, Mp eStr nm (List.map numC s.nums), Sl 105 3 lookC (sv.v) s.looks, Mp eU32 lm (List.map kvT s.txs)]) (fun S h => ⟨⟨lp, mp, nm, lm, sv⟩, h⟩) ?_
      exact PO.fin Tryz.results13 (rv_cellN a49 (rv_cell a39 rv_nil)) hK
    · obtain ⟨t, hf⟩ : ∃ t, findT s.txs n = some t := by cases e : findT s.txs n with
        | none => rw [e] at h2; cases h2
        | some t => exact ⟨t, rfl⟩
      rw [hf, Option.map_some]
      obtain ⟨hid, A, B, hts, hdel, _⟩ := find_mid hf
      refine WP.cls (A := Gs p dp (s)) (B := [cl p 79 [.pointer (some ⟨lp, 0, none⟩), .pointer (some ⟨mp, 0, none⟩), nm, .int .u32 s.last.toNat, sv.v, lm], cl lp 143 [.pointer (some ⟨dp, 0, none⟩), .int .i64 s.at_], Dk dp s.d, Mm mp s.rows, Mp eStr nm (List.map numC s.nums), Sl 105 3 lookC (sv.v) s.looks, Mp eU32 lm (List.map kvT s.txs)]) (fun S h => ⟨⟨lp, mp, nm, lm, sv⟩, h⟩) ?_
      refine WP.opn (Txs_out hts) fun _ => ?_
      refine WP.skip ?_
      refine PO.next ?_
      refine WP.cutL (fun (q : Nat) => [(9, .pointer (some ⟨q, 0, none⟩)), (10, .bool (writes x))]) (fun (q : Nat) => cl q 96 [.string (spanOf x).a, .string (spanOf x).b] :: cl b4 72 [.pointer (some ⟨t.q, 0, none⟩)] :: cl b1 34 (OpM.c x) :: cl b2 49 [.slice none 0 0] :: cl b3 39 [.int .i64 0] :: Gs p dp s :: cl t.q 88 [.int .u32 t.num.toNat, t.sv.v] :: Sl 103 3 ChgM.c t.sv.v t.own :: Txs (A ++ B) :: R) (fun (q : Nat) => True) ?_ ?_
      · skip
        refine WP.draws mixedOk 7 ?_
        refine RW.e 0 rfl (e_loadN a34) <| RW.e 2 rfl (e_loadN a34) ?_
        refine RW.any (is := [1, 4]) rfl ⟨?_, ?_, trivial⟩
        · skip
          refine RWat.h rfl rfl rfl ?_
          refine (h_call (Of_spec _) k34 ?_)
          refine ⟨⟨⟨_, rfl, .inl ⟨rfl, (e_loadN a34)⟩⟩, trivial⟩, ?_⟩
          refine RW.any (is := [3, 4]) rfl ⟨?_, ?_, trivial⟩
          · skip
            refine RWat.h rfl rfl rfl ?_
            refine (h_call (Writes_spec _) k35 ?_)
            refine ⟨trivial, ?_⟩
            refine RW.any (is := [4]) rfl ⟨?_, trivial⟩
            refine RWat.h rfl rfl rfl ?_
            refine (h_alloc z96 fun b5 => ?_)
            refine ⟨trivial, ?_⟩
            refine RW.any (is := [5]) rfl ⟨?_, trivial⟩
            refine RWat.h' rfl rfl rfl ?_
            refine (h_store s96 ?_)
            refine ⟨trivial, ?_⟩
            refine RW.e 6 rfl e_assign ?_
            refine RW.done ?_
            exact PO.meetK b5 trivial
          · skip
            refine RWat.h rfl rfl rfl ?_
            refine (h_alloc z96 fun b6 => ?_)
            refine ⟨⟨⟨_, rfl, .inl ⟨rfl, (e_loadN a34)⟩⟩, trivial⟩, ?_⟩
            refine RW.any (is := [3]) rfl ⟨?_, trivial⟩
            refine RWat.h rfl rfl rfl ?_
            refine (h_call (Writes_spec _) k35 ?_)
            refine ⟨trivial, ?_⟩
            refine RW.any (is := [5]) rfl ⟨?_, trivial⟩
            refine RWat.h' rfl rfl rfl ?_
            refine (h_store s96 ?_)
            refine ⟨trivial, ?_⟩
            refine RW.e 6 rfl e_assign ?_
            refine RW.done ?_
            exact PO.meetK b6 trivial
        · skip
          refine RWat.h rfl rfl rfl ?_
          refine (h_alloc z96 fun b7 => ?_)
          refine ⟨⟨⟨_, rfl, .inl ⟨rfl, (e_loadN a34)⟩⟩, ⟨_, rfl, .inl ⟨rfl, (e_loadN a34)⟩⟩, trivial⟩, ?_⟩
          refine RW.any (is := [1]) rfl ⟨?_, trivial⟩
          refine RWat.h rfl rfl rfl ?_
          refine (h_call (Of_spec _) k34 ?_)
          refine ⟨⟨⟨_, rfl, .inl ⟨rfl, (e_loadN a34)⟩⟩, trivial⟩, ?_⟩
          refine RW.any (is := [3]) rfl ⟨?_, trivial⟩
          refine RWat.h rfl rfl rfl ?_
          refine (h_call (Writes_spec _) k35 ?_)
          refine ⟨trivial, ?_⟩
          refine RW.any (is := [5]) rfl ⟨?_, trivial⟩
          refine RWat.h' rfl rfl rfl ?_
          refine (h_store s96 ?_)
          refine ⟨trivial, ?_⟩
          refine RW.e 6 rfl e_assign ?_
          refine RW.done ?_
          exact PO.meetK b7 trivial
      · intro q _
        refine WP.seq ?_
        refine WP.seq ?_
        refine WP.reg ?_
        refine WL.e e_move <| WL.e (e_load a72) <| WL.e (e_loadN a96) <| WL.e e_move ?_
        refine WL.h (h_call (late_spec (spanOf x) (writes x) hts hnd hown hlk) k36 ?_)
        refine WL.next ?_
        refine WP.cond rfl (fun h3 => ?_) (fun h3 => ?_)
        · rw [show doG s n x = .err (endsG s n) 9 by simp [doG, h1, hf, h3]] at hK
          rw [← hdel]
          refine WP.seq ?_
          refine WP.reg ?_
          refine WL.e e_move <| WL.e e_move ?_
          refine WL.h (h_call (ends_spec n hlk) k26 ?_)
          refine WL.next ?_
          refine WP.seq ?_
          refine WP.reg ?_
          refine WL.e (e_build z49 p49 (.z (.slice none 0 0) <| .n)) ?_
          refine WL.h' (h_store s49 ?_)
          refine WL.h' (h_store s39 ?_)
          refine WL.next ?_
          refine WP.ret ?_
          refine PO.past nofun ?_
          exact PO.fin Tryz.results13 (rv_cellN a49 (rv_cell a39 rv_nil)) hK
        · skip
          refine WP.skip ?_
          refine PO.next ?_
          refine WP.seq ?_
          refine WP.seq ?_
          refine WP.reg ?_
          refine WL.e e_move <| WL.e (e_load a72) <| WL.e (e_loadN a96) ?_
          refine WL.h (h_call (under_spec (spanOf x)) k37 ?_)
          intro c1 c2 c3
          refine WL.next ?_
          refine WP.block ?_
          refine WP.cls (A := DoJ b2 b3 b4 t.q) (B := [cl b4 72 [.pointer (some ⟨t.q, 0, none⟩)], cl b2 49 [.slice none 0 0], cl b3 39 [.int .i64 0]]) (fun S h => ⟨(), h⟩) ?_
          refine WP.rangeL (R := ?RR) (f := 75) (fs := []) (cs := [.pointer (some ⟨c1, 0, none⟩), .pointer (some ⟨c2, 0, none⟩), .pointer (some ⟨c3, 0, none⟩)]) (fun _ => DoJ b2 b3 b4 t.q) (fun _ _ => DoX b2 b3 b4 t.q) (fun _ y => ¬ y < t.num) (under_iter (c1 := c1) (c2 := c2) (c3 := c3) (p := p) (dp := dp) (s := s) (t := t) (A := A) (B := B) (sp := spanOf x) hts hnd hown) k75 ?hLL ?_ ?_ ?_ (fun _ => rfl)
          case hLL => repeat first | exact .nil | exact Pick.z | apply Pick.s | apply Split.cons
          · rintro lb db fn tmps pre y R2 hp hh
            refine WP.opn (B := fun _ : Unit => [cl b4 72 [.pointer (some ⟨t.q, 0, none⟩)], cl b2 49 [.slice none 0 0], cl b3 39 [.int .i64 0]]) (fun _ h => h) fun _ => ?_
            refine WP.reg ?_
            refine WL.e e_assign ?_
            refine WL.nil ?_
            refine PO.asg rfl (by repeat first | exact .z | apply Put.s) ?_
            refine WP.block ?_
            refine WP.seq ?_
            refine WP.reg ?_
            refine WL.e e_move <| WL.e (e_load a72) <| WL.e e_nil <| WL.e (e_fa f88_0) <| WL.e (e_fa f85_0) <| WL.e (e_load a31) <| WL.e (e_lss32) ?_
            refine WL.next ?_
            refine WP.cond rfl (fun h5 => ?_) (fun h5 => ?_)
            · skip
              refine WP.seq ?_
              refine WP.reg ?_
              refine WL.e (e_build z49 p49 (.z (.slice none 0 0) <| .n)) ?_
              refine WL.h' (h_store s49 ?_)
              refine WL.h' (h_store s39 ?_)
              refine WL.next ?_
              refine WP.ret ?_
              refine PO.blockR ?_
              refine PO.cls (A := DoX b2 b3 b4 t.q .ret) (B := [cl b4 72 [.pointer (some ⟨t.q, 0, none⟩)], cl b2 49 [.slice none 0 0], cl b3 39 [.int .i64 8]]) (fun S h => ⟨⟨(), rfl⟩, h⟩) ?_
              exact PO.rnd_ret (by simpa using h5) (by repeat first | exact .refl | exact Pick.z | apply Pick.s | apply Sub.cons | apply Sub.drop)
            · skip
              refine WP.skip ?_
              refine PO.blockN ?_
              refine PO.cls (A := DoJ b2 b3 b4 t.q) (B := [cl b4 72 [.pointer (some ⟨t.q, 0, none⟩)], cl b2 49 [.slice none 0 0], cl b3 39 [.int .i64 0]]) (fun S h => ⟨(), h⟩) ?_
              exact PO.rnd (by simpa using h5) (by repeat first | exact .refl | exact Pick.z | apply Pick.s | apply Sub.cons | apply Sub.drop)
          · intro db xs hx hh
            have hu1 : (underL s.txs t.id (spanOf x)).any (fun n => decide (n < t.num)) = false := by rw [List.any_eq_false]; intro n hn; have := hist_all hh n (hx.symm.subset hn); simpa using this
            refine PO.opn (B := fun _ : Unit => [cl b4 72 [.pointer (some ⟨t.q, 0, none⟩)], cl b2 49 [.slice none 0 0], cl b3 39 [.int .i64 0]]) (fun _ h => h) fun _ => ?_
            refine PO.blockN ?_
            refine PO.next ?_
            refine WP.seq ?_
            refine WP.seq ?_
            refine WP.reg ?_
            refine WL.e (e_fa f34_0) <| WL.e (e_load a32) ?_
            refine WL.next ?_
            refine WP.block ?_
            refine WP.seq ?_
            refine WP.reg ?_
            refine WL.e (e_eql8 (b := 2)) <| WL.e e_assign ?_
            refine WL.next ?_
            refine WP.cond rfl (fun h6 => ?_) (fun h6 => ?_)
            · replace h6 : x.kind = 2 := by simpa using h6
              rw [show doG s n x = .put t ⟨x.key, x.val, false⟩ by simp only [doG, h1, hf, h3, hu1]; simp [writes, h6, chgOf]] at hK
              refine WP.seq ?_
              refine WP.draws mixedOk 15 ?_
              refine RW.e 0 rfl (e_load a72) <| RW.e 1 rfl (e_load a72) <| RW.e 2 rfl e_nil <| RW.e 3 rfl (e_fa f88_1) <| RW.e 4 rfl (e_load a86) <| RW.e 5 rfl (e_fa f34_1) <| RW.e 6 rfl (e_load a9) <| RW.e 7 rfl (e_fa f34_3) <| RW.e 8 rfl (e_load a31) <| RW.e 9 rfl (e_build z103 p103 (.o (.tmp 68) rfl <| .o (.tmp 70) rfl <| .z (.bool false) <| .n)) ?_
              refine RW.any (is := [10]) rfl ⟨?_, trivial⟩
              refine RWat.h rfl rfl rfl ?_
              refine (h_bs sl86 z103 (.a3 (.tmp 71) rfl <| .n) fun b8 => ?_)
              refine ⟨⟨⟨_, rfl, .inl ⟨rfl, (e_load a86)⟩⟩, ⟨_, rfl, .inl ⟨rfl, (e_fa f88_1)⟩⟩, ⟨_, rfl, .inl ⟨rfl, e_nil⟩⟩, ⟨_, rfl, .inl ⟨rfl, (e_load a72)⟩⟩, ⟨_, rfl, .inl ⟨rfl, (e_load a72)⟩⟩, trivial⟩, ?_⟩
              refine RW.any (is := [11]) rfl ⟨?_, trivial⟩
              refine RWat.h rfl rfl rfl ?_
              refine (hl_append (xs := t.own) (ys := [⟨x.key, x.val, false⟩]) sl86 chgE z103 (lit_rl chgE [⟨x.key, x.val, false⟩] rfl) (by have := hs.own_le (find_mem hf); have := hs.bb; simp; omega) (fun a7 m7 c7 => ?_))
              refine ⟨⟨⟨_, rfl, .inl ⟨rfl, (e_load a72)⟩⟩, trivial⟩, ?_⟩
              refine RW.e 12 rfl e_nil <| RW.e 13 rfl (e_fa f88_1) ?_
              refine RW.any (is := [14]) rfl ⟨?_, trivial⟩
              refine RWat.h' rfl rfl rfl ?_
              refine (h_store s86 ?_)
              refine ⟨trivial, ?_⟩
              refine RW.done ?_
              refine PO.next ?_
              refine WP.seq ?_
              refine WP.reg ?_
              refine WL.e (e_build z49 p49 (.z (.slice none 0 0) <| .n)) ?_
              refine WL.h' (h_store s49 ?_)
              refine WL.h' (h_store s39 ?_)
              refine WL.next ?_
              refine WP.ret ?_
              refine PO.blockR ?_
              refine PO.past nofun ?_
              refine PO.cls (A := Txs (A ++ { t with own := t.own ++ [⟨x.key, x.val, false⟩], sv := ⟨a7, m7, c7⟩ } :: B)) (B := [cl t.q 88 [.int .u32 t.num.toNat, .slice a7 m7 c7], Sl 103 3 ChgM.c (.slice a7 m7 c7) (t.own ++ [⟨x.key, x.val, false⟩]), Txs (A ++ B)]) (fun S h => Txs_in (t := { t with own := t.own ++ [⟨x.key, x.val, false⟩], sv := ⟨a7, m7, c7⟩ }) S h) ?_
              refine PO.conv (conv1 (A := Gs p dp s) (B := Gs p dp (putG s t.id (⟨x.key, x.val, false⟩) ⟨a7, m7, c7⟩)) (Gs_txs (putT_kv s.txs t.id _ _)) (by repeat first | exact .z | apply Put.s)) ?_
              have hpt : (putG s t.id (⟨x.key, x.val, false⟩) ⟨a7, m7, c7⟩).txs = A ++ { t with own := t.own ++ [⟨x.key, x.val, false⟩], sv := ⟨a7, m7, c7⟩ } :: B := by show putT s.txs t.id _ _ = _; rw [hts]; exact putT_mid (hts ▸ hnd) _ _
              rw [← hpt]
              exact PO.finM (by repeat first | exact .z | apply Put.s) Tryz.results13 (rv_cellN a49 (rv_cell a39 rv_nil)) (hK _)
            · replace h6 : x.kind ≠ 2 := by simpa using h6
              refine WP.seq ?_
              refine WP.reg ?_
              refine WL.e (e_eql8 (b := 3)) <| WL.e e_assign ?_
              refine WL.next ?_
              refine WP.cond rfl (fun h7 => ?_) (fun h7 => ?_)
              · replace h7 : x.kind = 3 := by simpa using h7
                rw [show doG s n x = .put t ⟨x.key, 0, true⟩ by simp only [doG, h1, hf, h3, hu1]; simp [writes, h7, chgOf]] at hK
                refine WP.seq ?_
                refine WP.draws mixedOk 13 ?_
                refine RW.e 0 rfl (e_load a72) <| RW.e 1 rfl (e_load a72) <| RW.e 2 rfl e_nil <| RW.e 3 rfl (e_fa f88_1) <| RW.e 4 rfl (e_load a86) <| RW.e 5 rfl (e_fa f34_1) <| RW.e 6 rfl (e_load a9) <| RW.e 7 rfl (e_build z103 p103 (.o (.tmp 85) rfl <| .z (.int .u32 0) <| .o (.const (.bool true)) rfl <| .n)) ?_
                refine RW.any (is := [8]) rfl ⟨?_, trivial⟩
                refine RWat.h rfl rfl rfl ?_
                refine (h_bs sl86 z103 (.a3 (.tmp 86) rfl <| .n) fun b9 => ?_)
                refine ⟨⟨⟨_, rfl, .inl ⟨rfl, (e_load a86)⟩⟩, ⟨_, rfl, .inl ⟨rfl, (e_fa f88_1)⟩⟩, ⟨_, rfl, .inl ⟨rfl, e_nil⟩⟩, ⟨_, rfl, .inl ⟨rfl, (e_load a72)⟩⟩, ⟨_, rfl, .inl ⟨rfl, (e_load a72)⟩⟩, trivial⟩, ?_⟩
                refine RW.any (is := [9]) rfl ⟨?_, trivial⟩
                refine RWat.h rfl rfl rfl ?_
                refine (hl_append (xs := t.own) (ys := [⟨x.key, 0, true⟩]) sl86 chgE z103 (lit_rl chgE [⟨x.key, 0, true⟩] rfl) (by have := hs.own_le (find_mem hf); have := hs.bb; simp; omega) (fun a7 m7 c7 => ?_))
                refine ⟨⟨⟨_, rfl, .inl ⟨rfl, (e_load a72)⟩⟩, trivial⟩, ?_⟩
                refine RW.e 10 rfl e_nil <| RW.e 11 rfl (e_fa f88_1) ?_
                refine RW.any (is := [12]) rfl ⟨?_, trivial⟩
                refine RWat.h' rfl rfl rfl ?_
                refine (h_store s86 ?_)
                refine ⟨trivial, ?_⟩
                refine RW.done ?_
                refine PO.next ?_
                refine WP.seq ?_
                refine WP.reg ?_
                refine WL.e (e_build z49 p49 (.z (.slice none 0 0) <| .n)) ?_
                refine WL.h' (h_store s49 ?_)
                refine WL.h' (h_store s39 ?_)
                refine WL.next ?_
                refine WP.ret ?_
                refine PO.blockR ?_
                refine PO.past nofun ?_
                refine PO.cls (A := Txs (A ++ { t with own := t.own ++ [⟨x.key, 0, true⟩], sv := ⟨a7, m7, c7⟩ } :: B)) (B := [cl t.q 88 [.int .u32 t.num.toNat, .slice a7 m7 c7], Sl 103 3 ChgM.c (.slice a7 m7 c7) (t.own ++ [⟨x.key, 0, true⟩]), Txs (A ++ B)]) (fun S h => Txs_in (t := { t with own := t.own ++ [⟨x.key, 0, true⟩], sv := ⟨a7, m7, c7⟩ }) S h) ?_
                refine PO.conv (conv1 (A := Gs p dp s) (B := Gs p dp (putG s t.id (⟨x.key, 0, true⟩) ⟨a7, m7, c7⟩)) (Gs_txs (putT_kv s.txs t.id _ _)) (by repeat first | exact .z | apply Put.s)) ?_
                have hpt : (putG s t.id (⟨x.key, 0, true⟩) ⟨a7, m7, c7⟩).txs = A ++ { t with own := t.own ++ [⟨x.key, 0, true⟩], sv := ⟨a7, m7, c7⟩ } :: B := by show putT s.txs t.id _ _ = _; rw [hts]; exact putT_mid (hts ▸ hnd) _ _
                rw [← hpt]
                exact PO.finM (by repeat first | exact .z | apply Put.s) Tryz.results13 (rv_cellN a49 (rv_cell a39 rv_nil)) (hK _)
              · replace h7 : x.kind ≠ 3 := by simpa using h7
                rw [show doG s n x = .look t by simp only [doG, h1, hf, h3, hu1]; simp [writes, h6, h7]] at hK
                refine WP.opn (Gs_op (p := p) (dp := dp) (s := s)) fun x => ?_
                obtain ⟨lp, mp, nm, lm, sv⟩ := x
                dsimp only
                refine WP.skip ?_
                refine PO.blockN ?_
                refine PO.next ?_
                refine WP.seq ?_
                refine WP.draws mixedOk 16 ?_
                refine RW.e 0 rfl e_move <| RW.e 1 rfl e_move <| RW.e 2 rfl e_nil <| RW.e 3 rfl (e_fa f79_4) <| RW.e 4 rfl (e_load a76) <| RW.e 5 rfl (e_load a72) <| RW.e 6 rfl e_nil <| RW.e 7 rfl (e_fa f88_0) <| RW.e 8 rfl (e_loadN a85) <| RW.e 9 rfl (e_loadN a96) <| RW.e 10 rfl (e_build z105 p105 (.a1 (.tmp 100) rfl <| .a2 (.tmp 101) rfl <| .n)) ?_
                refine RW.any (is := [11]) rfl ⟨?_, trivial⟩
                refine RWat.h rfl rfl rfl ?_
                refine (h_bs sl76 z105 (.a3 (.tmp 102) rfl <| .n) fun b10 => ?_)
                refine ⟨⟨⟨_, rfl, .inl ⟨rfl, (e_load a76)⟩⟩, ⟨_, rfl, .inl ⟨rfl, (e_fa f79_4)⟩⟩, ⟨_, rfl, .inl ⟨rfl, e_nil⟩⟩, ⟨_, rfl, .inl ⟨rfl, e_move⟩⟩, ⟨_, rfl, .inl ⟨rfl, e_move⟩⟩, trivial⟩, ?_⟩
                refine RW.any (is := [12]) rfl ⟨?_, trivial⟩
                refine RWat.h rfl rfl rfl ?_
                refine (hl_append (xs := s.looks) (ys := [(t.num, spanOf x)]) sl76 lookE z105 (lit_rl lookE [(t.num, spanOf x)] rfl) (by have := hs.looks; have := hs.bb; simp; omega) (fun a7 m7 c7 => ?_))
                refine ⟨⟨⟨_, rfl, .inl ⟨rfl, e_move⟩⟩, trivial⟩, ?_⟩
                refine RW.e 13 rfl e_nil <| RW.e 14 rfl (e_fa f79_4) ?_
                refine RW.any (is := [15]) rfl ⟨?_, trivial⟩
                refine RWat.h' rfl rfl rfl ?_
                refine (h_store s76 ?_)
                refine ⟨trivial, ?_⟩
                refine RW.done ?_
                refine PO.next ?_
                refine WP.seq ?_
                refine WP.reg ?_
                refine WL.e e_move <| WL.e e_nil <| WL.e (e_fa f79_1) <| WL.e (e_load a74) ?_
                refine WL.h (h_call (Twin_spec (l := s.rows) (by have := hs.sum; have := hs.bb; omega)) k38 ?_)
                intro q2
                refine WL.e e_assign ?_
                refine WL.next ?_
                refine WP.seq ?_
                refine WP.reg ?_
                refine WL.e e_move <| WL.e (e_load a72) <| WL.e e_nil <| WL.e (e_fa f88_1) <| WL.e (e_load a86) ?_
                refine WL.h (h_call (Change_spec (sl_rl (xs := t.own)) hs.rising (by have := hs.own_le (find_mem hf); have := hs.bb; omega)) k31 ?_)
                refine ⟨fun hb => absurd hb (by rw [hs.bad (find_mem hf)]; simp), fun _ => ?_⟩
                obtain ⟨hr1, hr2⟩ := changeR_rising t.own hs.rising
                refine WL.next ?_
                refine WP.seq ?_
                refine WP.reg ?_
                refine WL.e e_move <| WL.e (e_loadN a96) ?_
                refine WL.h (h_call (Scan_spec (spanOf x) 256 hr1 (by have := hs.own_le (find_mem hf); have := hs.bb; omega) (by decide)) k39 ?_)
                intro a8 m8 c8
                refine WL.e (e_build z49 p49 (.o (.tmp 120) rfl <| .n)) ?_
                refine WL.h' (h_store s49 ?_)
                refine WL.h' (h_store s39 ?_)
                refine WL.next ?_
                refine WP.ret ?_
                refine PO.cls (A := Gs p dp (lookG s t (spanOf x))) (B := [cl p 79 [.pointer (some ⟨lp, 0, none⟩), .pointer (some ⟨mp, 0, none⟩), nm, .int .u32 s.last.toNat, .slice a7 m7 c7, lm], cl lp 143 [.pointer (some ⟨dp, 0, none⟩), .int .i64 s.at_], Dk dp s.d, Mm mp s.rows, Mp eStr nm (List.map numC s.nums), Sl 105 3 lookC (.slice a7 m7 c7) (s.looks ++ [(t.num, spanOf x)]), Mp eU32 lm (List.map kvT s.txs)]) (fun S h => ⟨⟨lp, mp, nm, lm, ⟨a7, m7, c7⟩⟩, h⟩) ?_
                refine PO.cls (A := Txs s.txs) (B := [cl t.q 88 [.int .u32 t.num.toNat, t.sv.v], Sl 103 3 ChgM.c t.sv.v t.own, Txs (A ++ B)]) (fun S h => hts ▸ Txs_in S h) ?_
                exact PO.finM (by repeat first | exact .z | apply Put.s) Tryz.results13 (rv_cellN a49 (rv_cell a39 rv_nil)) (hK a8 m8 c8)
          · intro db pre y j hp hh hc
            have hu1 : (underL s.txs t.id (spanOf x)).any (fun n => decide (n < t.num)) = true := by obtain ⟨r, hr⟩ := hp; rw [List.any_eq_true]; exact ⟨y, hr.subset (by simp), by simpa using hc⟩
            rw [show doG s n x = .err s 8 by simp only [doG, h1, hf, h3, hu1]; simp] at hK
            refine WP.opn (B := fun sv : { u : Unit // j = .ret } => [cl b4 72 [.pointer (some ⟨t.q, 0, none⟩)], cl b2 49 [.slice none 0 0], cl b3 39 [.int .i64 8]]) (fun _ h => h) fun u => ?_
            obtain ⟨_, rfl⟩ := u
            refine WP.ret ?_
            refine PO.blockR ?_
            refine PO.past nofun ?_
            refine PO.cls (A := Txs s.txs) (B := [cl t.q 88 [.int .u32 t.num.toNat, t.sv.v], Sl 103 3 ChgM.c t.sv.v t.own, Txs (A ++ B)]) (fun S h => hts ▸ Txs_in S h) ?_
            exact PO.finM (by repeat first | exact .z | apply Put.s) Tryz.results13 (rv_cellN a49 (rv_cell a39 rv_nil)) hK

theorem Begin_spec {g : World} {p dp : Nat} {s : GamV} (n : UInt32) : Spec Tryz.prog g 10 [.pointer (some ⟨p, 0, none⟩), .int .u32 n.toNat] [Gs p dp s, Txs s.txs] fun K R => ∀ q, K (.int .i64 (begE s n)) (Gs p dp (begG s n q) :: Txs (begG s n q).txs :: R) := by
  refine Spec.intro Tryz.func10 rfl Tryz.ntmps10 rfl fun R K hK => ?_
  refine WP.seq ?_
  refine WP.reg ?_
  refine WL.e e_assign ?_
  refine WL.next ?_
  refine WP.seq ?_
  refine WP.block ?_
  refine WP.seq ?_
  refine WP.reg ?_
  refine WL.e e_move ?_
  refine WL.h (h_call (Gthere_spec) k24 ?_)
  refine WL.e e_not <| WL.e e_assign ?_
  refine WL.next ?_
  refine WP.cond_f rfl ?_
  refine WP.seq ?_
  refine WP.reg ?_
  refine WL.e e_move <| WL.e (e_eql32 (b := 0)) <| WL.e e_assign ?_
  refine WL.next ?_
  refine WP.cond rfl (fun h1 => ?_) (fun h1 => ?_)
  · replace h1 : n = 0 := by simpa using h1
    have hE : begE s n = 1 := by simp [begE, h1]
    refine WP.seq ?_
    refine WP.reg ?_
    refine WL.e e_assign ?_
    refine WL.next ?_
    refine WP.ret ?_
    refine PO.blockR ?_
    refine PO.past nofun ?_
    have hK := hK 0
    rw [hE, show begG s n 0 = s by simp [begG, hE]] at hK
    exact PO.fin Tryz.results10 (rv_tmp rv_nil) hK
  · replace h1 : n ≠ 0 := by simpa using h1
    refine WP.opn (Gs_op (p := p) (dp := dp) (s := s)) fun x => ?_
    obtain ⟨lp, mp, nm, lm, sv⟩ := x
    dsimp only
    refine WP.seq ?_
    refine WP.reg ?_
    refine WL.e e_move <| WL.e e_nil <| WL.e (e_fa f79_5) <| WL.e (e_load a77) <| WL.e e_move ?_
    refine WL.e (e_lookT Tryz.underlying77 (key_u32 Tryz.underlying31) zz72) <| WL.e (e_pne pt72) <| WL.e e_assign ?_
    refine WL.next ?_
    refine WP.cond rfl (fun h2 => ?_) (fun h2 => ?_)
    · replace h2 : (findT s.txs n).isSome = true := by cases e : findT s.txs n with
        | none => rw [e] at h2; cases h2
        | some t => rfl
      have hE : begE s n = 7 := by simp only [begE, h1, h2]; simp
      refine WP.seq ?_
      refine WP.reg ?_
      refine WL.e e_assign ?_
      refine WL.next ?_
      refine WP.ret ?_
      refine PO.blockR ?_
      refine PO.past nofun ?_
      refine PO.cls (A := Gs p dp (s)) (B := [cl p 79 [.pointer (some ⟨lp, 0, none⟩), .pointer (some ⟨mp, 0, none⟩), nm, .int .u32 s.last.toNat, sv.v, lm], cl lp 143 [.pointer (some ⟨dp, 0, none⟩), .int .i64 s.at_], Dk dp s.d, Mm mp s.rows, Mp eStr nm (List.map numC s.nums), Sl 105 3 lookC (sv.v) s.looks, Mp eU32 lm (List.map kvT s.txs)]) (fun S h => ⟨⟨lp, mp, nm, lm, sv⟩, h⟩) ?_
      have hK := hK 0
      rw [hE, show begG s n 0 = s by simp [begG, hE]] at hK
      exact PO.fin Tryz.results10 (rv_tmp rv_nil) hK
    · have hf : findT s.txs n = none := by cases e : findT s.txs n with
        | none => rfl
        | some t => rw [e] at h2; cases h2
      refine WP.seq ?_
      refine WP.reg ?_
      refine WL.e e_move <| WL.e e_nil <| WL.e (e_fa f79_5) <| WL.e (e_load a77) <| WL.e (e_len_map Tryz.underlying77) <| WL.e e_geq <| WL.e e_assign ?_
      refine WL.next ?_
      refine WP.cond rfl (fun h3 => ?_) (fun h3 => ?_)
      · replace h3 : 32 ≤ s.txs.length := by simp at h3; omega
        have hE : begE s n = 5 := by simp [begE, h1, hf, h3]
        refine WP.seq ?_
        refine WP.reg ?_
        refine WL.e e_assign ?_
        refine WL.next ?_
        refine WP.ret ?_
        refine PO.blockR ?_
        refine PO.past nofun ?_
        refine PO.cls (A := Gs p dp (s)) (B := [cl p 79 [.pointer (some ⟨lp, 0, none⟩), .pointer (some ⟨mp, 0, none⟩), nm, .int .u32 s.last.toNat, sv.v, lm], cl lp 143 [.pointer (some ⟨dp, 0, none⟩), .int .i64 s.at_], Dk dp s.d, Mm mp s.rows, Mp eStr nm (List.map numC s.nums), Sl 105 3 lookC (sv.v) s.looks, Mp eU32 lm (List.map kvT s.txs)]) (fun S h => ⟨⟨lp, mp, nm, lm, sv⟩, h⟩) ?_
        have hK := hK 0
        rw [hE, show begG s n 0 = s by simp [begG, hE]] at hK
        exact PO.fin Tryz.results10 (rv_tmp rv_nil) hK
      · replace h3 : ¬ 32 ≤ s.txs.length := by simp at h3; omega
        have hE : begE s n = 0 := by simp only [begE, h1, hf, h3]; simp
        refine WP.cls (A := Gs p dp (s)) (B := [cl p 79 [.pointer (some ⟨lp, 0, none⟩), .pointer (some ⟨mp, 0, none⟩), nm, .int .u32 s.last.toNat, sv.v, lm], cl lp 143 [.pointer (some ⟨dp, 0, none⟩), .int .i64 s.at_], Dk dp s.d, Mm mp s.rows, Mp eStr nm (List.map numC s.nums), Sl 105 3 lookC (sv.v) s.looks, Mp eU32 lm (List.map kvT s.txs)]) (fun S h => ⟨⟨lp, mp, nm, lm, sv⟩, h⟩) ?_
        
        refine WP.skip ?_
        refine PO.blockN ?_
        refine PO.next ?_
        refine WP.seq ?_
        refine WP.reg ?_
        refine WL.e e_move <| WL.e e_move ?_
        refine WL.h (h_call (begins_spec n hf) k25 ?_)
        intro q
        refine WL.next ?_
        refine WP.seq ?_
        refine WP.reg ?_
        refine WL.e e_assign ?_
        refine WL.next ?_
        refine WP.ret ?_
        have hK := hK q
        rw [hE, begG, if_pos hE] at hK
        exact PO.fin Tryz.results10 (rv_tmp rv_nil) hK

theorem Abort_spec {g : World} {p dp b : Nat} {s : GamV} (n : UInt32) (hs : GamOk s b) : Spec Tryz.prog g 12 [.pointer (some ⟨p, 0, none⟩), .int .u32 n.toNat] [Gs p dp s, Txs s.txs] fun K R => K (.int .i64 (aboE s n)) (Gs p dp (aboG s n) :: Txs (aboG s n).txs :: R) := by
  have hnd := hs.ids
  have hown : ∀ x ∈ s.txs, x.own.length ≤ 68719476736 := fun x hx => by have := hs.own_le hx; have := hs.bb; omega
  have hlk : s.looks.length ≤ 68719476736 := by have := hs.looks; have := hs.bb; omega
  refine Spec.intro Tryz.func12 rfl Tryz.ntmps12 rfl fun R K hK => ?_
  refine WP.seq ?_
  refine WP.reg ?_
  refine WL.e e_assign ?_
  refine WL.next ?_
  refine WP.seq ?_
  refine WP.block ?_
  refine WP.seq ?_
  refine WP.reg ?_
  refine WL.e e_move ?_
  refine WL.h (h_call (Gthere_spec) k24 ?_)
  refine WL.e e_not <| WL.e e_assign ?_
  refine WL.next ?_
  refine WP.cond_f rfl ?_
  refine WP.opn (Gs_op (p := p) (dp := dp) (s := s)) fun x => ?_
  obtain ⟨lp, mp, nm, lm, sv⟩ := x
  dsimp only
  refine WP.seq ?_
  refine WP.reg ?_
  refine WL.e e_move <| WL.e e_nil <| WL.e (e_fa f79_5) <| WL.e (e_load a77) <| WL.e e_move ?_
  refine WL.e (e_lookT Tryz.underlying77 (key_u32 Tryz.underlying31) zz72) <| WL.e (e_peq pt72) <| WL.e e_assign ?_
  refine WL.next ?_
  refine WP.cond rfl (fun h2 => ?_) (fun h2 => ?_)
  · have hf : findT s.txs n = none := by simpa using h2
    rw [show aboE s n = 6 by simp [aboE, hf], show aboG s n = s by simp [aboG, hf]] at hK
    refine WP.seq ?_
    refine WP.reg ?_
    refine WL.e e_assign ?_
    refine WL.next ?_
    refine WP.ret ?_
    refine PO.blockR ?_
    refine PO.past nofun ?_
    refine PO.cls (A := Gs p dp (s)) (B := [cl p 79 [.pointer (some ⟨lp, 0, none⟩), .pointer (some ⟨mp, 0, none⟩), nm, .int .u32 s.last.toNat, sv.v, lm], cl lp 143 [.pointer (some ⟨dp, 0, none⟩), .int .i64 s.at_], Dk dp s.d, Mm mp s.rows, Mp eStr nm (List.map numC s.nums), Sl 105 3 lookC (sv.v) s.looks, Mp eU32 lm (List.map kvT s.txs)]) (fun S h => ⟨⟨lp, mp, nm, lm, sv⟩, h⟩) ?_
    exact PO.fin Tryz.results12 (rv_tmp rv_nil) hK
  · obtain ⟨t, hf⟩ : ∃ t, findT s.txs n = some t := by cases e : findT s.txs n with
      | none => rw [e] at h2; cases h2
      | some t => exact ⟨t, rfl⟩
    rw [hf, Option.map_some]
    obtain ⟨hid, A, B, hts, hdel, _⟩ := find_mid hf
    rw [show aboE s n = 0 by simp [aboE, hf], show aboG s n = endsG s n by simp [aboG, hf]] at hK
    refine WP.cls (A := Gs p dp (s)) (B := [cl p 79 [.pointer (some ⟨lp, 0, none⟩), .pointer (some ⟨mp, 0, none⟩), nm, .int .u32 s.last.toNat, sv.v, lm], cl lp 143 [.pointer (some ⟨dp, 0, none⟩), .int .i64 s.at_], Dk dp s.d, Mm mp s.rows, Mp eStr nm (List.map numC s.nums), Sl 105 3 lookC (sv.v) s.looks, Mp eU32 lm (List.map kvT s.txs)]) (fun S h => ⟨⟨lp, mp, nm, lm, sv⟩, h⟩) ?_
    refine WP.opn (Txs_out hts) fun _ => ?_
    rw [← hdel]
    refine WP.skip ?_
    refine PO.blockN ?_
    refine PO.next ?_
    refine WP.seq ?_
    refine WP.reg ?_
    refine WL.e e_move <| WL.e e_move ?_
    refine WL.h (h_call (ends_spec n hlk) k26 ?_)
    refine WL.next ?_
    refine WP.seq ?_
    refine WP.reg ?_
    refine WL.e e_assign ?_
    refine WL.next ?_
    refine WP.ret ?_
    exact PO.fin Tryz.results12 (rv_tmp rv_nil) hK

set_option maxHeartbeats 4000000 in
theorem Commit_spec {g : World} {p dp b : Nat} {s : GamV} (n : UInt32) (hs : GamOk s b) : Spec Tryz.prog g 11 [.pointer (some ⟨p, 0, none⟩), .int .u32 n.toNat] [Gs p dp s, Txs s.txs] fun K R => K (.tuple #[.int .u32 (comN s n).toNat, .int .i64 (comE s n)]) (Gs p dp (comG s n) :: Txs (comG s n).txs :: R) := by
  have hnd := hs.ids
  have hown : ∀ x ∈ s.txs, x.own.length ≤ 68719476736 := fun x hx => by have := hs.own_le hx; have := hs.bb; omega
  have hlk : s.looks.length ≤ 68719476736 := by have := hs.looks; have := hs.bb; omega
  refine Spec.intro Tryz.func11 rfl Tryz.ntmps11 rfl fun R K hK => ?_
  refine WP.seq ?_
  refine WP.reg ?_
  refine WL.e e_assign <| WL.e e_assign ?_
  refine WL.next ?_
  refine WP.seq ?_
  refine WP.seq ?_
  refine WP.reg ?_
  refine WL.e e_move ?_
  refine WL.h (h_call (Gthere_spec) k24 ?_)
  refine WL.e e_not ?_
  refine WL.next ?_
  refine WP.cond_f rfl ?_
  refine WP.opn (Gs_op (p := p) (dp := dp) (s := s)) fun x => ?_
  obtain ⟨lp, mp, nm, lm, sv⟩ := x
  dsimp only
  refine WP.skip ?_
  refine PO.next ?_
  refine WP.seq ?_
  refine WP.reg ?_
  refine WL.e e_move <| WL.e e_nil <| WL.e (e_fa f79_5) <| WL.e (e_load a77) <| WL.e e_move ?_
  refine WL.e (e_lookT Tryz.underlying77 (key_u32 Tryz.underlying31) zz72) <| WL.e e_assign ?_
  refine WL.next ?_
  refine WP.seq ?_
  refine WP.seq ?_
  refine WP.reg ?_
  refine WL.e e_move <| WL.e (e_peq pt72) ?_
  refine WL.next ?_
  refine WP.cond rfl (fun h2 => ?_) (fun h2 => ?_)
  · have hf : findT s.txs n = none := by simpa using h2
    rw [show comE s n = 6 by simp [comE, hf], show comN s n = 0 by simp [comN, hf], show comG s n = s by simp [comG, hf]] at hK
    refine WP.seq ?_
    refine WP.reg ?_
    refine WL.e e_assign <| WL.e e_assign ?_
    refine WL.next ?_
    refine WP.ret ?_
    refine PO.past nofun ?_
    refine PO.cls (A := Gs p dp (s)) (B := [cl p 79 [.pointer (some ⟨lp, 0, none⟩), .pointer (some ⟨mp, 0, none⟩), nm, .int .u32 s.last.toNat, sv.v, lm], cl lp 143 [.pointer (some ⟨dp, 0, none⟩), .int .i64 s.at_], Dk dp s.d, Mm mp s.rows, Mp eStr nm (List.map numC s.nums), Sl 105 3 lookC (sv.v) s.looks, Mp eU32 lm (List.map kvT s.txs)]) (fun S h => ⟨⟨lp, mp, nm, lm, sv⟩, h⟩) ?_
    exact PO.fin Tryz.results11 (rv_tmp (rv_tmp rv_nil)) hK
  · obtain ⟨t, hf⟩ : ∃ t, findT s.txs n = some t := by cases e : findT s.txs n with
      | none => rw [e] at h2; cases h2
      | some t => exact ⟨t, rfl⟩
    rw [hf, Option.map_some]
    obtain ⟨hid, A, B, hts, hdel, _⟩ := find_mid hf
    refine WP.cls (A := Gs p dp (s)) (B := [cl p 79 [.pointer (some ⟨lp, 0, none⟩), .pointer (some ⟨mp, 0, none⟩), nm, .int .u32 s.last.toNat, sv.v, lm], cl lp 143 [.pointer (some ⟨dp, 0, none⟩), .int .i64 s.at_], Dk dp s.d, Mm mp s.rows, Mp eStr nm (List.map numC s.nums), Sl 105 3 lookC (sv.v) s.looks, Mp eU32 lm (List.map kvT s.txs)]) (fun S h => ⟨⟨lp, mp, nm, lm, sv⟩, h⟩) ?_
    refine WP.opn (Txs_out hts) fun _ => ?_
    rw [← hdel]
    have hol := hs.own_le (find_mem hf)
    have hbb := hs.bb
    have hcl := chgs_len t.own
    have hcl2 := hcl.2 (hs.own t (find_mem hf))
    have hall : t.own.all chgOk = true := List.all_eq_true.2 (hs.own t (find_mem hf))
    have hrl := recG_len t
    refine WP.skip ?_
    refine PO.next ?_
    refine WP.seq ?_
    refine WP.reg ?_
    refine WL.e e_move <| WL.e e_move ?_
    refine WL.h (h_call (ends_spec n hlk) k26 ?_)
    refine WL.next ?_
    refine WP.seq ?_
    refine WP.reg ?_
    refine WL.e e_move <| WL.e e_nil <| WL.e (e_fa f88_1) <| WL.e (e_load a86) ?_
    refine WL.h (h_call (PutChanges_spec (sl_rl (xs := t.own)) (by omega) (by omega)) k27 ?_)
    refine ⟨fun hb => absurd hb (by rw [hall]; simp), fun _ hle => ?_, fun _ hle a3 n3 c3 => ?_⟩
    · have hnf : ¬ fitsG s t := not_fits hle
      rw [show comE s n = 5 by simp [comE, hf, hnf], show comN s n = 0 by simp [comN, hf, hnf], comG_txs hf, show comG s n = endsG s n by simp [comG, hf, commG, hnf]] at hK
      refine WL.e e_move <| WL.e e_extract <| WL.e e_extract <| WL.e e_assign <| WL.e e_assign ?_
      refine WL.next ?_
      refine WP.seq ?_
      refine WP.seq ?_
      refine WP.draws mixedOk 18 ?_
      refine RW.e 0 rfl e_move <| RW.e 1 rfl e_neq <| RW.e 2 rfl e_move ?_
      refine RW.bool 33 rfl (fun hg => ?_) (fun hg => ?_)
      · skip
        refine RW.skip 3 rfl <| RW.skip 4 rfl <| RW.skip 5 rfl <| RW.skip 6 rfl <| RW.skip 7 rfl <| RW.skip 8 rfl <| RW.skip 9 rfl <| RW.skip 10 rfl <| RW.skip 11 rfl <| RW.skip 12 rfl <| RW.skip 13 rfl <| RW.skip 14 rfl ?_
        refine RW.skip 15 rfl <| RW.skip 16 rfl <| RW.e 17 rfl e_pick_t ?_
        refine RW.done ?_
        refine PO.next ?_
        refine WP.cond_t rfl ?_
        refine WP.seq ?_
        refine WP.reg ?_
        refine WL.e e_assign <| WL.e e_assign ?_
        refine WL.next ?_
        refine WP.ret ?_
        refine PO.past nofun ?_
        exact PO.fin Tryz.results11 (rv_tmp (rv_tmp rv_nil)) hK
      · exact absurd hg (by decide) -- end
    · refine WL.opn (Gs_op (p := p) (dp := dp) (s := (endsG s n))) fun x => ?_
      obtain ⟨lp, mp, nm, lm, sv⟩ := x
      dsimp only
      refine WL.e e_move <| WL.e e_extract <| WL.e e_extract <| WL.e e_assign <| WL.e e_assign ?_
      refine WL.next ?_
      refine WP.seq ?_
      refine WP.seq ?_
      refine WP.draws mixedOk 18 ?_
      refine RW.e 0 rfl e_move <| RW.e 1 rfl e_neq <| RW.e 2 rfl e_move ?_
      refine RW.bool 33 rfl (fun hg => ?_) (fun hg => ?_)
      · exact absurd hg (by decide) -- end
      · skip
        refine RW.e 3 rfl e_move <| RW.e 4 rfl e_nil <| RW.e 5 rfl (e_fa f79_0) <| RW.e 6 rfl (e_load a73) <| RW.e 7 rfl e_move <| RW.e 8 rfl e_nil <| RW.e 9 rfl (e_fa f88_0) <| RW.e 10 rfl (e_fa f85_0) <| RW.e 11 rfl (e_load a31) <| RW.e 13 rfl e_move ?_
        refine RW.any (is := [12]) rfl ⟨?_, trivial⟩
        refine RWat.h rfl rfl rfl ?_
        refine (h_call (four_spec t.num) k29 ?_)
        intro a4 n4 c4
        refine ⟨⟨⟨_, rfl, .inl ⟨rfl, e_move⟩⟩, ⟨_, rfl, .inl ⟨rfl, (e_load a73)⟩⟩, ⟨_, rfl, .inl ⟨rfl, (e_fa f79_0)⟩⟩, ⟨_, rfl, .inl ⟨rfl, e_nil⟩⟩, ⟨_, rfl, .inl ⟨rfl, e_move⟩⟩, trivial⟩, ?_⟩
        refine RW.any (is := [14]) rfl ⟨?_, trivial⟩
        refine RWat.h rfl rfl rfl ?_
        refine (hl_append (xs := numB t.num 4) (ys := chgsB t.own) sl81 eB_ok z5 sl_rl (by simp only [numB_len, chgsB, List.length_append]; omega) (fun a5 n5 c5 => ?_))
        refine ⟨⟨⟨_, rfl, .inl ⟨rfl, (e_load a73)⟩⟩, ⟨_, rfl, .inl ⟨rfl, (e_fa f79_0)⟩⟩, ⟨_, rfl, .inl ⟨rfl, e_nil⟩⟩, ⟨_, rfl, .inl ⟨rfl, e_move⟩⟩, trivial⟩, ?_⟩
        refine RW.any (is := [15]) rfl ⟨?_, trivial⟩
        refine RWat.h rfl rfl rfl ?_
        refine (h_call (Add_spec (i := s.at_) (d := s.d) (sl_rl (xs := recG t)) hs.dok hs.hat (by rw [hs.waits]; simp)) k28 ?_)
        refine ⟨fun h => ?_, fun h h' => ?_, fun h h' => ?_⟩
        · have hnf : ¬ fitsG s t := fun hf => absurd hf.1 (by omega)
          rw [show comE s n = 5 by simp [comE, hf, hnf], show comN s n = 0 by simp [comN, hf, hnf], comG_txs hf, show comG s n = endsG s n by simp [comG, hf, commG, hnf]] at hK
          refine ⟨trivial, ?_⟩
          refine RW.e 16 rfl e_neq <| RW.e 17 rfl e_pick_f ?_
          refine RW.done ?_
          refine PO.next ?_
          refine WP.cond_t rfl ?_
          refine WP.seq ?_
          refine WP.reg ?_
          refine WL.e e_assign <| WL.e e_assign ?_
          refine WL.next ?_
          refine WP.ret ?_
          refine PO.past nofun ?_
          refine PO.cls (A := Gs p dp ((endsG s n))) (B := [cl p 79 [.pointer (some ⟨lp, 0, none⟩), .pointer (some ⟨mp, 0, none⟩), nm, .int .u32 (endsG s n).last.toNat, sv.v, lm], cl lp 143 [.pointer (some ⟨dp, 0, none⟩), .int .i64 (endsG s n).at_], Dk dp (endsG s n).d, Mm mp (endsG s n).rows, Mp eStr nm (List.map numC (endsG s n).nums), Sl 105 3 lookC (sv.v) (endsG s n).looks, Mp eU32 lm (List.map kvT (endsG s n).txs)]) (fun S h => ⟨⟨lp, mp, nm, lm, sv⟩, h⟩) ?_
          exact PO.fin Tryz.results11 (rv_tmp (rv_tmp rv_nil)) hK
        · have hnf : ¬ fitsG s t := fun hf => absurd hf.2 (by omega)
          rw [show comE s n = 5 by simp [comE, hf, hnf], show comN s n = 0 by simp [comN, hf, hnf], comG_txs hf, show comG s n = endsG s n by simp [comG, hf, commG, hnf]] at hK
          refine ⟨trivial, ?_⟩
          refine RW.e 16 rfl e_neq <| RW.e 17 rfl e_pick_f ?_
          refine RW.done ?_
          refine PO.next ?_
          refine WP.cond_t rfl ?_
          refine WP.seq ?_
          refine WP.reg ?_
          refine WL.e e_assign <| WL.e e_assign ?_
          refine WL.next ?_
          refine WP.ret ?_
          refine PO.past nofun ?_
          refine PO.cls (A := Gs p dp ((endsG s n))) (B := [cl p 79 [.pointer (some ⟨lp, 0, none⟩), .pointer (some ⟨mp, 0, none⟩), nm, .int .u32 (endsG s n).last.toNat, sv.v, lm], cl lp 143 [.pointer (some ⟨dp, 0, none⟩), .int .i64 (endsG s n).at_], Dk dp (endsG s n).d, Mm mp (endsG s n).rows, Mp eStr nm (List.map numC (endsG s n).nums), Sl 105 3 lookC (sv.v) (endsG s n).looks, Mp eU32 lm (List.map kvT (endsG s n).txs)]) (fun S h => ⟨⟨lp, mp, nm, lm, sv⟩, h⟩) ?_
          exact PO.fin Tryz.results11 (rv_tmp (rv_tmp rv_nil)) hK
        · have hfit : fitsG s t := ⟨h, h'⟩
          refine ⟨trivial, ?_⟩
          refine RW.e 16 rfl e_neq <| RW.e 17 rfl e_pick_f ?_
          refine RW.done ?_
          refine PO.next ?_
          refine WP.cond_f rfl ?_
          refine WP.skip ?_
          refine PO.next ?_
          refine WP.seq ?_
          refine WP.reg ?_
          refine WL.e e_move <| WL.e e_nil <| WL.e (e_fa f79_0) <| WL.e (e_load a73) ?_
          refine WL.h (h_call (Force_spec (d := addW s.d s.at_ (frame (recG t)) (secs (recG t).length)) (addW_ok _ _ _ _ hs.dok)) k30 ?_)
          refine WL.next ?_
          refine WP.cutL (fun (_ : Unit) => []) (fun (_ : Unit) => Gs p dp { endsG s n with d := (addW s.d s.at_ (frame (recG t)) (secs (recG t).length)).sync, at_ := s.at_ + secs (recG t).length, rows := changeR s.rows t.own } :: cl t.q 88 [.int .u32 t.num.toNat, t.sv.v] :: Sl 103 3 ChgM.c t.sv.v t.own :: Txs (delT s.txs n) :: R) (fun (_ : Unit) => True) ?_ ?_
          · skip
            refine WP.draws mixedOk 9 ?_
            refine RW.e 0 rfl e_move <| RW.e 1 rfl e_nil <| RW.e 2 rfl (e_fa f79_1) <| RW.e 3 rfl (e_load a74) <| RW.e 4 rfl e_move <| RW.e 5 rfl e_nil <| RW.e 6 rfl (e_fa f88_1) <| RW.e 7 rfl (e_load a86) ?_
            refine RW.any (is := [8]) rfl ⟨?_, trivial⟩
            refine RWat.h rfl rfl rfl ?_
            refine (h_call (Change_spec (l := s.rows) (sl_rl (xs := t.own)) hs.rising (by omega)) k31 ?_)
            refine ⟨fun hb => absurd hb (by rw [hs.bad (find_mem hf)]; simp), fun _ => ?_⟩
            refine ⟨trivial, ?_⟩
            refine RW.done ?_
            refine PO.cls (A := Gs p dp ({ endsG s n with d := (addW s.d s.at_ (frame (recG t)) (secs (recG t).length)).sync, at_ := s.at_ + secs (recG t).length, rows := changeR s.rows t.own })) (B := [cl p 79 [.pointer (some ⟨lp, 0, none⟩), .pointer (some ⟨mp, 0, none⟩), nm, .int .u32 (endsG s n).last.toNat, sv.v, lm], cl lp 143 [.pointer (some ⟨dp, 0, none⟩), .int .i64 (s.at_ + secs (recG t).length : Nat)], Dk dp (addW s.d s.at_ (frame (recG t)) (secs (recG t).length)).sync, Mm mp (changeR s.rows t.own), Mp eStr nm (List.map numC (endsG s n).nums), Sl 105 3 lookC (sv.v) (endsG s n).looks, Mp eU32 lm (List.map kvT (endsG s n).txs)]) (fun S h => ⟨⟨lp, mp, nm, lm, sv⟩, h⟩) ?_
            exact PO.meetK () trivial
          · intro _ _
            refine WP.seq ?_
            refine WP.draws mixedOk 11 ?_
            refine RW.e 0 rfl e_move <| RW.e 1 rfl e_move <| RW.e 2 rfl e_nil <| RW.e 3 rfl (e_fa f88_0) <| RW.e 4 rfl (e_fa f85_0) <| RW.e 5 rfl (e_load a31) <| RW.e 6 rfl e_move <| RW.e 7 rfl e_nil <| RW.e 8 rfl (e_fa f88_1) <| RW.e 9 rfl (e_load a86) ?_
            refine RW.any (is := [10]) rfl ⟨?_, trivial⟩
            refine RWat.h rfl rfl rfl ?_
            refine (h_call (kept_spec t.num (sl_rl (xs := t.own)) (by omega)) k32 ?_)
            refine ⟨trivial, ?_⟩
            refine RW.done ?_
            refine PO.next ?_
            refine WP.seq ?_
            refine WP.reg ?_
            refine WL.e e_move <| WL.e e_nil <| WL.e (e_fa f88_0) <| WL.e (e_fa f85_0) <| WL.e (e_load a31) <| WL.e e_assign <| WL.e e_assign ?_
            refine WL.next ?_
            refine WP.ret ?_
            rw [show comE s n = 0 by simp [comE, hf, hfit], show comN s n = t.num by simp [comN, hf, hfit], comG_txs hf, show comG s n = { { endsG s n with d := (addW s.d s.at_ (frame (recG t)) (secs (recG t).length)).sync, at_ := s.at_ + secs (recG t).length, rows := changeR s.rows t.own } with nums := keptG s.nums t.num t.own } by simp [comG, hf, commG, hfit]] at hK
            exact PO.fin Tryz.results11 (rv_tmp (rv_tmp rv_nil)) hK

end Go.SL
