import Derived.Test.YtdfomffmfnpfoaaGreatM4
import Derived.Test.YtdfomffmfnpfoaaGreatProg
import Derived.KernelRfl
set_option linter.unusedSimpArgs false
set_option linter.unusedVariables false
namespace Go.SL.W4
open Go Go.Proofs Go.SL
theorem a112 : aggOf Tryz.prog 112 = some none := by kernel_rfl
theorem a115 : aggOf Tryz.prog 115 = some (some 64) := by kernel_rfl
theorem a116 : aggOf Tryz.prog 116 = some none := by kernel_rfl
theorem ar115 : arrOf Tryz.prog 115 = some (5, 64, 1) := by kernel_rfl
theorem f118_0 : fldOf Tryz.prog 118 0 = some 0 := by kernel_rfl
theorem f118_1 : fldOf Tryz.prog 118 1 = some 1 := by kernel_rfl
theorem f118_2 : fldOf Tryz.prog 118 2 = some 2 := by kernel_rfl
theorem k104 : callable Tryz.prog 104 = true := by kernel_rfl
theorem k45 : callable Tryz.prog 45 = true := by kernel_rfl
theorem k97 : callable Tryz.prog 97 = true := by kernel_rfl
theorem mixedOk : Tryz.prog.follows .mixedOrders = true := by kernel_rfl
theorem p118 : placesOf Tryz.prog 118 = some [(0, 1), (1, 1), (2, 1)] := by kernel_rfl
theorem p120 : placesOf Tryz.prog 120 = some [(0, 1), (1, 64)] := by kernel_rfl
theorem pt25 : isPtr Tryz.prog 25 = true := by kernel_rfl
theorem s115 : szOf Tryz.prog 115 = some 64 := by kernel_rfl
theorem s116 : szOf Tryz.prog 116 = some 1 := by kernel_rfl
theorem sl112 : slOf Tryz.prog 112 = some (115, 64, 64) := by kernel_rfl
theorem sl116 : slOf Tryz.prog 116 = some (120, 65, 72) := by kernel_rfl
theorem sl81 : slOf Tryz.prog 81 = some (5, 1, 1) := by kernel_rfl
theorem z115 : zeroOf Tryz.prog 115 = some (List.replicate 64 (.int .u8 0)) := by kernel_rfl
theorem z118 : zeroOf Tryz.prog 118 = some [.slice none 0 0, .slice none 0 0, .slice none 0 0] := by kernel_rfl
theorem z120 : zeroOf Tryz.prog 120 = some [.int .i64 0, .int .u8 0, .int .u8 0, .int .u8 0, .int .u8 0, .int .u8 0, .int .u8 0, .int .u8 0, .int .u8 0, .int .u8 0, .int .u8 0, .int .u8 0, .int .u8 0, .int .u8 0, .int .u8 0, .int .u8 0, .int .u8 0, .int .u8 0, .int .u8 0, .int .u8 0, .int .u8 0, .int .u8 0, .int .u8 0, .int .u8 0, .int .u8 0, .int .u8 0, .int .u8 0, .int .u8 0, .int .u8 0, .int .u8 0, .int .u8 0, .int .u8 0, .int .u8 0, .int .u8 0, .int .u8 0, .int .u8 0, .int .u8 0, .int .u8 0, .int .u8 0, .int .u8 0, .int .u8 0, .int .u8 0, .int .u8 0, .int .u8 0, .int .u8 0, .int .u8 0, .int .u8 0, .int .u8 0, .int .u8 0, .int .u8 0, .int .u8 0, .int .u8 0, .int .u8 0, .int .u8 0, .int .u8 0, .int .u8 0, .int .u8 0, .int .u8 0, .int .u8 0, .int .u8 0, .int .u8 0, .int .u8 0, .int .u8 0, .int .u8 0, .int .u8 0] := by kernel_rfl
end Go.SL.W4
namespace Go.SL
open Go Go.Proofs W4
def Dk (p : Nat) (d : DiskM) : HP := fun S => ∃ x : SV × SV × SV, stars [cl p 118 [x.1.v, x.2.1.v, x.2.2.v], Sl 115 64 pieceC x.1.v d.sure, Sl 115 64 pieceC x.2.1.v d.seen, Sl 120 65 waitC x.2.2.v d.waits] S
theorem Dk_op {p : Nat} {d : DiskM} : ∀ S, Dk p d S → ∃ x : SV × SV × SV, stars [cl p 118 [x.1.v, x.2.1.v, x.2.2.v], Sl 115 64 pieceC x.1.v d.sure, Sl 115 64 pieceC x.2.1.v d.seen, Sl 120 65 waitC x.2.2.v d.waits] S := fun _ h => h

theorem New_spec {g : World} (n : Nat) (hn : n < 4294967296) : Spec Tryz.prog g 23 [.int .i64 n] [] fun K R => ((n < 1 ∨ 4096 < n) → K (.tuple #[.pointer none, .int .i64 1]) R) ∧ (¬ n < 1 → ¬ 4096 < n → ∀ p, K (.tuple #[.pointer (some ⟨p, 0, none⟩), .int .i64 0]) (Dk p (newDisk n) :: R)) := by
  refine Spec.intro Tryz.func23 rfl Tryz.ntmps23 rfl fun R K hK => ?_
  refine WP.seq ?_
  refine WP.reg ?_
  refine WL.e e_assign <| WL.e e_assign ?_
  refine WL.next ?_
  refine WP.seq ?_
  refine WP.seq ?_
  refine WP.reg ?_
  refine WL.e e_move <| WL.e e_lss <| WL.e e_move ?_
  refine WL.bool 6 rfl (fun h1 => ?_) (fun h1 => ?_)
  · replace h1 : n < 1 := by simp at h1; omega
    refine WL.skip <| WL.skip <| WL.e e_pick_t ?_
    refine WL.next ?_
    refine WP.cond_t rfl ?_
    refine WP.seq ?_
    refine WP.reg ?_
    refine WL.e e_assign <| WL.e e_assign ?_
    refine WL.next ?_
    refine WP.ret ?_
    refine PO.past nofun ?_
    exact PO.fin Tryz.results23 (rv_tmp (rv_tmp rv_nil)) (hK.1 (.inl h1))
  · replace h1 : ¬ n < 1 := by simp at h1; omega
    refine WL.e e_move <| WL.e e_gtr <| WL.e e_pick_f ?_
    refine WL.next ?_
    refine WP.cond rfl (fun h2 => ?_) (fun h2 => ?_)
    · replace h2 : 4096 < n := by simp at h2; omega
      refine WP.seq ?_
      refine WP.reg ?_
      refine WL.e e_assign <| WL.e e_assign ?_
      refine WL.next ?_
      refine WP.ret ?_
      refine PO.past nofun ?_
      exact PO.fin Tryz.results23 (rv_tmp (rv_tmp rv_nil)) (hK.1 (.inr h2))
    · replace h2 : ¬ 4096 < n := by simp at h2; omega
      refine WP.skip ?_
      refine PO.next ?_
      refine WP.seq ?_
      refine WP.draws mixedOk 8 ?_
      refine RW.e 0 rfl e_move <| RW.e 2 rfl e_move ?_
      refine RW.any (is := [1, 3]) rfl ⟨?_, ?_, trivial⟩
      · skip
        refine RWat.h rfl rfl rfl ?_
        refine (hl_make (enc := pieceC) (n := n) (List.replicate 64 0) sl112 z115 (by omega) (fun a1 n1 c1 => ?_) (hzz := by simp) (ha := piece0))
        refine ⟨⟨⟨_, rfl, .inl ⟨rfl, e_move⟩⟩, trivial⟩, ?_⟩
        refine RW.any (is := [3]) rfl ⟨?_, trivial⟩
        refine RWat.h rfl rfl rfl ?_
        refine (hl_make (enc := pieceC) (n := n) (List.replicate 64 0) sl112 z115 (by omega) (fun a2 n2 c2 => ?_) (hzz := by simp) (ha := piece0))
        refine ⟨trivial, ?_⟩
        refine RW.e 4 rfl (e_build z118 p118 (.o (.tmp 11) rfl <| .o (.tmp 13) rfl <| .z (.slice none 0 0) <| .n)) ?_
        refine RW.any (is := [5]) rfl ⟨?_, trivial⟩
        refine RWat.h rfl rfl rfl ?_
        refine (h_box fun b1 => ?_)
        refine ⟨trivial, ?_⟩
        refine RW.e 6 rfl e_assign <| RW.e 7 rfl e_assign ?_
        refine RW.done ?_
        refine PO.next ?_
        refine WP.ret ?_
        refine PO.nils 120 65 waitC none ?_
        refine PO.cls (A := Dk b1 (newDisk n)) (fun S h => ⟨(⟨a1, n1, c1⟩, ⟨a2, n2, c2⟩, ⟨none, 0, 0⟩), h⟩) ?_ (B := [cl b1 118 [.slice a1 n1 c1, .slice a2 n2 c2, .slice none 0 0], Sl 115 64 pieceC (.slice a1 n1 c1) (newDisk n).sure, Sl 115 64 pieceC (.slice a2 n2 c2) (newDisk n).seen, Sl 120 65 waitC (.slice none 0 0) []])
        exact PO.fin Tryz.results23 (rv_tmp (rv_tmp rv_nil)) (hK.2 h1 h2 b1)
      · skip
        refine RWat.h rfl rfl rfl ?_
        refine (hl_make (enc := pieceC) (n := n) (List.replicate 64 0) sl112 z115 (by omega) (fun a2 n2 c2 => ?_) (hzz := by simp) (ha := piece0))
        refine ⟨⟨⟨_, rfl, .inl ⟨rfl, e_move⟩⟩, trivial⟩, ?_⟩
        refine RW.any (is := [1]) rfl ⟨?_, trivial⟩
        refine RWat.h rfl rfl rfl ?_
        refine (hl_make (enc := pieceC) (n := n) (List.replicate 64 0) sl112 z115 (by omega) (fun a1 n1 c1 => ?_) (hzz := by simp) (ha := piece0))
        refine ⟨trivial, ?_⟩
        refine RW.e 4 rfl (e_build z118 p118 (.o (.tmp 11) rfl <| .o (.tmp 13) rfl <| .z (.slice none 0 0) <| .n)) ?_
        refine RW.any (is := [5]) rfl ⟨?_, trivial⟩
        refine RWat.h rfl rfl rfl ?_
        refine (h_box fun b2 => ?_)
        refine ⟨trivial, ?_⟩
        refine RW.e 6 rfl e_assign <| RW.e 7 rfl e_assign ?_
        refine RW.done ?_
        refine PO.next ?_
        refine WP.ret ?_
        refine PO.nils 120 65 waitC none ?_
        refine PO.cls (A := Dk b2 (newDisk n)) (fun S h => ⟨(⟨a1, n1, c1⟩, ⟨a2, n2, c2⟩, ⟨none, 0, 0⟩), h⟩) ?_ (B := [cl b2 118 [.slice a1 n1 c1, .slice a2 n2 c2, .slice none 0 0], Sl 115 64 pieceC (.slice a1 n1 c1) (newDisk n).sure, Sl 115 64 pieceC (.slice a2 n2 c2) (newDisk n).seen, Sl 120 65 waitC (.slice none 0 0) []])
        exact PO.fin Tryz.results23 (rv_tmp (rv_tmp rv_nil)) (hK.2 h1 h2 b2)

theorem Size_spec {g : World} {p : Nat} {d : DiskM} : Spec Tryz.prog g 45 [.pointer (some ⟨p, 0, none⟩)] [Dk p d] fun K R => K (.int .i64 d.sure.length) (Dk p d :: R) := by
  refine Spec.intro Tryz.func45 rfl Tryz.ntmps45 rfl fun R K hK => ?_
  refine WP.seq ?_
  refine WP.reg ?_
  refine WL.e e_assign ?_
  refine WL.next ?_
  refine WP.seq ?_
  refine WP.seq ?_
  refine WP.reg ?_
  refine WL.e e_move <| WL.e (e_peq pt25) ?_
  refine WL.next ?_
  refine WP.cond rfl (fun h => ?_) (fun h => ?_)
  · cases h
  · refine WP.opn (Dk_op (p := p) (d := d)) fun x => ?_
    obtain ⟨s1, s2, s3⟩ := x
    dsimp only
    refine WP.skip ?_
    refine PO.next ?_
    refine WP.seq ?_
    refine WP.reg ?_
    refine WL.e e_move <| WL.e e_nil <| WL.e (e_fa f118_0) <| WL.e (e_load a112) ?_
    refine WL.e (el_len sl112 (sl_rl (xs := d.sure))) <| WL.e e_assign ?_
    refine WL.next ?_
    refine WP.ret ?_
    refine PO.cls (A := Dk p d) (B := [cl p 118 [s1.v, s2.v, s3.v], Sl 115 64 pieceC s1.v d.sure, Sl 115 64 pieceC s2.v d.seen, Sl 120 65 waitC s3.v d.waits]) (fun S h => ⟨(s1, s2, s3), h⟩) ?_
    exact PO.fin Tryz.results45 (rv_tmp rv_nil) hK

theorem Dmay_spec {g : World} {p : Nat} {d : DiskM} (i : Nat) (hi : i < d.sure.length) : Spec Tryz.prog g 97 [.pointer (some ⟨p, 0, none⟩), .int .i64 i] [Dk p d] fun K R => K (.int .i64 0) (Dk p d :: R) := by
  refine Spec.intro Tryz.func97 rfl Tryz.ntmps97 rfl fun R K hK => ?_
  refine WP.seq ?_
  refine WP.reg ?_
  refine WL.e e_assign ?_
  refine WL.next ?_
  refine WP.seq ?_
  refine WP.block ?_
  refine WP.seq ?_
  refine WP.reg ?_
  refine WL.e e_move ?_
  refine WL.h (h_call (Size_spec) k45 ?_)
  refine WL.e e_eql <| WL.e e_assign ?_
  refine WL.next ?_
  refine WP.cond rfl (fun h => ?_) (fun h => ?_)
  · rw [beq_iff_eq] at h; omega
  · skip
    refine WP.seq ?_
    refine WP.reg ?_
    refine WL.e e_move <| WL.e e_lss <| WL.e e_move ?_
    refine WL.bool 12 rfl (fun h1 => ?_) (fun h1 => ?_)
    · rw [decide_eq_true_eq] at h1; omega -- end
    · skip
      refine WL.e e_move <| WL.e e_move ?_
      refine WL.h (h_call (Size_spec) k45 ?_)
      refine WL.e e_geq <| WL.e e_pick_f <| WL.e e_assign ?_
      refine WL.next ?_
      refine WP.cond rfl (fun h2 => ?_) (fun h2 => ?_)
      · rw [decide_eq_true_eq] at h2; omega
      · skip
        refine WP.skip ?_
        refine PO.blockN ?_
        refine PO.next ?_
        refine WP.seq ?_
        refine WP.reg ?_
        refine WL.e e_assign ?_
        refine WL.next ?_
        refine WP.ret ?_
        exact PO.fin Tryz.results97 (rv_tmp rv_nil) hK

theorem Write_spec {g : World} {A : HP} {p : Nat} {d : DiskM} {u : Value} {b : List UInt8} (i : Nat) (hA : RL A 1 eB u b) (hi : i < d.sure.length) (hd : d.seen.length = d.sure.length) (hl : d.sure.length ≤ 4096) (hb : b.length ≤ 64) (hw : d.waits.length < 4294967296) : Spec Tryz.prog g 64 [.pointer (some ⟨p, 0, none⟩), .int .i64 i, u] [Dk p d, A] fun K R => K (.int .i64 0) (Dk p (d.write i b) :: A :: R) := by
  refine Spec.intro Tryz.func64 rfl Tryz.ntmps64 rfl fun R K hK => ?_
  refine WP.seq ?_
  refine WP.reg ?_
  refine WL.e e_assign ?_
  refine WL.next ?_
  refine WP.seq ?_
  refine WP.seq ?_
  refine WP.reg ?_
  refine WL.e e_move <| WL.e e_move ?_
  refine WL.h (h_call (Dmay_spec (d := d) i hi) k97 ?_)
  refine WL.e e_assign ?_
  refine WL.next ?_
  refine WP.seq ?_
  refine WP.reg ?_
  refine WL.e e_move <| WL.e e_neq ?_
  refine WL.next ?_
  refine WP.cond_f rfl ?_
  refine WP.skip ?_
  refine PO.next ?_
  refine WP.seq ?_
  refine WP.seq ?_
  refine WP.reg ?_
  refine WL.e e_move ?_
  refine WL.e (el_len sl81 hA) <| WL.e e_gtr ?_
  refine WL.next ?_
  refine WP.cond rfl (fun h => ?_) (fun h => ?_)
  · rw [decide_eq_true_eq] at h; omega
  · skip
    refine WP.skip ?_
    refine PO.next ?_
    refine WP.seq ?_
    refine WP.reg ?_
    refine WL.opn (Dk_op (p := p) (d := d)) fun x => ?_
    obtain ⟨s1, s2, s3⟩ := x
    dsimp only
    refine WL.h (h_alloc z115 fun b1 => ?_)
    refine WL.next ?_
    refine WP.seq ?_
    refine WP.reg ?_
    refine WL.e (e_slice_arr ar115 rfl (.inl ⟨rfl, rfl⟩) (.inl ⟨rfl, rfl⟩) (by omega) (by omega)) <| WL.e e_move ?_
    refine WL.h (h_copy (T := 81) (l := List.replicate 64 (.int .u8 0)) (n := 64) (c := 64) (o := 0) sl81 ((At.lit (b := b1) (o := 0) (Nat.le_refl 64)).sub (Nat.zero_le _) (Nat.le_refl _) (Nat.le_refl _)) (by simp) hA (ones_take _ (ones_flat eB_ok b)) ?_)
    rw [copy_piece b hb, ← pieceC_pad]
    refine WL.next ?_
    refine WP.seq ?_
    refine WP.draws mixedOk 8 ?_
    refine RW.e 0 rfl e_move <| RW.e 1 rfl e_nil <| RW.e 2 rfl (e_fa f118_1) <| RW.e 3 rfl (e_load a112) <| RW.e 4 rfl e_move <| RW.e 5 rfl (e_loadW (l := pieceC (pad b)) a115 (pieceE.len _)) ?_
    refine RW.e 6 rfl (el_ia (j := i) (xs := d.seen) sl112 sl_rl (by omega)) ?_
    refine RW.any (is := [7]) rfl ⟨?_, trivial⟩
    refine RWat.h' rfl rfl rfl ?_
    refine (hl_store (xs := d.seen) (j := i) (pad b) s115 pieceE (by omega) ?_)
    refine ⟨trivial, ?_⟩
    refine RW.done ?_
    refine PO.next ?_
    refine WP.seq ?_
    refine WP.draws mixedOk 13 ?_
    refine RW.e 0 rfl e_move <| RW.e 1 rfl e_move <| RW.e 2 rfl e_nil <| RW.e 3 rfl (e_fa f118_2) <| RW.e 4 rfl (e_load a116) <| RW.e 5 rfl e_move <| RW.e 6 rfl (e_loadW (l := pieceC (pad b)) a115 (pieceE.len _)) <| RW.e 7 rfl (e_build_pair z120 p120 (pieceE.len _)) ?_
    refine RW.any (is := [8]) rfl ⟨?_, trivial⟩
    refine RWat.h rfl rfl rfl ?_
    refine (h_bs1 (cs := waitC (i, pad b)) sl116 z120 (waitE.len _) (fun b5 => ?_))
    refine ⟨⟨⟨_, rfl, .inl ⟨rfl, (e_load a116)⟩⟩, ⟨_, rfl, .inl ⟨rfl, (e_fa f118_2)⟩⟩, ⟨_, rfl, .inl ⟨rfl, e_nil⟩⟩, ⟨_, rfl, .inl ⟨rfl, e_move⟩⟩, ⟨_, rfl, .inl ⟨rfl, e_move⟩⟩, trivial⟩, ?_⟩
    refine RW.any (is := [9]) rfl ⟨?_, trivial⟩
    refine RWat.h rfl rfl rfl ?_
    refine (hl_append (xs := d.waits) (ys := [(i, pad b)]) sl116 waitE z120 (lit_rl waitE [(i, pad b)] (show [(i, pad b)].flatMap waitC = waitC (i, pad b) by simp)) (by simp; omega) (fun a6 n6 c6 => ?_))
    refine ⟨⟨⟨_, rfl, .inl ⟨rfl, e_move⟩⟩, trivial⟩, ?_⟩
    refine RW.e 10 rfl e_nil <| RW.e 11 rfl (e_fa f118_2) ?_
    refine RW.any (is := [12]) rfl ⟨?_, trivial⟩
    refine RWat.h' rfl rfl rfl ?_
    refine (h_store s116 ?_)
    refine ⟨trivial, ?_⟩
    refine RW.done ?_
    refine PO.next ?_
    refine WP.seq ?_
    refine WP.reg ?_
    refine WL.e e_assign ?_
    refine WL.next ?_
    refine WP.ret ?_
    refine PO.cls (A := Dk p (d.write i b)) (B := [cl p 118 [s1.v, s2.v, .slice a6 n6 c6], Sl 115 64 pieceC s1.v d.sure, Sl 115 64 pieceC s2.v (d.seen.set i (pad b)), Sl 120 65 waitC (.slice a6 n6 c6) (d.waits ++ [(i, pad b)])]) (fun S h => ⟨(s1, s2, ⟨a6, n6, c6⟩), h⟩) ?_
    exact PO.fin Tryz.results64 (rv_tmp rv_nil) hK

theorem Sync_spec {g : World} {p : Nat} {d : DiskM} (h0 : 0 < d.sure.length) (hd : d.seen.length = d.sure.length) : Spec Tryz.prog g 65 [.pointer (some ⟨p, 0, none⟩)] [Dk p d] fun K R => K (.int .i64 0) (Dk p d.sync :: R) := by
  refine Spec.intro Tryz.func65 rfl Tryz.ntmps65 rfl fun R K hK => ?_
  refine WP.seq ?_
  refine WP.reg ?_
  refine WL.e e_assign ?_
  refine WL.next ?_
  refine WP.seq ?_
  refine WP.seq ?_
  refine WP.reg ?_
  refine WL.e e_move ?_
  refine WL.h (h_call (Size_spec) k45 ?_)
  refine WL.e e_eql ?_
  refine WL.next ?_
  refine WP.cond rfl (fun h => ?_) (fun h => ?_)
  · rw [beq_iff_eq] at h; omega
  · refine WP.opn (Dk_op (p := p) (d := d)) fun x => ?_
    obtain ⟨s1, s2, s3⟩ := x
    dsimp only
    refine WP.skip ?_
    refine PO.next ?_
    refine WP.seq ?_
    refine WP.draws mixedOk 9 ?_
    refine RW.e 0 rfl e_move <| RW.e 1 rfl e_nil <| RW.e 2 rfl (e_fa f118_0) <| RW.e 3 rfl (e_load a112) <| RW.e 4 rfl e_move <| RW.e 5 rfl e_nil <| RW.e 6 rfl (e_fa f118_1) <| RW.e 7 rfl (e_load a112) ?_
    refine RW.any (is := [8]) rfl ⟨?_, trivial⟩
    refine RWat.h rfl rfl rfl ?_
    refine (hl_copy0 (u := s1.v) (xs := d.sure) sl112 pieceE (sl_rl (xs := d.seen)) ?_)
    rw [show over d.sure 0 d.seen = d.seen by simp [over, ← hd]]
    refine ⟨trivial, ?_⟩
    refine RW.done ?_
    refine PO.next ?_
    refine WP.seq ?_
    refine WP.reg ?_
    refine WL.e e_move <| WL.e e_nil <| WL.e (e_fa f118_2) ?_
    refine WL.h' (h_store s116 ?_)
    refine WL.next ?_
    refine WP.seq ?_
    refine WP.reg ?_
    refine WL.e e_assign ?_
    refine WL.next ?_
    refine WP.ret ?_
    refine PO.nils 120 65 waitC none ?_
    refine PO.cls (A := Dk p d.sync) (B := [cl p 118 [s1.v, s2.v, .slice none 0 0], Sl 115 64 pieceC s1.v d.seen, Sl 115 64 pieceC s2.v d.seen, Sl 120 65 waitC (.slice none 0 0) []]) (fun S h => ⟨(s1, s2, ⟨none, 0, 0⟩), h⟩) ?_
    exact PO.fin Tryz.results65 (rv_tmp rv_nil) hK

theorem Read_spec {g : World} {p : Nat} {d : DiskM} (i : Nat) (b : List UInt8) (hi : i < d.sure.length) (hb : d.seen[i]? = some b) (h64 : b.length = 64) : Spec Tryz.prog g 80 [.pointer (some ⟨p, 0, none⟩), .int .i64 i] [Dk p d] fun K R => ∀ a m c, K (.tuple #[.slice a m c, .int .i64 0]) (Sl 5 1 eB (.slice a m c) b :: Dk p d :: R) := by
  refine Spec.intro Tryz.func80 rfl Tryz.ntmps80 rfl fun R K hK => ?_
  refine WP.seq ?_
  refine WP.reg ?_
  refine WL.e e_assign <| WL.e e_assign ?_
  refine WL.next ?_
  refine WP.seq ?_
  refine WP.seq ?_
  refine WP.reg ?_
  refine WL.e e_move <| WL.e e_move ?_
  refine WL.h (h_call (Dmay_spec (d := d) i hi) k97 ?_)
  refine WL.opn (Dk_op (p := p) (d := d)) fun x => ?_
  obtain ⟨s1, s2, s3⟩ := x
  dsimp only
  refine WL.e e_assign ?_
  refine WL.next ?_
  refine WP.seq ?_
  refine WP.reg ?_
  refine WL.e e_move <| WL.e e_neq ?_
  refine WL.next ?_
  refine WP.cond_f rfl ?_
  refine WP.skip ?_
  refine PO.next ?_
  refine WP.seq ?_
  refine WP.reg ?_
  refine WL.e e_move <| WL.e e_nil <| WL.e (e_fa f118_1) <| WL.e (e_load a112) <| WL.e e_move ?_
  refine WL.e (el_ia (j := i) (xs := d.seen) sl112 sl_rl (idx_lt hb)) ?_
  refine WL.e (e_slice_el (k := i * 64) (z := 64) ar115 (sl_rl (E := 115) (z := 64) (enc := pieceC) (u := s2.v) (xs := d.seen)) (by have := idx_lt hb; omega)) ?_
  refine WL.h (h_call (CloneB_spec (rl_piece (sl_rl (E := 115) (u := s2.v) (xs := d.seen)) hb) (by rw [pad_len]; omega)) k104 ?_)
  intro a9 n9 c9
  rw [pad_id h64]
  refine WL.e e_assign <| WL.e e_assign ?_
  refine WL.next ?_
  refine WP.ret ?_
  refine PO.cls (A := Dk p d) (B := [cl p 118 [s1.v, s2.v, s3.v], Sl 115 64 pieceC s1.v d.sure, Sl 115 64 pieceC s2.v d.seen, Sl 120 65 waitC s3.v d.waits]) (fun S h => ⟨(s1, s2, s3), h⟩) ?_
  exact PO.fin Tryz.results80 (rv_tmp (rv_tmp rv_nil)) (hK a9 n9 c9)

end Go.SL
