import Derived.Test.YtmeoolijekillaaGreatDoorQL10
set_option linter.unusedSimpArgs false
set_option linter.unusedVariables false
namespace Go.SL.Fc
open Go Go.Proofs Go.SL
theorem a162:aggOf Tryz.prog 162=some none:=by kernel_rfl
theorem a163:aggOf Tryz.prog 163=some none:=by kernel_rfl
theorem a306:aggOf Tryz.prog 306=some (some 64):=by kernel_rfl
theorem ar306:arrOf Tryz.prog 306=some (5,64,1):=by kernel_rfl
theorem f165_0:fldOf Tryz.prog 165 0=some 0:=by kernel_rfl
theorem f165_1:fldOf Tryz.prog 165 1=some 1:=by kernel_rfl
theorem f165_2:fldOf Tryz.prog 165 2=some 2:=by kernel_rfl
theorem k152:callable Tryz.prog 152=true:=by kernel_rfl
theorem k206:callable Tryz.prog 206=true:=by kernel_rfl
theorem p165:placesOf Tryz.prog 165=some [(0,1),(1,1),(2,1)]:=by kernel_rfl
theorem p311:placesOf Tryz.prog 311=some [(0,1),(1,64)]:=by kernel_rfl
theorem pt85:isPtr Tryz.prog 85=true:=by kernel_rfl
theorem s163:szOf Tryz.prog 163=some 1:=by kernel_rfl
theorem s306:szOf Tryz.prog 306=some 64:=by kernel_rfl
theorem sl162:slOf Tryz.prog 162=some (306,64,64):=by kernel_rfl
theorem sl163:slOf Tryz.prog 163=some (311,65,72):=by kernel_rfl
theorem z165:zeroOf Tryz.prog 165=some [.slice none 0 0,.slice none 0 0,.slice none 0 0]:=by kernel_rfl
theorem z306:zeroOf Tryz.prog 306=some (List.replicate 64 (.int .u8 0)):=by kernel_rfl
theorem z311:zeroOf Tryz.prog 311=some [.int .i64 0,.int .u8 0,.int .u8 0,.int .u8 0,.int .u8 0,.int .u8 0,.int .u8 0,.int .u8 0,.int .u8 0,.int .u8 0,.int .u8 0,.int .u8 0,.int .u8 0,.int .u8 0,.int .u8 0,.int .u8 0,.int .u8 0,.int .u8 0,.int .u8 0,.int .u8 0,.int .u8 0,.int .u8 0,.int .u8 0,.int .u8 0,.int .u8 0,.int .u8 0,.int .u8 0,.int .u8 0,.int .u8 0,.int .u8 0,.int .u8 0,.int .u8 0,.int .u8 0,.int .u8 0,.int .u8 0,.int .u8 0,.int .u8 0,.int .u8 0,.int .u8 0,.int .u8 0,.int .u8 0,.int .u8 0,.int .u8 0,.int .u8 0,.int .u8 0,.int .u8 0,.int .u8 0,.int .u8 0,.int .u8 0,.int .u8 0,.int .u8 0,.int .u8 0,.int .u8 0,.int .u8 0,.int .u8 0,.int .u8 0,.int .u8 0,.int .u8 0,.int .u8 0,.int .u8 0,.int .u8 0,.int .u8 0,.int .u8 0,.int .u8 0,.int .u8 0]:=by kernel_rfl
end Go.SL.Fc
namespace Go.SL
open Go Go.Proofs Fc
def Dk (p:Nat) (d:DiskM):HP:=fun S=>∃ x:SV × SV × SV,stars [cl p 165 [x.1.v,x.2.1.v,x.2.2.v],Sl 306 64 pieceC x.1.v d.sure,Sl 306 64 pieceC x.2.1.v d.seen,Sl 311 65 waitC x.2.2.v d.waits] S
theorem Dk_op {p:Nat} {d:DiskM}:∀ S,Dk p d S→∃ x:SV × SV × SV,stars [cl p 165 [x.1.v,x.2.1.v,x.2.2.v],Sl 306 64 pieceC x.1.v d.sure,Sl 306 64 pieceC x.2.1.v d.seen,Sl 311 65 waitC x.2.2.v d.waits] S:=fun _ h=>h
theorem New_spec {g:World} (n:Nat) (hn:n < 4294967296):Spec Tryz.prog g 47 [.int .i64 n] [] fun K R=>((n < 1∨4096 < n)→K (.tuple #[.pointer none,.int .i64 1]) R)∧(¬ n < 1→¬ 4096 < n→∀ p,K (.tuple #[.pointer (some ⟨p,0,none⟩),.int .i64 0]) (Dk p (newDisk n)::R)):=by
 refine Spec.intro Tryz.func47 rfl Tryz.ntmps47 rfl fun R K hK=>?_
 refine WP.seq<|WP.reg<|WL.e e_assign<|WL.e e_assign<|WL.next<|WP.seq<|WP.seq<|WP.reg<|WL.e e_move<|WL.e e_lss<|WL.e e_move ?_
 refine WL.bool 6 rfl (fun h1=>?_) (fun h1=>?_)
 ·replace h1:n < 1:=by simp at h1;omega
  refine WL.skip<|WL.skip<|WL.e e_pick_t<|WL.next<|WP.cond_t rfl<|WP.seq<|WP.reg<|WL.e e_assign<|WL.e e_assign<|WL.next<|WP.ret<|PO.past nofun ?_
  exact PO.fin Tryz.results47 (rv_tmp (rv_tmp rv_nil)) (hK.1 (.inl h1))
 ·replace h1:¬ n < 1:=by simp at h1;omega
  refine WL.e e_move<|WL.e e_gtr<|WL.e e_pick_f<|WL.next ?_
  refine WP.cond rfl (fun h2=>?_) (fun h2=>?_)
  ·replace h2:4096 < n:=by simp at h2;omega
   refine WP.seq<|WP.reg<|WL.e e_assign<|WL.e e_assign<|WL.next<|WP.ret<|PO.past nofun ?_
   exact PO.fin Tryz.results47 (rv_tmp (rv_tmp rv_nil)) (hK.1 (.inr h2))
  ·replace h2:¬ 4096 < n:=by simp at h2;omega
   refine WP.skip<|PO.next<|WP.seq<|WP.draws mixedOk 8<|RW.e 0 rfl e_move<|RW.e 2 rfl e_move ?_
   refine RW.any (is:=[1,3]) rfl ⟨?_,?_,trivial⟩
   ·skip
    refine RWat.h rfl rfl rfl ?_
    refine (hl_make (enc:=pieceC) (n:=n) (List.replicate 64 0) sl162 z306 (by omega) (fun a1 n1 c1=>?_) (hzz:=by simp) (ha:=piece0))
    refine ⟨⟨⟨_,rfl,.inl ⟨rfl,e_move⟩⟩,trivial⟩,?_⟩
    refine RW.any (is:=[3]) rfl ⟨?_,trivial⟩
    refine RWat.h rfl rfl rfl ?_
    refine (hl_make (enc:=pieceC) (n:=n) (List.replicate 64 0) sl162 z306 (by omega) (fun a2 n2 c2=>?_) (hzz:=by simp) (ha:=piece0))
    refine ⟨trivial,?_⟩
    refine RW.e 4 rfl (e_build z165 p165 (.o (.tmp 11) rfl<|.o (.tmp 13) rfl<|.z (.slice none 0 0)<|.n)) ?_
    refine RW.any (is:=[5]) rfl ⟨?_,trivial⟩
    refine RWat.h rfl rfl rfl ?_
    refine (h_box fun b1=>?_)
    refine ⟨trivial,?_⟩
    refine RW.e 6 rfl e_assign<|RW.e 7 rfl e_assign<|RW.done<|PO.next<|WP.ret<|PO.nils 311 65 waitC none ?_
    refine PO.cls (A:=Dk b1 (newDisk n)) (fun S h=>⟨(⟨a1,n1,c1⟩,⟨a2,n2,c2⟩,⟨none,0,0⟩),h⟩) ?_ (B:=[cl b1 165 [.slice a1 n1 c1,.slice a2 n2 c2,.slice none 0 0],Sl 306 64 pieceC (.slice a1 n1 c1) (newDisk n).sure,Sl 306 64 pieceC (.slice a2 n2 c2) (newDisk n).seen,Sl 311 65 waitC (.slice none 0 0) []])
    exact PO.fin Tryz.results47 (rv_tmp (rv_tmp rv_nil)) (hK.2 h1 h2 b1)
   ·skip
    refine RWat.h rfl rfl rfl ?_
    refine (hl_make (enc:=pieceC) (n:=n) (List.replicate 64 0) sl162 z306 (by omega) (fun a2 n2 c2=>?_) (hzz:=by simp) (ha:=piece0))
    refine ⟨⟨⟨_,rfl,.inl ⟨rfl,e_move⟩⟩,trivial⟩,?_⟩
    refine RW.any (is:=[1]) rfl ⟨?_,trivial⟩
    refine RWat.h rfl rfl rfl ?_
    refine (hl_make (enc:=pieceC) (n:=n) (List.replicate 64 0) sl162 z306 (by omega) (fun a1 n1 c1=>?_) (hzz:=by simp) (ha:=piece0))
    refine ⟨trivial,?_⟩
    refine RW.e 4 rfl (e_build z165 p165 (.o (.tmp 11) rfl<|.o (.tmp 13) rfl<|.z (.slice none 0 0)<|.n)) ?_
    refine RW.any (is:=[5]) rfl ⟨?_,trivial⟩
    refine RWat.h rfl rfl rfl ?_
    refine (h_box fun b2=>?_)
    refine ⟨trivial,?_⟩
    refine RW.e 6 rfl e_assign<|RW.e 7 rfl e_assign<|RW.done<|PO.next<|WP.ret<|PO.nils 311 65 waitC none ?_
    refine PO.cls (A:=Dk b2 (newDisk n)) (fun S h=>⟨(⟨a1,n1,c1⟩,⟨a2,n2,c2⟩,⟨none,0,0⟩),h⟩) ?_ (B:=[cl b2 165 [.slice a1 n1 c1,.slice a2 n2 c2,.slice none 0 0],Sl 306 64 pieceC (.slice a1 n1 c1) (newDisk n).sure,Sl 306 64 pieceC (.slice a2 n2 c2) (newDisk n).seen,Sl 311 65 waitC (.slice none 0 0) []])
    exact PO.fin Tryz.results47 (rv_tmp (rv_tmp rv_nil)) (hK.2 h1 h2 b2)
theorem Size_spec {g:World} {p:Nat} {d:DiskM}:Spec Tryz.prog g 152 [.pointer (some ⟨p,0,none⟩)] [Dk p d] fun K R=>K (.int .i64 d.sure.length) (Dk p d::R):=by
 refine Spec.intro Tryz.func152 rfl Tryz.ntmps152 rfl fun R K hK=>?_
 refine WP.seq<|WP.reg<|WL.e e_assign<|WL.next<|WP.seq<|WP.seq<|WP.reg<|WL.e e_move<|WL.e (e_peq pt85)<|WL.next ?_
 refine WP.cond rfl (fun h=>?_) (fun h=>?_)
 ·cases h
 ·refine WP.opn (Dk_op (p:=p) (d:=d)) fun x=>?_
  obtain ⟨s1,s2,s3⟩:=x
  dsimp only
  refine WP.skip<|PO.next<|WP.seq<|WP.reg<|WL.e e_move<|WL.e e_nil<|WL.e (e_fa f165_0)<|WL.e (e_load a162)<|WL.e (el_len sl162 (sl_rl (xs:=d.sure)))<|WL.e e_assign<|WL.next<|WP.ret<|PO.cls (A:=Dk p d) (B:=[cl p 165 [s1.v,s2.v,s3.v],Sl 306 64 pieceC s1.v d.sure,Sl 306 64 pieceC s2.v d.seen,Sl 311 65 waitC s3.v d.waits]) (fun S h=>⟨(s1,s2,s3),h⟩) ?_
  exact PO.fin Tryz.results152 (rv_tmp rv_nil) hK
theorem Dmay_spec {g:World} {p:Nat} {d:DiskM} (i:Nat) (hi:i < d.sure.length):Spec Tryz.prog g 206 [.pointer (some ⟨p,0,none⟩),.int .i64 i] [Dk p d] fun K R=>K (.int .i64 0) (Dk p d::R):=by
 refine Spec.intro Tryz.func206 rfl Tryz.ntmps206 rfl fun R K hK=>?_
 refine WP.seq<|WP.reg<|WL.e e_assign<|WL.next<|WP.seq<|WP.block<|WP.seq<|WP.reg<|WL.e e_move ?_
 refine WL.h (h_call (Size_spec) k152 ?_)
 refine WL.e e_eql<|WL.e e_assign<|WL.next ?_
 refine WP.cond rfl (fun h=>?_) (fun h=>?_)
 ·rw [beq_iff_eq] at h;omega
 ·skip
  refine WP.seq<|WP.reg<|WL.e e_move<|WL.e e_lss<|WL.e e_move ?_
  refine WL.bool 12 rfl (fun h1=>?_) (fun h1=>?_)
  ·rw [decide_eq_true_eq] at h1;omega 
  ·skip
   refine WL.e e_move<|WL.e e_move ?_
   refine WL.h (h_call (Size_spec) k152 ?_)
   refine WL.e e_geq<|WL.e e_pick_f<|WL.e e_assign<|WL.next ?_
   refine WP.cond rfl (fun h2=>?_) (fun h2=>?_)
   ·rw [decide_eq_true_eq] at h2;omega
   ·skip
    refine WP.skip<|PO.blockN<|PO.next<|WP.seq<|WP.reg<|WL.e e_assign<|WL.next<|WP.ret ?_
    exact PO.fin Tryz.results206 (rv_tmp rv_nil) hK
theorem Write_spec {g:World} {A:HP} {p:Nat} {d:DiskM} {u:Value} {b:List UInt8} (i:Nat) (hA:RL A 1 eB u b) (hi:i < d.sure.length) (hd:d.seen.length=d.sure.length) (hl:d.sure.length≤4096) (hb:b.length≤64) (hw:d.waits.length < 4294967296):Spec Tryz.prog g 156 [.pointer (some ⟨p,0,none⟩),.int .i64 i,u] [Dk p d,A] fun K R=>K (.int .i64 0) (Dk p (d.write i b)::A::R):=by
 refine Spec.intro Tryz.func156 rfl Tryz.ntmps156 rfl fun R K hK=>?_
 refine WP.seq<|WP.reg<|WL.e e_assign<|WL.next<|WP.seq<|WP.seq<|WP.reg<|WL.e e_move<|WL.e e_move ?_
 refine WL.h (h_call (Dmay_spec (d:=d) i hi) k206 ?_)
 refine WL.e e_assign<|WL.next<|WP.seq<|WP.reg<|WL.e e_move<|WL.e e_neq<|WL.next<|WP.cond_f rfl<|WP.skip<|PO.next<|WP.seq<|WP.seq<|WP.reg<|WL.e e_move<|WL.e (el_len sl34 hA)<|WL.e e_gtr<|WL.next ?_
 refine WP.cond rfl (fun h=>?_) (fun h=>?_)
 ·rw [decide_eq_true_eq] at h;omega
 ·skip
  refine WP.skip<|PO.next<|WP.seq<|WP.reg<|WL.opn (Dk_op (p:=p) (d:=d)) fun x=>?_
  obtain ⟨s1,s2,s3⟩:=x
  dsimp only
  refine WL.h (h_alloc z306 fun b1=>?_)
  refine WL.next<|WP.seq<|WP.reg<|WL.e (e_slice_arr ar306 rfl (.inl ⟨rfl,rfl⟩) (.inl ⟨rfl,rfl⟩) (by omega) (by omega))<|WL.e e_move ?_
  refine WL.h (h_copy (T:=34) (l:=List.replicate 64 (.int .u8 0)) (n:=64) (c:=64) (o:=0) sl34 ((At.lit (b:=b1) (o:=0) (Nat.le_refl 64)).sub (Nat.zero_le _) (Nat.le_refl _) (Nat.le_refl _)) (by simp) hA (ones_take _ (ones_flat eB_ok b)) ?_)
  rw [copy_piece b hb,← pieceC_pad]
  refine WL.next<|WP.seq<|WP.draws mixedOk 8<|RW.e 0 rfl e_move<|RW.e 1 rfl e_nil<|RW.e 2 rfl (e_fa f165_1)<|RW.e 3 rfl (e_load a162)<|RW.e 4 rfl e_move<|RW.e 5 rfl (e_loadW (l:=pieceC (pad b)) a306 (pieceE.len _))<|RW.e 6 rfl (el_ia (j:=i) (xs:=d.seen) sl162 sl_rl (by omega)) ?_
  refine RW.any (is:=[7]) rfl ⟨?_,trivial⟩
  refine RWat.h' rfl rfl rfl ?_
  refine (hl_store (xs:=d.seen) (j:=i) (pad b) s306 pieceE (by omega) ?_)
  refine ⟨trivial,?_⟩
  refine RW.done<|PO.next<|WP.seq<|WP.draws mixedOk 13<|RW.e 0 rfl e_move<|RW.e 1 rfl e_move<|RW.e 2 rfl e_nil<|RW.e 3 rfl (e_fa f165_2)<|RW.e 4 rfl (e_load a163)<|RW.e 5 rfl e_move<|RW.e 6 rfl (e_loadW (l:=pieceC (pad b)) a306 (pieceE.len _))<|RW.e 7 rfl (e_build_pair z311 p311 (pieceE.len _)) ?_
  refine RW.any (is:=[8]) rfl ⟨?_,trivial⟩
  refine RWat.h rfl rfl rfl ?_
  refine (h_bs1 (cs:=waitC (i,pad b)) sl163 z311 (waitE.len _) (fun b5=>?_))
  refine ⟨⟨⟨_,rfl,.inl ⟨rfl,(e_load a163)⟩⟩,⟨_,rfl,.inl ⟨rfl,(e_fa f165_2)⟩⟩,⟨_,rfl,.inl ⟨rfl,e_nil⟩⟩,⟨_,rfl,.inl ⟨rfl,e_move⟩⟩,⟨_,rfl,.inl ⟨rfl,e_move⟩⟩,trivial⟩,?_⟩
  refine RW.any (is:=[9]) rfl ⟨?_,trivial⟩
  refine RWat.h rfl rfl rfl ?_
  refine (hl_append (xs:=d.waits) (ys:=[(i,pad b)]) sl163 waitE z311 (lit_rl waitE [(i,pad b)] (show [(i,pad b)].flatMap waitC=waitC (i,pad b) by simp)) (by simp;omega) (fun a6 n6 c6=>?_))
  refine ⟨⟨⟨_,rfl,.inl ⟨rfl,e_move⟩⟩,trivial⟩,?_⟩
  refine RW.e 10 rfl e_nil<|RW.e 11 rfl (e_fa f165_2) ?_
  refine RW.any (is:=[12]) rfl ⟨?_,trivial⟩
  refine RWat.h' rfl rfl rfl ?_
  refine (h_store s163 ?_)
  refine ⟨trivial,?_⟩
  refine RW.done<|PO.next<|WP.seq<|WP.reg<|WL.e e_assign<|WL.next<|WP.ret<|PO.cls (A:=Dk p (d.write i b)) (B:=[cl p 165 [s1.v,s2.v,.slice a6 n6 c6],Sl 306 64 pieceC s1.v d.sure,Sl 306 64 pieceC s2.v (d.seen.set i (pad b)),Sl 311 65 waitC (.slice a6 n6 c6) (d.waits++[(i,pad b)])]) (fun S h=>⟨(s1,s2,⟨a6,n6,c6⟩),h⟩) ?_
  exact PO.fin Tryz.results156 (rv_tmp rv_nil) hK
theorem Sync_spec {g:World} {p:Nat} {d:DiskM} (h0:0 < d.sure.length) (hd:d.seen.length=d.sure.length):Spec Tryz.prog g 157 [.pointer (some ⟨p,0,none⟩)] [Dk p d] fun K R=>K (.int .i64 0) (Dk p d.sync::R):=by
 refine Spec.intro Tryz.func157 rfl Tryz.ntmps157 rfl fun R K hK=>?_
 refine WP.seq<|WP.reg<|WL.e e_assign<|WL.next<|WP.seq<|WP.seq<|WP.reg<|WL.e e_move ?_
 refine WL.h (h_call (Size_spec) k152 ?_)
 refine WL.e e_eql<|WL.next ?_
 refine WP.cond rfl (fun h=>?_) (fun h=>?_)
 ·rw [beq_iff_eq] at h;omega
 ·refine WP.opn (Dk_op (p:=p) (d:=d)) fun x=>?_
  obtain ⟨s1,s2,s3⟩:=x
  dsimp only
  refine WP.skip<|PO.next<|WP.seq<|WP.draws mixedOk 9<|RW.e 0 rfl e_move<|RW.e 1 rfl e_nil<|RW.e 2 rfl (e_fa f165_0)<|RW.e 3 rfl (e_load a162)<|RW.e 4 rfl e_move<|RW.e 5 rfl e_nil<|RW.e 6 rfl (e_fa f165_1)<|RW.e 7 rfl (e_load a162) ?_
  refine RW.any (is:=[8]) rfl ⟨?_,trivial⟩
  refine RWat.h rfl rfl rfl ?_
  refine (hl_copy0 (u:=s1.v) (xs:=d.sure) sl162 pieceE (sl_rl (xs:=d.seen)) ?_)
  rw [show over d.sure 0 d.seen=d.seen by simp [over,← hd]]
  refine ⟨trivial,?_⟩
  refine RW.done<|PO.next<|WP.seq<|WP.reg<|WL.e e_move<|WL.e e_nil<|WL.e (e_fa f165_2) ?_
  refine WL.h' (h_store s163 ?_)
  refine WL.next<|WP.seq<|WP.reg<|WL.e e_assign<|WL.next<|WP.ret<|PO.nils 311 65 waitC none ?_
  refine PO.cls (A:=Dk p d.sync) (B:=[cl p 165 [s1.v,s2.v,.slice none 0 0],Sl 306 64 pieceC s1.v d.seen,Sl 306 64 pieceC s2.v d.seen,Sl 311 65 waitC (.slice none 0 0) []]) (fun S h=>⟨(s1,s2,⟨none,0,0⟩),h⟩) ?_
  exact PO.fin Tryz.results157 (rv_tmp rv_nil) hK
theorem Read_spec {g:World} {p:Nat} {d:DiskM} (i:Nat) (b:List UInt8) (hi:i < d.sure.length) (hb:d.seen[i]?=some b) (h64:b.length=64):Spec Tryz.prog g 153 [.pointer (some ⟨p,0,none⟩),.int .i64 i] [Dk p d] fun K R=>∀ a m c,K (.tuple #[.slice a m c,.int .i64 0]) (Sl 5 1 eB (.slice a m c) b::Dk p d::R):=by
 refine Spec.intro Tryz.func153 rfl Tryz.ntmps153 rfl fun R K hK=>?_
 refine WP.seq<|WP.reg<|WL.e e_assign<|WL.e e_assign<|WL.next<|WP.seq<|WP.seq<|WP.reg<|WL.e e_move<|WL.e e_move ?_
 refine WL.h (h_call (Dmay_spec (d:=d) i hi) k206 ?_)
 refine WL.opn (Dk_op (p:=p) (d:=d)) fun x=>?_
 obtain ⟨s1,s2,s3⟩:=x
 dsimp only
 refine WL.e e_assign<|WL.next<|WP.seq<|WP.reg<|WL.e e_move<|WL.e e_neq<|WL.next<|WP.cond_f rfl<|WP.skip<|PO.next<|WP.seq<|WP.reg<|WL.e e_move<|WL.e e_nil<|WL.e (e_fa f165_1)<|WL.e (e_load a162)<|WL.e e_move<|WL.e (el_ia (j:=i) (xs:=d.seen) sl162 sl_rl (idx_lt hb))<|WL.e (e_slice_el (k:=i * 64) (z:=64) ar306 (sl_rl (E:=306) (z:=64) (enc:=pieceC) (u:=s2.v) (xs:=d.seen)) (by have:=idx_lt hb;omega)) ?_
 refine WL.h (h_call (CloneB_spec (rl_piece (sl_rl (E:=306) (u:=s2.v) (xs:=d.seen)) hb) (by rw [pad_len];omega)) k207 ?_)
 intro a9 n9 c9
 rw [pad_id h64]
 refine WL.e e_assign<|WL.e e_assign<|WL.next<|WP.ret<|PO.cls (A:=Dk p d) (B:=[cl p 165 [s1.v,s2.v,s3.v],Sl 306 64 pieceC s1.v d.sure,Sl 306 64 pieceC s2.v d.seen,Sl 311 65 waitC s3.v d.waits]) (fun S h=>⟨(s1,s2,s3),h⟩) ?_
 exact PO.fin Tryz.results153 (rv_tmp (rv_tmp rv_nil)) (hK a9 n9 c9)
end Go.SL
set_option linter.unusedSectionVars false
namespace Go.SL
open Go
def addW (d:DiskM) (i:Nat) (b:List UInt8):Nat→DiskM
  | 0=>d
  | k+1=>addW (d.write i (b.take 64)) (i+1) (b.drop 64) k
structure DiskM.ok (d:DiskM):Prop where
  pos:0 < d.sure.length
  le:d.sure.length≤4096
  len:d.seen.length=d.sure.length
  l1:∀ p ∈ d.sure,p.length=64
  l2:∀ p ∈ d.seen,p.length=64
theorem DiskM.ok.write {d:DiskM} (h:d.ok) (i:Nat) (b:List UInt8):(d.write i b).ok:=
  ⟨h.pos,h.le,by simpa [DiskM.write] using h.len,h.l1,fun p hp=>by
    rcases List.mem_or_eq_of_mem_set hp with h' | rfl
    · exact h.l2 p h'
    · exact pad_len b⟩
theorem DiskM.ok.sync {d:DiskM} (h:d.ok):d.sync.ok:=⟨by simp [DiskM.sync,h.len,h.pos],by simp [DiskM.sync,h.len,h.le],rfl,h.l2,h.l2⟩
theorem newDisk_ok {n:Nat} (h1:0 < n) (h2:n≤4096):(newDisk n).ok:=by
  refine ⟨by simpa [newDisk] using h1,by simpa [newDisk] using h2,by simp [newDisk],?_,?_⟩ <;> intro p hp <;> simp [newDisk,List.mem_replicate] at hp <;> simp [hp.2]
theorem addW_ok:∀ (k:Nat) (d:DiskM) (i:Nat) (b:List UInt8),d.ok→(addW d i b k).ok
  | 0,_,_,_,h=>h
  | k+1,d,i,b,h=>addW_ok k _ _ _ (h.write i _)
theorem addW_len:∀ (k:Nat) (d:DiskM) (i:Nat) (b:List UInt8),(addW d i b k).sure=d.sure∧(addW d i b k).waits.length=d.waits.length+k
  | 0,_,_,_=>⟨rfl,rfl⟩
  | k+1,d,i,b=>by
    obtain ⟨h1,h2⟩:=addW_len k (d.write i (b.take 64)) (i+1) (b.drop 64)
    exact ⟨h1,by rw [addW,h2];simp [DiskM.write];omega⟩
def cleanTo (all:List UInt8) (d:DiskM) (lo:Nat):Nat→DiskM
  | 0=>d
  | k+1=>if (all.drop ((lo+k) * 64)).take 64=List.replicate 64 0 then cleanTo all d lo k else (cleanTo all d lo k).write (lo+k) (List.replicate 64 0)
theorem cleanTo_ok (all:List UInt8) (d:DiskM) (lo:Nat):∀ k,d.ok→(cleanTo all d lo k).ok∧(cleanTo all d lo k).sure=d.sure∧(cleanTo all d lo k).waits.length≤d.waits.length+k
  | 0,h=>⟨h,rfl,by simp [cleanTo]⟩
  | k+1,h=>by
    obtain ⟨h1,h2,h3⟩:=cleanTo_ok all d lo k h
    simp only [cleanTo]
    split
    · exact ⟨h1,h2,by omega⟩
    · exact ⟨h1.write _ _,h2,by simp [DiskM.write];omega⟩
def recF:Nat→List UInt8→List (List UInt8 × Nat)
  | 0,_=>[]
  | k+1,b=>match getF b with
    | none=>[]
    | some (r,m)=>(r,m)::recF k (b.drop (m * 64))
def recs (b:List UInt8):List (List UInt8 × Nat):=recF b.length b
theorem getF_some {b r:List UInt8} {m:Nat} (h:getF b=some (r,m)):0 < m∧m * 64≤b.length∧m=secs r.length∧r.length≤16384∧frame r=b.take (m * 64):=by
  unfold getF at h
  split at h
  · cases h
  simp only at h
  split at h
  · cases h
  split at h
  · cases h
  split at h
  case isFalse=>cases h
  cases h
  have:=secs_le (beN (b.take 4)).toNat
  rename_i h1 h2 h3 h4
  have e:((b.drop 8).take (beN (b.take 4)).toNat).length=(beN (b.take 4)).toNat:=by simp;omega
  refine ⟨by omega,by omega,by rw [e],by omega,h4⟩
theorem recF_enough:∀ (k j:Nat) (b:List UInt8),b.length≤k→b.length≤j→recF k b=recF j b
  | 0,0,_,_,_=>rfl
  | 0,j+1,b,h,_=>by
    have:b=[]:=by simpa using h
    subst this;rfl
  | k+1,0,b,_,h=>by
    have:b=[]:=by simpa using h
    subst this;rfl
  | k+1,j+1,b,h1,h2=>by
    simp only [recF]
    cases hg:getF b with
    | none=>rfl
    | some x=>
      obtain ⟨r,m⟩:=x
      obtain ⟨h3,h4,_⟩:=getF_some hg
      simp only
      rw [recF_enough k j _ (by simp;omega) (by simp;omega)]
theorem recs_none {b:List UInt8} (h:getF b=none):recs b=[]:=by
  unfold recs
  cases hb:b.length with
  | zero=>rfl
  | succ k=>simp [recF,h]
theorem recs_some {b r:List UInt8} {m:Nat} (h:getF b=some (r,m)):recs b=(r,m)::recs (b.drop (m * 64)):=by
  obtain ⟨h3,h4,_⟩:=getF_some h
  unfold recs
  obtain ⟨k,hk⟩:∃ k,b.length=k+1:=⟨b.length - 1,by omega⟩
  rw [hk];simp only [recF,h]
  rw [recF_enough k (b.drop (m * 64)).length _ (by simp;omega) (Nat.le_refl _)]
theorem recs_le:∀ (n:Nat) (b:List UInt8),b.length≤n→((recs b).map (·.2)).sum * 64≤b.length∧(recs b).length * 64≤b.length
  | 0,b,h=>by
    have:b=[]:=by simpa using h
    subst this;simp [recs,recF]
  | n+1,b,h=>by
    cases hg:getF b with
    | none=>rw [recs_none hg];simp
    | some x=>
      obtain ⟨r,m⟩:=x
      obtain ⟨h3,h4,_⟩:=getF_some hg
      rw [recs_some hg]
      have ih:=recs_le n (b.drop (m * 64)) (by simp;omega)
      simp only [List.map_cons,List.sum_cons,List.length_cons,List.length_drop] at ih ⊢
      omega
theorem flat_seen {l:List (List UInt8)} (h:∀ p ∈ l,p.length=64):l.flatten.length=l.length * 64:=by
  induction l with
  | nil=>rfl
  | cons p l ih=>rw [List.flatten_cons,List.length_append,ih (fun q hq=>h q (by simp [hq])),h p (by simp)];simp;omega
end Go.SL
namespace Go.SL.Fc
open Go Go.Proofs Go.SL
theorem a166:aggOf Tryz.prog 166=some none:=by kernel_rfl
theorem a167:aggOf Tryz.prog 167=some none:=by kernel_rfl
theorem a3:aggOf Tryz.prog 3=some none:=by kernel_rfl
theorem a85:aggOf Tryz.prog 85=some none:=by kernel_rfl
theorem f244_1:fldOf Tryz.prog 244 1=some 1:=by kernel_rfl
theorem f246_0:fldOf Tryz.prog 246 0=some 0:=by kernel_rfl
theorem k153:callable Tryz.prog 153=true:=by kernel_rfl
theorem k154:callable Tryz.prog 154=true:=by kernel_rfl
theorem k155:callable Tryz.prog 155=true:=by kernel_rfl
theorem k156:callable Tryz.prog 156=true:=by kernel_rfl
theorem k157:callable Tryz.prog 157=true:=by kernel_rfl
theorem k208:callable Tryz.prog 208=true:=by kernel_rfl
theorem k209:callable Tryz.prog 209=true:=by kernel_rfl
theorem p244:placesOf Tryz.prog 244=some [(0,1),(1,1)]:=by kernel_rfl
theorem p246:placesOf Tryz.prog 246=some [(0,2)]:=by kernel_rfl
theorem s166:szOf Tryz.prog 166=some 1:=by kernel_rfl
theorem s167:szOf Tryz.prog 167=some 1:=by kernel_rfl
theorem s3:szOf Tryz.prog 3=some 1:=by kernel_rfl
theorem sl167:slOf Tryz.prog 167=some (34,1,24):=by kernel_rfl
theorem z166:zeroOf Tryz.prog 166=some [.pointer none]:=by kernel_rfl
theorem z167:zeroOf Tryz.prog 167=some [.slice none 0 0]:=by kernel_rfl
theorem z244:zeroOf Tryz.prog 244=some [.pointer none,.int .i64 0]:=by kernel_rfl
theorem z246:zeroOf Tryz.prog 246=some [.pointer none,.int .i64 0]:=by kernel_rfl
end Go.SL.Fc
namespace Go.SL
open Go Go.Proofs Fc
abbrev RecV:=SV × List UInt8 × Nat
def recE (x:RecV):List Value:=[x.1.v,.int .i64 x.2.2]
def recR (x:RecV):HP:=Sl 5 1 eB x.1.v x.2.1
theorem found_iter {g:World} {A:HP} {c1:Nat} {w:SV} {b:List UInt8} (hA:RL A 1 eB w.v b) (hb:b.length≤68719476736) :
  Iter Tryz.prog g 208 (fun y=>[]++[y]++[.pointer (some ⟨c1,0,none⟩)]) [cl c1 34 [w.v],A] recE recR (fun xs=>xs.map (·.2)=recs b) (fun pre=>pre.map (·.2) <+: recs b) [A]:=by
 intro y J X cont hy
 refine Spec.intro Tryz.func208 rfl Tryz.ntmps208 rfl fun R K hK=>?_
 refine WP.block<|WP.loopK (fun (x:SV × List UInt8 × List RecV)=>[]) (fun (x:SV × List UInt8 × List RecV)=>J x.2.2::cl c1 34 [x.1.v]::A::R) [(0,_),(1,_)] (fun (x:SV × List UInt8 × List RecV)=>RL A 1 eB x.1.v x.2.1∧x.2.1.length≤b.length∧x.2.2.map (·.2)++recs x.2.1=recs b∧Hist cont x.2.2) (fun (x:SV × List UInt8 × List RecV)=>x.2.1.length) (w,b,[]) (⟨hA,Nat.le_refl _,rfl,Hist.nil⟩) ?_
 rintro ⟨w1,b1,pre⟩ ⟨hr,hl,he,hh⟩
 simp only at hr hl he hh
 dsimp only
 refine WP.block<|WP.seq<|WP.reg<|WL.e (e_load a34) ?_
 refine WL.h (h_call (Get_spec hr (by omega)) k209 ?_)
 refine ⟨fun hg=>?_,fun r m hg a2 n2 c2=>?_⟩
 ·skip
  refine WL.e e_move<|WL.e e_extract<|WL.e e_extract<|WL.e e_extract<|WL.e e_assign<|WL.e e_assign<|WL.e e_assign<|WL.next<|WP.seq<|WP.seq<|WP.reg<|WL.e e_move<|WL.e e_neq<|WL.e e_move ?_
  refine WL.bool 14 rfl (fun h=>?_) (fun h=>?_)
  ·skip
   refine WL.skip<|WL.skip<|WL.skip<|WL.skip<|WL.skip<|WL.e e_pick_t<|WL.next<|WP.cond_t rfl<|WP.ret<|PO.past nofun<|PO.blockR<|PO.round nofun<|PO.blockR ?_
   exact PO.fin Tryz.results208 rv_nil (hK.1 pre (by rw [← he,recs_none hg];simp) hh)
  ·simp at h 
 ·have hm:=getF_some hg
  have hpf:(pre++[((⟨a2,n2,c2⟩,r,m):RecV)]).map (·.2) <+: recs b:=by rw [← he,recs_some hg];simp
  refine WL.e e_move<|WL.e e_extract<|WL.e e_extract<|WL.e e_extract<|WL.e e_assign<|WL.e e_assign<|WL.e e_assign<|WL.next<|WP.seq<|WP.seq<|WP.reg<|WL.e e_move<|WL.e e_neq<|WL.e e_move ?_
  refine WL.bool 14 rfl (fun h=>?_) (fun h=>?_)
  ·simp at h 
  ·skip
   refine WL.e e_move<|WL.e e_move<|WL.e e_move ?_
   refine WL.h (h_cally (hy pre (⟨a2,n2,c2⟩,r,m) hpf hh) ?_)
   refine ⟨fun hc=>?_,fun hc=>?_⟩
   ·skip
    refine WL.e e_not<|WL.e e_pick_f<|WL.next<|WP.cond_f rfl<|WP.skip<|PO.next<|WP.reg<|WL.e (e_load a34)<|WL.e e_move<|WL.e (e_mul (c:=((m * 64:Nat):Int)) rfl rfl (by rw [w_i64 (by omega) (by omega)];omega))<|WL.e (el_from (lo:=m * 64) sl34 hr hm.2.1) ?_
    refine WL.h' (h_store s34 ?_)
    refine WL.nil<|PO.blockN ?_
    exact PO.againK (subS w1 (m * 64) b1.length 1,b1.drop (m * 64),pre++[(⟨a2,n2,c2⟩,r,m)]) ⟨by rw [subS_eq];exact RL.from_ eB_ok hr hm.2.1,by simp;omega,by rw [← he,recs_some hg];simp,hh.snoc hc⟩ (by simp;omega)
   ·skip
    refine WL.e e_not<|WL.e e_pick_f<|WL.next<|WP.cond_t rfl<|WP.ret<|PO.past nofun<|PO.blockR<|PO.round nofun<|PO.blockR ?_
    exact PO.fin Tryz.results208 rv_nil (hK.2 pre (⟨a2,n2,c2⟩,r,m) hpf hh hc)
theorem found_spec {g:World} {w:SV}:Spec Tryz.prog g 154 [w.v] [] fun K R=>∀ c1,K (.func (.func 208) #[] #[.pointer (some ⟨c1,0,none⟩)]) (cl c1 34 [w.v]::R):=by
 refine Spec.intro Tryz.func154 rfl Tryz.ntmps154 rfl fun R K hK=>?_
 refine WP.seq<|WP.reg ?_
 refine WL.h (h_box fun b1=>?_)
 refine WL.e e_assign<|WL.next<|WP.seq<|WP.reg<|WL.e e_makeFunc<|WL.e e_assign<|WL.next<|WP.ret ?_
 exact PO.fin Tryz.results154 (rv_tmp rv_nil) (hK b1)
def recC (x:RecV):List Value:=[x.1.v]
theorem recCE:EncOk 1 recC:=⟨fun _=>rfl,fun _=>rfl⟩
def RecsR (l:List RecV):HP:=bun (l.map recR)
theorem RecsR_snoc {l:List RecV} {x:RecV}:∀ S,stars [RecsR l,recR x] S→RecsR (l++[x]) S:=fun S h=>by
 have:=stars_bun h
 unfold RecsR bun
 rwa [List.map_append]
theorem RecsR_nil {L:List HP} {S:Piece} (h:stars L S):stars (RecsR []::L) S:=bun_stars (L:=[]) h
def tot (l:List RecV):Nat:=(l.map (·.2.2)).sum
def OpJ (b2 bl b3 p:Nat) (pre:List RecV):HP:=fun S=>∃ sv:SV,stars [cl b2 166 [.pointer (some ⟨bl,0,none⟩)],cl bl 246 [.pointer (some ⟨p,0,none⟩),.int .i64 (tot pre)],cl b3 167 [sv.v],Sl 34 1 recC sv.v pre,RecsR pre] S
theorem tot_le {all:List UInt8} {pre:List RecV} (h:pre.map (·.2) <+: recs all):tot pre * 64≤all.length∧pre.length * 64≤all.length:=by
 obtain ⟨t,ht⟩:=h
 have h1:=recs_le _ all (Nat.le_refl _)
 rw [← ht] at h1
 simp only [List.map_append,List.sum_append,List.length_append,List.length_map,List.map_map] at h1
 have e:(pre.map ((fun x=>x.2)∘fun x=>x.2)).sum=tot pre:=rfl
 rw [e] at h1
 omega
theorem tot_snoc (pre:List RecV) (x:RecV):tot (pre++[x])=tot pre+x.2.2:=by simp [tot]
theorem Open_spec {g:World} {p:Nat} {d:DiskM} (hd:d.ok) (hw:d.waits.length < 4000000000):Spec Tryz.prog g 97 [.pointer (some ⟨p,0,none⟩)] [Dk p d] fun K R=>∀ (l:Nat) (sv:SV) (xs:List RecV),xs.map (·.2)=recs d.seen.flatten→K (.tuple #[.pointer (some ⟨l,0,none⟩),sv.v,.int .i64 0]) (cl l 246 [.pointer (some ⟨p,0,none⟩),.int .i64 (tot xs)]::Sl 34 1 recC sv.v xs::RecsR xs::Dk p (cleanTo d.seen.flatten d (tot xs) (d.sure.length - tot xs)).sync::R):=by
 refine Spec.intro Tryz.func97 rfl Tryz.ntmps97 rfl fun R K hK=>?_
 refine WP.seq<|WP.reg ?_
 refine WL.h (h_alloc z166 fun b1=>?_)
 refine WL.h (h_alloc z167 fun b2=>?_)
 refine WL.e e_assign<|WL.next<|WP.seq<|WP.seq<|WP.reg<|WL.e e_move ?_
 refine WL.h (h_call (Size_spec) k152 ?_)
 refine WL.e e_eql<|WL.next ?_
 refine WP.cond rfl (fun h=>?_) (fun h=>?_)
 ·rw [beq_iff_eq] at h;have:=hd.pos;omega
 ·have hle:=hd.le
  have hlen:=hd.len
  refine WP.skip<|PO.next<|WP.seq<|WP.reg<|WL.e e_assign<|WL.next<|WP.seq<|WP.seq<|WP.reg<|WL.e e_move ?_
  refine WL.h (h_call (Size_spec) k152 ?_)
  refine WL.e e_move<|WL.next<|WP.block<|WP.nils 5 1 eB none ?_
  refine WP.loopK (fun (x:Nat × Value)=>[(18,.int .i64 x.1),(5,x.2)]) (fun (x:Nat × Value)=>Sl 5 1 eB x.2 (d.seen.take x.1).flatten::cl b1 166 [.pointer none]::cl b2 167 [.slice none 0 0]::Dk p d::R) [(0,_),(2,_),(3,_),(4,_),(17,_)] (fun (x:Nat × Value)=>x.1≤d.sure.length) (fun (x:Nat × Value)=>d.sure.length - x.1) (0,.slice none 0 0) (Nat.zero_le _) ?_
  rintro ⟨i,u5⟩ hx1
  simp only at hx1
  dsimp only
  refine WP.seq<|WP.reg<|WL.e e_lss<|WL.next<|WP.seq ?_
  refine WP.cond rfl (fun h2=>?_) (fun h2=>?_)
  ·have hlt:i < d.sure.length:=by rw [decide_eq_true_eq] at h2;omega
   obtain ⟨q,hq⟩:∃ q,d.seen[i]?=some q:=⟨_,List.getElem?_eq_getElem (by omega)⟩
   have hq64:=hd.l2 q (List.mem_of_getElem? hq)
   have hfl:(d.seen.take i).flatten.length=i * 64:=by rw [flat_seen (fun p hp=>hd.l2 p (List.mem_of_mem_take hp))];simp;omega
   refine WP.skip<|PO.next<|WP.seq<|WP.block<|WP.seq<|WP.reg<|WL.e e_move<|WL.e e_assign<|WL.next<|WP.seq<|WP.reg<|WL.e e_move<|WL.e e_move ?_
   refine WL.h (h_call (Read_spec i q hlt hq hq64) k153 ?_)
   intro a4 n4 c4
   refine WL.e e_move<|WL.e e_extract<|WL.e e_extract<|WL.e e_assign<|WL.e e_assign<|WL.next<|WP.reg<|WL.e e_move<|WL.e e_move ?_
   refine WL.h (hl_append (xs:=(d.seen.take i).flatten) (ys:=q) sl34 eB_ok z5 sl_rl (by omega) (fun a6 n6 c6=>?_))
   rw [show (d.seen.take i).flatten++q=(d.seen.take (i+1)).flatten by rw [take_snoc hq];simp]
   refine WL.e e_assign<|WL.nil<|PO.blockN<|PO.next<|WP.reg<|WL.e (e_add rfl rfl (w_i64 (by omega) (by omega)))<|WL.e e_move<|WL.nil ?_
   exact PO.againK (i+1,.slice a6 n6 c6) (by simp only;omega) (by simp only;omega)
  ·rw [List.take_of_length_le (show d.seen.length≤i by rw [decide_eq_false_iff_not] at h2;omega)]
   have hall:d.seen.flatten.length=d.sure.length * 64:=by rw [flat_seen hd.l2,hlen]
   refine WP.sh (u:=u5) ?_
   rintro a5 n5 c5 rfl
   refine WP.exit<|PO.past nofun<|PO.round nofun<|PO.blockX<|PO.next<|WP.seq<|WP.reg<|WL.e e_move<|WL.e (e_build z244 p244 (.o (.tmp 31) rfl<|.z (.int .i64 0)<|.n))<|WL.e (e_build z246 p246 (.a2 (.tmp 32) rfl<|.n)) ?_
   refine WL.h (h_box fun b3=>?_)
   refine WL.h' (h_store s166 ?_)
   refine WL.next<|WP.seq<|WP.seq<|WP.reg<|WL.e e_move ?_
   refine WL.h (h_call (found_spec (w:=⟨a5,n5,c5⟩)) k154 ?_)
   intro c1
   refine WL.next<|WP.block<|WP.nils 34 1 recC none ?_
   refine WP.conv (fun S h=>RecsR_nil h) ?_
   refine WP.cls (A:=OpJ b1 b3 b2 p []) (B:=[cl b1 166 [.pointer (some ⟨b3,0,none⟩)],cl b3 246 [.pointer (some ⟨p,0,none⟩),.int .i64 (tot ([]))],cl b2 167 [.slice none 0 0],Sl 34 1 recC (.slice none 0 0) ([]),RecsR ([])]) (fun S h=>⟨⟨none,0,0⟩,h⟩) ?_
   refine WP.range (R:=?RR) (f:=208) (fs:=[]) (cs:=[.pointer (some ⟨c1,0,none⟩)]) (OpJ b1 b3 b2 p) (fun _ _ _=>pu True) (fun _ _=>True) (found_iter (A:=Sl 5 1 eB (.slice a5 n5 c5) d.seen.flatten) (w:=⟨a5,n5,c5⟩) (b:=d.seen.flatten) sl_rl (by omega)) k208 ?hLL ?_ ?_ ?_ (fun _=>rfl)
   case hLL=>repeat first | exact .nil | exact Pick.z | apply Pick.s | apply Split.cons
   ·rintro lb db fn tmps pre ⟨⟨a7,n7,c7⟩,r,m⟩ R2 hp hh
    have htl:=tot_le hp
    rw [tot_snoc,List.length_append] at htl
    simp only [List.length_cons,List.length_nil] at htl
    refine WP.opn (B:=fun sv:SV=>[cl b1 166 [.pointer (some ⟨b3,0,none⟩)],cl b3 246 [.pointer (some ⟨p,0,none⟩),.int .i64 (tot (pre))],cl b2 167 [sv.v],Sl 34 1 recC (sv.v) (pre),RecsR (pre)]) (fun _ h=>h) fun sv=>?_
    refine WP.seq<|WP.reg<|WL.e e_assign<|WL.next<|WP.reg<|WL.e e_assign<|WL.nil<|PO.asg rfl (by repeat first | exact .z | apply Put.s)<|WP.block<|WP.seq<|WP.reg<|WL.e (e_load a167)<|WL.e e_move ?_
    refine WL.h (h_bs sl167 z34 (.o (.tmp 40) rfl<|.n) fun b4=>?_)
    refine WL.h (hl_append (xs:=pre) (ys:=[((⟨a7,n7,c7⟩,r,m):RecV)]) sl167 recCE z34 (lit_rl recCE [((⟨a7,n7,c7⟩,r,m):RecV)] rfl) (by simp;omega) (fun a8 n8 c8=>?_))
    refine WL.h' (h_store s167 ?_)
    refine WL.next<|WP.reg<|WL.e (e_load a166)<|WL.e e_nil<|WL.e (e_fa f246_0)<|WL.e (e_fa f244_1)<|WL.e (e_load a3)<|WL.e e_move<|WL.e (e_add (c:=((tot (pre++[((⟨a7,n7,c7⟩,r,m):RecV)]):Nat):Int)) rfl rfl (by rw [tot_snoc];simp only;rw [w_i64 (by omega) (by omega)];omega))<|WL.e e_nil<|WL.e (e_fa f246_0)<|WL.e (e_fa f244_1) ?_
    refine WL.h' (h_store s3 ?_)
    refine WL.nil<|PO.blockN<|PO.cls (B:=[RecsR pre,recR (⟨a7,n7,c7⟩,r,m)]) RecsR_snoc ?_
    refine PO.cls (A:=OpJ b1 b3 b2 p (pre++[((⟨a7,n7,c7⟩,r,m):RecV)])) (B:=[cl b1 166 [.pointer (some ⟨b3,0,none⟩)],cl b3 246 [.pointer (some ⟨p,0,none⟩),.int .i64 (tot (pre++[((⟨a7,n7,c7⟩,r,m):RecV)]))],cl b2 167 [.slice a8 n8 c8],Sl 34 1 recC (.slice a8 n8 c8) (pre++[((⟨a7,n7,c7⟩,r,m):RecV)]),RecsR (pre++[((⟨a7,n7,c7⟩,r,m):RecV)])]) (fun S h=>⟨⟨a8,n8,c8⟩,h⟩) ?_
    exact PO.rnd trivial (by repeat first | exact .refl | exact Pick.z | apply Pick.s | apply Sub.cons | apply Sub.drop)
   ·intro db xs hx hh
    have htl:=tot_le (hx ▸ List.prefix_refl _:xs.map (·.2) <+: recs d.seen.flatten)
    refine PO.opn (B:=fun sv:SV=>[cl b1 166 [.pointer (some ⟨b3,0,none⟩)],cl b3 246 [.pointer (some ⟨p,0,none⟩),.int .i64 (tot (xs))],cl b2 167 [sv.v],Sl 34 1 recC (sv.v) (xs),RecsR (xs)]) (fun _ h=>h) fun sv=>?_
    refine PO.blockN<|PO.next<|WP.seq<|WP.reg ?_
    refine WL.h (hl_make (enc:=eB) (n:=64) (0:UInt8) sl34 z5 (by omega) (fun a9 n9 c9=>?_))
    refine WL.e e_assign<|WL.next<|WP.seq<|WP.seq<|WP.reg<|WL.e (e_load a166)<|WL.e e_nil<|WL.e (e_fa f246_0)<|WL.e (e_fa f244_1)<|WL.e (e_load a3)<|WL.e e_assign<|WL.next<|WP.block<|WP.loopK (fun (k:Nat)=>[(12,.int .i64 (tot xs+k:Nat))]) (fun (k:Nat)=>[cl b1 166 [.pointer (some ⟨b3,0,none⟩)],cl b3 246 [.pointer (some ⟨p,0,none⟩),.int .i64 (tot (xs))],cl b2 167 [sv.v],Sl 34 1 recC (sv.v) (xs),RecsR (xs)]++(Sl 5 1 eB (.slice a5 n5 c5) d.seen.flatten::Sl 5 1 eB (.slice a9 n9 c9) (List.replicate 64 0)::Dk p (cleanTo d.seen.flatten d (tot xs) k)::pt db (.deferred (some []))::R)) [(0,_),(2,_),(3,_),(4,_),(5,_),(11,_)] (fun (k:Nat)=>tot xs+k≤d.sure.length) (fun (k:Nat)=>d.sure.length - k) 0 (by omega) ?_
    intro k hk
    obtain ⟨hok,hsu,hwt⟩:=cleanTo_ok d.seen.flatten d (tot xs) k hd
    refine WP.seq<|WP.seq<|WP.reg<|WL.e e_move<|WL.e e_move ?_
    refine WL.h (h_call (Size_spec) k152 ?_)
    refine WL.e e_lss<|WL.next ?_
    refine WP.cond rfl (fun h4=>?_) (fun h4=>?_)
    ·have hlt:tot xs+k < d.sure.length:=by rw [decide_eq_true_eq,hsu] at h4;omega
     refine WP.skip<|PO.next<|WP.seq<|WP.block<|WP.seq<|WP.reg<|WL.e e_move<|WL.e e_move<|WL.e (e_mul (c:=(((tot xs+k) * 64:Nat):Int)) rfl rfl (by rw [w_i64 (by omega) (by omega)];omega))<|WL.e e_move<|WL.e (e_add (c:=((tot xs+k+1:Nat):Int)) rfl rfl (by rw [w_i64 (by omega) (by omega)];omega))<|WL.e (e_mul (c:=(((tot xs+k+1) * 64:Nat):Int)) rfl rfl (by rw [w_i64 (by omega) (by omega)];omega))<|WL.e (el_fromto (lo:=(tot xs+k) * 64) (hi:=(tot xs+k+1) * 64) (xs:=d.seen.flatten) sl34 sl_rl (by omega) (by omega))<|WL.e e_move ?_
     refine WL.h (h_call (BEqual_spec (xs:=(d.seen.flatten.drop ((tot xs+k) * 64)).take 64) (ys:=List.replicate 64 0) (by have:=RL.sub (lo:=(tot xs+k) * 64) (hi:=(tot xs+k+1) * 64) (mx:=none) eB_ok (sl_rl (E:=5) (z:=1) (enc:=eB) (u:=.slice a5 n5 c5) (xs:=d.seen.flatten)) (by omega) (by omega) (by simp);rwa [show (tot xs+k+1) * 64 - (tot xs+k) * 64=64 by omega] at this) sl_rl) k155 ?_)
     refine WL.e e_not<|WL.next ?_
     refine WP.cond rfl (fun h5=>?_) (fun h5=>?_)
     ·replace h5:¬ (d.seen.flatten.drop ((tot xs+k) * 64)).take 64=List.replicate 64 0:=by simpa using h5
      refine WP.reg<|WL.e e_move<|WL.e e_move<|WL.e e_move ?_
      refine WL.h (h_call (Write_spec (d:=(cleanTo d.seen.flatten d (tot xs) k)) (b:=List.replicate 64 0) (tot xs+k) sl_rl (by rw [hsu];exact hlt) hok.len hok.le (by simp) (by omega)) k156 ?_)
      refine WL.nil<|PO.blockN<|PO.next<|WP.reg<|WL.e e_move<|WL.e (e_add (c:=((tot xs+(k+1):Nat):Int)) rfl rfl (by rw [w_i64 (by omega) (by omega)];omega))<|WL.e e_assign<|WL.nil ?_
      rw [show (cleanTo d.seen.flatten d (tot xs) k).write (tot xs+k) (List.replicate 64 0)=cleanTo d.seen.flatten d (tot xs) (k+1) by rw [cleanTo,if_neg h5]]
      exact PO.againK (k+1) (by omega) (by omega)
     ·replace h5:(d.seen.flatten.drop ((tot xs+k) * 64)).take 64=List.replicate 64 0:=by simpa using h5
      refine WP.skip<|PO.blockN<|PO.next<|WP.reg<|WL.e e_move<|WL.e (e_add (c:=((tot xs+(k+1):Nat):Int)) rfl rfl (by rw [w_i64 (by omega) (by omega)];omega))<|WL.e e_assign<|WL.nil ?_
      rw [show (cleanTo d.seen.flatten d (tot xs) k)=cleanTo d.seen.flatten d (tot xs) (k+1) by rw [cleanTo,if_pos h5]]
      exact PO.againK (k+1) (by omega) (by omega)
    ·obtain rfl:k=d.sure.length - tot xs:=by rw [decide_eq_false_iff_not,hsu] at h4;omega
     refine WP.exit<|PO.past nofun<|PO.round nofun<|PO.blockX<|PO.next<|WP.seq<|WP.draws mixedOk 7<|RW.e 0 rfl (e_load a166)<|RW.e 1 rfl (e_load a167)<|RW.e 2 rfl e_move ?_
     refine RW.any (is:=[3]) rfl ⟨?_,trivial⟩
     refine RWat.h rfl rfl rfl ?_
     refine (h_call (Sync_spec hok.pos hok.len) k157 ?_)
     refine ⟨⟨⟨_,rfl,.inl ⟨rfl,(e_load a167)⟩⟩,⟨_,rfl,.inl ⟨rfl,(e_load a166)⟩⟩,trivial⟩,?_⟩
     refine RW.any (is:=[4]) rfl ⟨?_,trivial⟩
     refine RWat.h' rfl rfl rfl ?_
     refine (h_store s166 ?_)
     refine ⟨⟨⟨_,rfl,.inl ⟨rfl,(e_load a167)⟩⟩,trivial⟩,?_⟩
     refine RW.any (is:=[5]) rfl ⟨?_,trivial⟩
     refine RWat.h' rfl rfl rfl ?_
     refine (h_store s167 ?_)
     refine ⟨trivial,?_⟩
     refine RW.e 6 rfl e_assign<|RW.done<|PO.next<|WP.ret ?_
     exact PO.finM (by repeat first | exact .z | apply Put.s) Tryz.results97 (rv_cell a166 (rv_cell a167 (rv_tmp rv_nil))) (hK b3 sv xs hx)
   ·exact fun _ _ _ _ _ _ hc=>absurd trivial hc
end Go.SL
namespace Go.SL
open Go
def cmpS (a b:ByteArray):Int:=if sLt a b then -1 else if sLt b a || sEq a b then (if sEq a b then 0 else 1) else 1
theorem sEq_iff {a b:ByteArray}:sEq a b=true↔a=b:=by
  simp only [sEq,beq_iff_eq]
  constructor
  · intro h
    rw [ByteArray.ext_iff]
    apply Array.ext'
    simpa [ByteArray.toList_eq] using h
  · rintro rfl;rfl
theorem bl_irrefl:∀ l:List UInt8,Op.bytesLess l l=false
  | []=>rfl
  | a::l=>by simp [Op.bytesLess,bl_irrefl l]
theorem bl_trans:∀ {a b c:List UInt8},Op.bytesLess a b=true→Op.bytesLess b c=true→Op.bytesLess a c=true
  | [],[],_,h,_=>by simp [Op.bytesLess] at h
  | [],_::_,[],_,h=>by simp [Op.bytesLess] at h
  | [],_::_,_::_,_,_=>by simp [Op.bytesLess]
  | _::_,[],_,h,_=>by simp [Op.bytesLess] at h
  | _::_,_::_,[],_,h=>by simp [Op.bytesLess] at h
  | x::a,y::b,z::c,h,h'=>by
    simp only [Op.bytesLess,Bool.or_eq_true,Bool.and_eq_true,decide_eq_true_eq,beq_iff_eq] at h h' ⊢
    rcases h with h | ⟨rfl,h⟩ <;> rcases h' with h' | ⟨rfl,h'⟩
    · left;exact UInt8.lt_trans h h'
    · exact .inl h
    · exact .inl h'
    · exact .inr ⟨rfl,bl_trans h h'⟩
theorem bl_tri:∀ (a b:List UInt8),Op.bytesLess a b=true∨a=b∨Op.bytesLess b a=true
  | [],[]=>.inr (.inl rfl)
  | [],_::_=>.inl (by simp [Op.bytesLess])
  | _::_,[]=>.inr (.inr (by simp [Op.bytesLess]))
  | x::a,y::b=>by
    simp only [Op.bytesLess,Bool.or_eq_true,Bool.and_eq_true,decide_eq_true_eq,beq_iff_eq,List.cons.injEq]
    rcases UInt8.lt_or_lt_of_ne_or_eq x y with h | h | h
    · exact .inl (.inl h)
    · exact .inr (.inr (.inl h))
    · subst h
      rcases bl_tri a b with h | h | h
      · exact .inl (.inr ⟨rfl,h⟩)
      · exact .inr (.inl ⟨rfl,h⟩)
      · exact .inr (.inr (.inr ⟨rfl,h⟩))
where
  UInt8.lt_or_lt_of_ne_or_eq (x y:UInt8):x < y∨y < x∨x=y:=by
    rcases Nat.lt_trichotomy x.toNat y.toNat with h | h | h
    · exact .inl (UInt8.lt_iff_toNat_lt.2 h)
    · exact .inr (.inr (UInt8.toNat_inj.1 h))
    · exact .inr (.inl (UInt8.lt_iff_toNat_lt.2 h))
theorem sLt_irrefl (a:ByteArray):sLt a a=false:=bl_irrefl _
theorem sLt_trans {a b c:ByteArray} (h:sLt a b=true) (h':sLt b c=true):sLt a c=true:=bl_trans h h'
theorem sLt_tri (a b:ByteArray):sLt a b=true∨a=b∨sLt b a=true:=by
  rcases bl_tri a.toList b.toList with h | h | h
  · exact .inl h
  · refine .inr (.inl (sEq_iff.1 ?_));simp [sEq,h]
  · exact .inr (.inr h)
theorem sLt_asymm {a b:ByteArray} (h:sLt a b=true):sLt b a=false:=by
  cases e:sLt b a with
  | false=>rfl
  | true=>have:=sLt_trans h e;rw [sLt_irrefl] at this;cases this
def Rising (l:List RowM):Prop:=l.Pairwise fun a b=>sLt a.key b.key=true
def lowI (l:List RowM) (k:ByteArray):Nat:=(l.takeWhile fun r=>sLt r.key k).length
def hasI (l:List RowM) (k:ByteArray):Bool:=match l[lowI l k]? with
  | some r=>sEq r.key k
  | none=>false
theorem lowI_le (l:List RowM) (k:ByteArray):lowI l k≤l.length:=(List.takeWhile_sublist _).length_le
theorem low_le {l:List RowM} {k:ByteArray} {h:Nat} {x:RowM} (hx:l[h]?=some x) (hp:sLt x.key k=false):lowI l k≤h:=by
  induction l generalizing h with
  | nil=>simp at hx
  | cons a l ih=>
    unfold lowI at *
    rw [List.takeWhile_cons]
    cases h with
    | zero=>simp at hx;subst hx;simp [hp]
    | succ h=>
      simp at hx
      split
      · simp;exact ih hx
      · simp
theorem low_gt {l:List RowM} {k:ByteArray} (hl:Rising l) {h:Nat} {x:RowM} (hx:l[h]?=some x) (hp:sLt x.key k=true):h < lowI l k:=by
  induction l generalizing h with
  | nil=>simp at hx
  | cons a l ih=>
    have hr:=List.pairwise_cons.1 hl
    unfold lowI at *
    rw [List.takeWhile_cons]
    cases h with
    | zero=>simp at hx;subst hx;simp [hp]
    | succ h=>
      simp at hx
      have ha:sLt a.key k=true:=sLt_trans (hr.1 x (List.mem_of_getElem? hx)) hp
      simp [ha];exact ih hr.2 hx
theorem cmpS_lt (a b:ByteArray):decide (cmpS a b < 0)=sLt a b:=by
  unfold cmpS
  cases sLt a b <;> simp
  split <;> (try split) <;> simp
theorem cmpS_eq {a b:ByteArray}:(cmpS a b == 0)=sEq a b:=by
  unfold cmpS
  by_cases h:sEq a b=true
  · have:=sEq_iff.1 h;subst this;simp [sLt_irrefl,h]
  · simp only [Bool.not_eq_true] at h
    rw [h];split <;> (try split) <;> simp_all
end Go.SL
namespace Go.SL.Fc
open Go Go.Proofs Go.SL
theorem a24:aggOf Tryz.prog 24=some none:=by kernel_rfl
theorem a275:aggOf Tryz.prog 275=some none:=by kernel_rfl
theorem a59:aggOf Tryz.prog 59=some (some 2):=by kernel_rfl
theorem f188_0:fldOf Tryz.prog 188 0=some 0:=by kernel_rfl
theorem f188_1:fldOf Tryz.prog 188 1=some 1:=by kernel_rfl
theorem f59_0:fldOf Tryz.prog 59 0=some 0:=by kernel_rfl
theorem k104:callable Tryz.prog 104=true:=by kernel_rfl
theorem k167:callable Tryz.prog 167=true:=by kernel_rfl
theorem k168:callable Tryz.prog 168=true:=by kernel_rfl
theorem k226:callable Tryz.prog 226=true:=by kernel_rfl
theorem k227:callable Tryz.prog 227=true:=by kernel_rfl
theorem k228:callable Tryz.prog 228=true:=by kernel_rfl
theorem k281:callable Tryz.prog 281=true:=by kernel_rfl
theorem k59:callable Tryz.prog 59=true:=by kernel_rfl
theorem k92:callable Tryz.prog 92=true:=by kernel_rfl
theorem p188:placesOf Tryz.prog 188=some [(0,1),(1,1)]:=by kernel_rfl
theorem pt108:isPtr Tryz.prog 108=true:=by kernel_rfl
theorem sl24:slOf Tryz.prog 24=some (59,2,24):=by kernel_rfl
theorem z188:zeroOf Tryz.prog 188=some [.slice none 0 0,.bool false]:=by kernel_rfl
theorem z59:zeroOf Tryz.prog 59=some [.string .empty,.int .u32 0]:=by kernel_rfl
end Go.SL.Fc
namespace Go.SL
open Go Go.Proofs Fc
theorem isNaN_spec {g:World} (a:ByteArray):Spec Tryz.prog g 281 [.string a] [] fun K R=>K (.bool false) R:=by
 refine Spec.intro Tryz.func281 rfl Tryz.ntmps281 rfl fun R K hK=>?_
 refine WP.seq<|WP.reg<|WL.e e_assign<|WL.next<|WP.seq<|WP.reg<|WL.e e_move<|WL.e e_move<|WL.e e_sne<|WL.e e_assign<|WL.next<|WP.ret ?_
 exact PO.finE Tryz.results281 (rv_tmp rv_nil) (by simp [sEq]) hK
theorem cmp_spec {g:World} (a b:ByteArray):Spec Tryz.prog g 228 [.string a,.string b] [] fun K R=>K (.int .i64 (cmpS a b)) R:=by
 refine Spec.intro Tryz.func228 rfl Tryz.ntmps228 rfl fun R K hK=>?_
 refine WP.seq<|WP.reg<|WL.e e_assign<|WL.next<|WP.seq<|WP.reg<|WL.e e_move ?_
 refine WL.h (h_call (isNaN_spec _) k281 ?_)
 refine WL.e e_assign<|WL.next<|WP.seq<|WP.reg<|WL.e e_move ?_
 refine WL.h (h_call (isNaN_spec _) k281 ?_)
 refine WL.e e_assign<|WL.next<|WP.seq<|WP.seq<|WP.reg<|WL.e e_move<|WL.next<|WP.cond_f rfl<|WP.skip<|PO.next<|WP.seq<|WP.seq<|WP.reg<|WL.e e_move<|WL.next<|WP.cond_f rfl<|WP.skip<|PO.next<|WP.seq<|WP.seq<|WP.reg<|WL.e e_move<|WL.e e_move<|WL.e e_slt ?_
 refine WL.next ?_
 refine WP.cond rfl (fun h1=>?_) (fun h1=>?_)
 ·skip
  refine WP.seq<|WP.reg<|WL.e e_assign<|WL.next<|WP.ret<|PO.past nofun ?_
  exact PO.finE Tryz.results228 (rv_tmp rv_nil) (by simp_all [cmpS]) hK
 ·skip
  refine WP.skip<|PO.next<|WP.seq<|WP.seq<|WP.reg<|WL.e e_move<|WL.e e_move<|WL.e e_sgt<|WL.next ?_
  refine WP.cond rfl (fun h2=>?_) (fun h2=>?_)
  ·skip
   refine WP.seq<|WP.reg<|WL.e e_assign<|WL.next<|WP.ret<|PO.past nofun ?_
   exact PO.finE Tryz.results228 (rv_tmp rv_nil) (by simp_all [cmpS]) hK
  ·skip
   refine WP.skip<|PO.next<|WP.seq<|WP.reg<|WL.e e_assign<|WL.next<|WP.ret ?_
   exact PO.finE Tryz.results228 (rv_tmp rv_nil) (by simp_all [cmpS]) hK
theorem rowKey_spec {g:World} (x:RowM):Spec Tryz.prog g 168 [x.v] [] fun K R=>K (.string x.key) R:=by
 refine Spec.intro Tryz.func168 rfl Tryz.ntmps168 rfl fun R K hK=>?_
 refine WP.seq<|WP.reg ?_
 refine WL.h (h_box fun b1=>?_)
 refine WL.e e_assign<|WL.next<|WP.seq<|WP.reg<|WL.e (e_fa f59_0)<|WL.e (e_load a9)<|WL.e e_assign<|WL.next<|WP.ret ?_
 exact PO.fin Tryz.results168 (rv_tmp rv_nil) hK
theorem cmpRow_spec {g:World} (x:RowM) (k:ByteArray) (cb:Nat):Spec Tryz.prog g 227 [x.v,.string k,.pointer (some ⟨cb,0,none⟩)] [cl cb 275 [.func (.func 168) #[] #[]]] fun K R=>K (.int .i64 (cmpS x.key k)) (cl cb 275 [.func (.func 168) #[] #[]]::R):=by
 refine Spec.intro Tryz.func227 rfl Tryz.ntmps227 rfl fun R K hK=>?_
 refine WP.seq<|WP.reg ?_
 refine WL.h (h_box fun b1=>?_)
 refine WL.e e_assign<|WL.next<|WP.seq<|WP.reg<|WL.e (e_load a275)<|WL.e (e_loadN a59) ?_
 refine WL.h (h_callv (fs:=[]) (cs:=[]) (args:=[x.v]) (rowKey_spec x) k168 ?_)
 refine WL.e e_move ?_
 refine WL.h (h_call (cmp_spec _ _) k228 ?_)
 refine WL.e e_assign<|WL.next<|WP.ret ?_
 exact PO.fin Tryz.results227 (rv_tmp rv_nil) hK
theorem BSF_spec {g:World} {A:HP} {u y:Value} {l:List RowM} {k:ByteArray} {B:HP} (hA:RL A 2 RowM.c u l) (hl:Rising l) (hn:l.length≤68719476736) (hy:∀ x:RowM,CallV Tryz.prog g y [x.v,.string k] [B] fun K R=>K (.int .i64 (cmpS x.key k)) (B::R)) :
  Spec Tryz.prog g 226 [u,.string k,y] [A,B] fun K R=>K (.tuple #[.int .i64 (lowI l k),.bool (hasI l k)]) (A::B::R):=by
 refine Spec.intro Tryz.func226 rfl Tryz.ntmps226 rfl fun R K hK=>?_
 refine WP.seq<|WP.reg<|WL.e e_assign<|WL.e e_assign<|WL.next<|WP.seq<|WP.reg<|WL.e e_move<|WL.e (el_len sl24 hA)<|WL.e e_assign<|WL.next<|WP.seq<|WP.reg<|WL.e e_move<|WL.e e_assign<|WL.e e_assign<|WL.next<|WP.seq<|WP.block<|WP.loopK (fun (x:Nat × Nat)=>[(9,.int .i64 x.1),(10,.int .i64 x.2)]) (fun (x:Nat × Nat)=>A::B::R) [(0,_),(1,_),(2,_),(6,_),(7,_),(8,_)] (fun (x:Nat × Nat)=>x.1≤lowI l k∧lowI l k≤x.2∧x.2≤l.length) (fun (x:Nat × Nat)=>x.2 - x.1) (0,l.length) (⟨Nat.zero_le _,lowI_le l k,Nat.le_refl _⟩) ?_
 rintro ⟨i,j⟩ ⟨h1,h2,h3⟩
 simp only at h1 h2 h3
 dsimp only
 refine WP.seq<|WP.seq<|WP.reg<|WL.e e_move<|WL.e e_move<|WL.e e_lss<|WL.next ?_
 refine WP.cond rfl (fun h4=>?_) (fun h4=>?_)
 ·have hij:i < j:=by rw [decide_eq_true_eq] at h4;omega
  obtain ⟨r,hr⟩:∃ r,l[(i+j) / 2]?=some r:=⟨_,List.getElem?_eq_getElem (by omega)⟩
  refine WP.skip<|PO.next<|WP.block<|WP.seq<|WP.reg<|WL.e e_move<|WL.e e_move<|WL.e (e_add (c:=((i+j:Nat):Int)) rfl rfl (by rw [w_i64 (by omega) (by omega)];omega))<|WL.e (e_conv (c:=((i+j:Nat):Int)) (by rw [Tryz.underlying3];rfl) Tryz.underlying148 rfl (by simp [IntKind.wrap,IntKind.bits,IntKind.signed];omega))<|WL.e (e_shrN (k:=.u64) (a:=i+j) (m:=1) (by decide))<|WL.e (e_conv (c:=(((i+j) / 2:Nat):Int)) (by rw [Tryz.underlying148];rfl) Tryz.underlying3 rfl (w_i64 (by omega) (by omega)))<|WL.e e_assign<|WL.next<|WP.seq<|WP.reg<|WL.e e_move<|WL.e e_move<|WL.e e_move<|WL.e (el_ia (j:=(i+j) / 2) sl24 hA (by omega))<|WL.e (el_loadN a59 rowE hA hr)<|WL.e e_move ?_
  refine WL.h (h_cally (hy r) ?_)
  refine WL.e e_lss<|WL.next ?_
  refine WP.cond rfl (fun h5=>?_) (fun h5=>?_)
  ·rw [cmpS_lt] at h5
   refine WP.reg<|WL.e e_move<|WL.e (e_add (c:=(((i+j) / 2+1:Nat):Int)) rfl rfl (by rw [w_i64 (by omega) (by omega)];omega))<|WL.e e_assign<|WL.nil<|PO.blockN ?_
   exact PO.againK ((i+j) / 2+1,j) ⟨low_gt hl hr h5,h2,h3⟩ (by simp only;omega)
  ·rw [cmpS_lt] at h5
   refine WP.reg<|WL.e e_move<|WL.e e_assign<|WL.nil<|PO.blockN ?_
   exact PO.againK (i,(i+j) / 2) ⟨h1,low_le hr h5,by simp only;omega⟩ (by simp only;omega)
 ·obtain rfl:i=lowI l k:=by rw [decide_eq_false_iff_not] at h4;omega
  refine WP.exit<|PO.past nofun<|PO.round nofun<|PO.blockX<|PO.next<|WP.seq<|WP.reg<|WL.e e_move<|WL.e e_move<|WL.e e_move<|WL.e e_lss<|WL.e e_move ?_
  refine WL.bool 39 rfl (fun h6=>?_) (fun h6=>?_)
  ·obtain ⟨r,hr⟩:∃ r,l[lowI l k]?=some r:=⟨_,List.getElem?_eq_getElem (by rw [decide_eq_true_eq] at h6;omega)⟩
   refine WL.e e_move<|WL.e e_move<|WL.e e_move<|WL.e (el_ia (j:=lowI l k) sl24 hA (idx_lt hr))<|WL.e (el_loadN a59 rowE hA hr)<|WL.e e_move ?_
   refine WL.h (h_cally (hy r) ?_)
   refine WL.e e_eql<|WL.e e_pick_t<|WL.e e_assign<|WL.e e_assign<|WL.next<|WP.ret ?_
   exact PO.finE Tryz.results226 (rv_tmp (rv_tmp rv_nil)) (by simp [hasI,hr,cmpS_eq]) hK
  ·skip
   refine WL.skip<|WL.skip<|WL.skip<|WL.skip<|WL.skip<|WL.skip<|WL.skip<|WL.skip<|WL.e e_pick_f<|WL.e e_assign<|WL.e e_assign<|WL.next<|WP.ret ?_
   exact PO.finE Tryz.results226 (rv_tmp (rv_tmp rv_nil)) (by rw [decide_eq_false_iff_not] at h6;simp [hasI,List.getElem?_eq_none (show l.length≤lowI l k by omega)]) hK
theorem place_spec {g:World} {A:HP} {u:Value} {l:List RowM} (k:ByteArray) (hA:RL A 2 RowM.c u l) (hl:Rising l) (hn:l.length≤68719476736) :
  Spec Tryz.prog g 167 [u,.string k,.func (.func 168) #[] #[]] [A] fun K R=>K (.tuple #[.int .i64 (lowI l k),.bool (hasI l k)]) (A::R):=by
 refine Spec.intro Tryz.func167 rfl Tryz.ntmps167 rfl fun R K hK=>?_
 refine WP.seq<|WP.reg ?_
 refine WL.h (h_box fun b1=>?_)
 refine WL.e e_assign<|WL.e e_assign<|WL.next<|WP.seq<|WP.reg<|WL.e e_move<|WL.e e_move<|WL.e e_makeFunc ?_
 refine WL.h (h_call (BSF_spec (k:=k) hA hl hn (fun x=>CallV.of_spec (fs:=[]) (cs:=[.pointer (some ⟨b1,0,none⟩)]) (cmpRow_spec x k b1) k227)) k226 ?_)
 refine WL.e e_extract<|WL.e e_extract<|WL.e e_assign<|WL.e e_assign<|WL.next<|WP.ret ?_
 exact PO.fin Tryz.results167 (rv_tmp (rv_tmp rv_nil)) hK
def Mm (p:Nat) (l:List RowM):HP:=fun S=>∃ x:SV,stars [cl p 188 [x.v,.bool true],Sl 59 2 RowM.c x.v l] S
theorem Mm_op {p:Nat} {l:List RowM}:∀ S,Mm p l S→∃ x:SV,stars [cl p 188 [x.v,.bool true],Sl 59 2 RowM.c x.v l] S:=fun _ h=>h
theorem find_spec {g:World} {p:Nat} {l:List RowM} (k:ByteArray) (hl:Rising l) (hn:l.length≤68719476736):Spec Tryz.prog g 105 [.pointer (some ⟨p,0,none⟩),.string k] [Mm p l] fun K R=>K (.tuple #[.int .i64 (lowI l k),.bool (hasI l k)]) (Mm p l::R):=by
 refine Spec.intro Tryz.func105 rfl Tryz.ntmps105 rfl fun R K hK=>?_
 refine WP.opn (Mm_op (p:=p) (l:=l)) fun s=>?_
 refine WP.seq<|WP.reg<|WL.e e_assign<|WL.e e_assign<|WL.next<|WP.seq<|WP.reg<|WL.e e_move<|WL.e e_nil<|WL.e (e_fa f188_0)<|WL.e (e_load a24)<|WL.e e_move ?_
 refine WL.h (h_call (place_spec k (sl_rl (xs:=l)) hl hn) k167 ?_)
 refine WL.e e_extract<|WL.e e_extract<|WL.e e_assign<|WL.e e_assign<|WL.next<|WP.ret<|PO.cls (A:=Mm p l) (B:=[cl p 188 [s.v,.bool true],Sl 59 2 RowM.c (s.v) l]) (fun S h=>⟨s,h⟩) ?_
 exact PO.fin Tryz.results105 (rv_tmp (rv_tmp rv_nil)) hK
theorem MNew_spec {g:World}:Spec Tryz.prog g 53 [] [] fun K R=>∀ p,K (.pointer (some ⟨p,0,none⟩)) (Mm p []::R):=by
 refine Spec.intro Tryz.func53 rfl Tryz.ntmps53 rfl fun R K hK=>?_
 refine WP.seq<|WP.reg<|WL.e e_assign<|WL.next<|WP.seq<|WP.reg<|WL.e (e_build z188 p188 (.z (.slice none 0 0)<|.o (.const (.bool true)) rfl<|.n)) ?_
 refine WL.h (h_box fun b1=>?_)
 refine WL.e e_assign<|WL.next<|WP.ret<|PO.nils 59 2 RowM.c none ?_
 refine PO.cls (A:=Mm b1 []) (B:=[cl b1 188 [.slice none 0 0,.bool true],Sl 59 2 RowM.c (.slice none 0 0) []]) (fun S h=>⟨⟨none,0,0⟩,h⟩) ?_
 exact PO.fin Tryz.results53 (rv_tmp rv_nil) (hK b1)
theorem Mthere_spec {g:World} {p:Nat} {l:List RowM}:Spec Tryz.prog g 104 [.pointer (some ⟨p,0,none⟩)] [Mm p l] fun K R=>K (.bool true) (Mm p l::R):=by
 refine Spec.intro Tryz.func104 rfl Tryz.ntmps104 rfl fun R K hK=>?_
 refine WP.opn (Mm_op (p:=p) (l:=l)) fun s=>?_
 refine WP.seq<|WP.reg<|WL.e e_assign<|WL.next<|WP.seq<|WP.reg<|WL.e e_move<|WL.e (e_pne pt108)<|WL.e e_move ?_
 refine WL.bool 5 rfl (fun h=>?_) (fun h=>?_)
 ·skip
  refine WL.e e_move<|WL.e e_nil<|WL.e (e_fa f188_1)<|WL.e (e_load a4)<|WL.e e_pick_t<|WL.e e_assign<|WL.next<|WP.ret<|PO.cls (A:=Mm p l) (B:=[cl p 188 [s.v,.bool true],Sl 59 2 RowM.c (s.v) l]) (fun S h=>⟨s,h⟩) ?_
  exact PO.fin Tryz.results104 (rv_tmp rv_nil) hK
 ·cases h 
theorem CloneR_spec {g:World} {A:HP} {u:Value} {xs:List RowM} (hA:RL A 2 RowM.c u xs) (hb:xs.length≤68719476736):Spec Tryz.prog g 92 [u] [A] fun K R=>∀ a m c,K (.slice a m c) (Sl 59 2 RowM.c (.slice a m c) xs::A::R):=by
 refine Spec.intro Tryz.func92 rfl Tryz.ntmps92 rfl fun R K hK=>?_
 refine WP.seq<|WP.reg<|WL.e e_assign<|WL.next<|WP.seq<|WP.seq<|WP.reg<|WL.e e_move<|WL.e (e_slnil sl24 hA)<|WL.next ?_
 refine WP.cond rfl (fun h=>?_) (fun h=>?_)
 ·refine WP.know (φ:=xs=[]) (Pick.know (A:=A) (by exact .z) fun S hS=>?_) fun hx=>?_
  ·rcases hA S hS with ⟨h0,_⟩ | ⟨b,o,c,l,t,e,_⟩
   ·simpa using h0
   ·rw [e] at h;cases h
  subst hx
  refine WP.nils 59 2 RowM.c none ?_
  refine WP.seq<|WP.reg<|WL.e e_assign<|WL.next<|WP.ret<|PO.past nofun ?_
  exact PO.fin Tryz.results92 (rv_tmp rv_nil) (hK none 0 0)
 ·skip
  refine WP.skip<|PO.next<|WP.seq<|WP.reg ?_
  refine WL.h (h_bs0 sl24 (enc:=RowM.c) fun a1 n1 c1=>?_)
  refine WL.e e_move ?_
  refine WL.h (hl_append (xs:=[]) (ys:=xs) sl24 rowE z59 hA (by simp;omega) fun a2 n2 c2=>?_)
  rw [List.nil_append]
  refine WL.e e_assign<|WL.next<|WP.ret ?_
  exact PO.fin Tryz.results92 (rv_tmp rv_nil) (hK a2 n2 c2)
theorem Rows_spec {g:World} {p:Nat} {l:List RowM} (hn:l.length≤68719476736):Spec Tryz.prog g 59 [.pointer (some ⟨p,0,none⟩)] [Mm p l] fun K R=>∀ a m c,K (.slice a m c) (Sl 59 2 RowM.c (.slice a m c) l::Mm p l::R):=by
 refine Spec.intro Tryz.func59 rfl Tryz.ntmps59 rfl fun R K hK=>?_
 refine WP.seq<|WP.reg<|WL.e e_assign<|WL.next<|WP.seq<|WP.seq<|WP.reg<|WL.e e_move ?_
 refine WL.h (h_call (Mthere_spec) k104 ?_)
 refine WL.e e_not<|WL.next ?_
 refine WP.cond rfl (fun h=>?_) (fun h=>?_)
 ·cases h
 ·refine WP.opn (Mm_op (p:=p) (l:=l)) fun s=>?_
  refine WP.skip<|PO.next<|WP.seq<|WP.reg<|WL.e e_move<|WL.e e_nil<|WL.e (e_fa f188_0)<|WL.e (e_load a24) ?_
  refine WL.h (h_call (CloneR_spec (sl_rl (xs:=l)) hn) k92 ?_)
  intro a m c
  refine WL.e e_assign<|WL.next<|WP.ret<|PO.cls (A:=Mm p l) (B:=[cl p 188 [s.v,.bool true],Sl 59 2 RowM.c (s.v) l]) (fun S h=>⟨s,h⟩) ?_
  exact PO.fin Tryz.results59 (rv_tmp rv_nil) (hK a m c)
end Go.SL
namespace Go.SL
open Go
theorem stars_one {b:Nat} {o:Obj} {S:Piece} (h:stars [pt b o] S):pt b o S:=by
  obtain ⟨S1,S2,_,h1,_,h2,_⟩:=h;exact h1 _ _ h2
section
variable {P : Program} {r : Option Nat} {g : World} {Γ : Env} {L M : List HP} {Q : Post} {dst : Option Tmp} {t : TypeId} {pos : String} {aft : Array Edge} {gd : Option (Nat × Bool)}
theorem h_append_at {T E z y n c k b o:Nat} {U:TypeId} {x xv:Operand} {u v:Value} {l ds:List Value} {B:HP} {N M':List HP} {K:Value→List HP→Prop} (hs:slOf P T=some (E,z,y)) (hA:At u b o n c) (hl:o+c * z≤l.length) (hB:Rd B z v k ds) (h1:ones ds=true) (hnk:n+k≤c)
    (hK:∀ a,At (.slice a (n+k) c) b o (n+k) c→K (.slice a (n+k) c) N) (hx:ev Γ x=some u:=by rfl) (hv:ev Γ xv=some v:=by rfl) (p2:Pick L B M':=by repeat first | exact .z | apply Pick.s) (hp:Put L (cl b U l) (cl b U (splice l (o+n * z) ds)) N:=by repeat first | exact .z | apply Put.s):HO P r g ⟨dst,.call ⟨.builtin .append,#[x,xv],#[T,T]⟩,t,pos,aft,gd⟩ Γ L K:=
  HO.run (by simp) fun a w ha hw=>by
    obtain ⟨a',rfl,hn,hx'⟩:=hA
    obtain ⟨R,p1,_⟩:=hp.picks
    have hr:=hw.rd p2 hB
    have hb:=hw.get p1
    obtain ⟨hu,hsz,_⟩:=slOf_und hs
    have hm:(#[x,xv]:Array Operand).map a.eval=#[.slice a' n c,v]:=by simp [ev_ok hx ha,ev_ok hv ha]
    have hm1:(n+k) * z≤c * z:=Nat.mul_le_mul_right _ hnk
    rw [Nat.add_mul] at hm1
    have hread:=hr.read (P:=P)
    have hlen:=hr.len
    rcases hx' with rfl | rfl
    · obtain ⟨w',hrun,a1,a2,a3,a4,a5,a6⟩:=run_storeCells (P:=P) (T:=U) ds 0 (o+n * z) l w hb (by omega) (ones_ok h1)
      refine ⟨_,N,w',?_,hK _ ⟨_,rfl,hnk,.inl rfl⟩,hw.set hp w' a1 a2 a3 a4 (by simpa using a5) a6⟩
      show (do let d ← resolve a.eval ⟨.builtin .append,#[x,xv],#[T,T]⟩ t;invoke d.target d.args:Sem Next).run P w=_
      simp only [resolve,hm,Sem.run_bind,Sem.run_pure,Result.andThen_ok,invoke,builtin]
      simp only [Builtin.append_,List.getElem?_toArray,List.getElem?_cons_zero,List.getElem?_cons_succ,Sem.run_bind,run_underlying hu,Result.andThen_ok,run_sizeOf hsz]
      simp [hread.1,hread.2,hnk,add_none,hrun]
    · have e1:n=0:=by omega
      have e2:k=0:=by omega
      subst e1;subst e2
      have hd:ds=[]:=by simpa using hlen
      subst hd
      refine ⟨_,N,w,?_,hK a' ⟨_,rfl,Nat.le_refl _,.inr rfl⟩,hw.set hp w rfl rfl rfl rfl (by simpa [splice] using hb) (fun _ _=>rfl)⟩
      show (do let d ← resolve a.eval ⟨.builtin .append,#[x,xv],#[T,T]⟩ t;invoke d.target d.args:Sem Next).run P w=_
      simp only [resolve,hm,Sem.run_bind,Sem.run_pure,Result.andThen_ok,invoke,builtin]
      simp only [Builtin.append_,List.getElem?_toArray,List.getElem?_cons_zero,List.getElem?_cons_succ,Sem.run_bind,run_underlying hu,Result.andThen_ok,run_sizeOf hsz]
      cases a' <;> simp [hread.1,hread.2,storeCells]
theorem splice_mid (U V W vs:List Value) (h:vs.length=V.length):splice (U++V++W) U.length vs=U++vs++W:=by
  rw [splice_eq _ _ _ (by simp [h])]
  rw [List.append_assoc U V W,List.take_left,← List.append_assoc,List.drop_append,List.drop_eq_nil_of_le (by simp [h])]
  simp [h]
theorem del_cells {α:Type} {z o c:Nat} {enc:α→List Value} (he:EncOk z enc) {l zs:List Value} {A D:List α} {x:α} (hl:o+c * z≤l.length) (hc:(A++x::D).length≤c) (hcs:(l.drop o).take ((A++x::D).length * z)=(A++x::D).flatMap enc) (hz:zs.length=z) :
    ((splice (splice l (o+A.length * z) (D.flatMap enc)) (o+(A.length+D.length) * z) zs).drop o).take ((A++D).length * z)=(A++D).flatMap enc∧(splice (splice l (o+A.length * z) (D.flatMap enc)) (o+(A.length+D.length) * z) zs).length=l.length:=by
  have hm:(A++x::D).length * z≤c * z:=Nat.mul_le_mul_right _ hc
  have hlP:(l.take o).length=o:=by simp;omega
  have el:l=l.take o++(A++x::D).flatMap enc++l.drop (o+(A++x::D).length * z):=by
    rw [← hcs,List.append_assoc]
    conv=>lhs;rw [← List.take_append_drop o l]
    congr 1
    rw [← List.drop_drop];exact (List.take_append_drop _ _).symm
  generalize hP:l.take o=P at el hlP
  generalize l.drop (o+(A++x::D).length * z)=S at el
  have hfA:=flat_len he A
  have hfD:=flat_len he D
  have hfx:=he.len x
  have e1:l=(P++A.flatMap enc)++((enc x++D.flatMap enc).take (D.flatMap enc).length)++((enc x++D.flatMap enc).drop (D.flatMap enc).length++S):=by
    rw [el];simp only [List.flatMap_append,List.flatMap_cons,List.append_assoc]
    rw [← List.append_assoc (List.take _ _),List.take_append_drop];simp
  have hU:(P++A.flatMap enc).length=o+A.length * z:=by simp [hfA,hlP]
  have s1:splice l (o+A.length * z) (D.flatMap enc)=(P++A.flatMap enc)++D.flatMap enc++((enc x++D.flatMap enc).drop (D.flatMap enc).length++S):=by
    rw [e1,← hU,splice_mid _ _ _ _ (by simp)]
  have hU2:(P++A.flatMap enc++D.flatMap enc).length=o+(A.length+D.length) * z:=by simp [hfA,hfD,hlP,Nat.add_mul]
  have s2:splice (splice l (o+A.length * z) (D.flatMap enc)) (o+(A.length+D.length) * z) zs=P++(A.flatMap enc++D.flatMap enc)++(zs++S):=by
    rw [s1,← List.append_assoc _ _ S,← hU2,splice_mid _ _ _ _ (by rw [List.length_drop,List.length_append];omega)];simp
  have hlen:l.length=P.length+(A++x::D).length * z+S.length:=by
    conv=>lhs;rw [el]
    simp only [List.length_append,flat_len he]
  rw [s2]
  refine ⟨?_,?_⟩
  · rw [List.append_assoc,← hlP,List.drop_left,← List.flatMap_append,← flat_len he,List.take_left]
  · rw [hlen];simp only [List.length_append,List.length_cons,hfA,hfD,hz,Nat.add_mul,Nat.one_mul];omega
end
end Go.SL
namespace Go.SL
open Go
theorem split_el {α:Type} {xs:List α} {i:Nat} {x:α} (h:xs[i]?=some x):∃ A D,xs=A++x::D∧A.length=i:=by
  have hlt:=idx_lt h
  refine ⟨xs.take i,xs.drop (i+1),?_,by simp;omega⟩
  rw [List.getElem?_eq_getElem hlt] at h;cases h
  rw [List.getElem_cons_drop,List.take_append_drop]
theorem erase_mid {α:Type} (A D:List α) (x:α):(A++x::D).eraseIdx A.length=A++D:=by
  rw [List.eraseIdx_append_of_length_le (Nat.le_refl _)];simp
theorem rd_part {α:Type} {z o b n c:Nat} {enc:α→List Value} (he:EncOk z enc) {T:TypeId} {l:List Value} {xs:List α} {u:Value} (hA:At u b o n c) (hl:o+c * z≤l.length) (hn:xs.length=n) (hcs:(l.drop o).take (n * z)=xs.flatMap enc):RL (cl b T l) z enc u xs:=by
  unfold RL;rw [hn,← hcs];exact hA.rd hl
theorem cells_tail {α:Type} {z o:Nat} {enc:α→List Value} (he:EncOk z enc) {l:List Value} {A D:List α} {x:α} (hcs:(l.drop o).take ((A++x::D).length * z)=(A++x::D).flatMap enc):(l.drop (o+(A.length+1) * z)).take (D.length * z)=D.flatMap enc:=by
  have:=congrArg (List.drop ((A.length+1) * z)) hcs
  rw [List.drop_take,flat_drop he,List.drop_drop,← Nat.sub_mul] at this
  rw [show (A++x::D).length - (A.length+1)=D.length by simp;omega,show (A++x::D).drop (A.length+1)=D by rw [List.drop_append];simp [List.drop_eq_nil_of_le]] at this
  exact this
end Go.SL
namespace Go.SL.Fc
end Go.SL.Fc
namespace Go.SL
open Go Go.Proofs Fc
theorem index_at {α:Type} {p:α→Bool} {xs:List α} {i:Nat} {x:α} (h:(xs.take i).any p=false) (hx:xs[i]?=some x) (hp:p x=true):(if xs.any p then ((xs.findIdx p:Nat):Int) else -1)=i:=by
 have h1:xs.any p=true:=List.any_eq_true.2 ⟨x,List.mem_of_getElem? hx,hp⟩
 rw [if_pos h1]
 congr 1
 have hlt:=idx_lt hx
 rw [List.findIdx_eq hlt]
 refine ⟨by rw [List.getElem?_eq_getElem hlt] at hx;cases hx;exact hp,fun j hj=>?_⟩
 rw [List.any_eq_false] at h
 have:=h xs[j] (by rw [List.mem_take_iff_getElem];exact ⟨j,by omega,rfl⟩)
 simpa using this
end Go.SL
namespace Go.SL.Fc
end Go.SL.Fc
namespace Go.SL
open Go Go.Proofs Fc
end Go.SL
namespace Go.SL
open Go
theorem ins_cells {α:Type} {z o c:Nat} {enc:α→List Value} (he:EncOk z enc) {l:List Value} {A D:List α} {x:α} (hl:o+c * z≤l.length) (hc:(A++D).length+1≤c) (hcs:(l.drop o).take ((A++D).length * z)=(A++D).flatMap enc) :
    ((splice (splice l (o+(A.length+1) * z) (D.flatMap enc)) (o+A.length * z) (enc x)).drop o).take (((A++D).length+1) * z)=(A++x::D).flatMap enc ∧
    (splice (splice l (o+(A.length+1) * z) (D.flatMap enc)) (o+A.length * z) (enc x)).length=l.length∧(splice l (o+(A.length+1) * z) (D.flatMap enc)).length=l.length∧(l.drop (o+A.length * z)).take (D.length * z)=D.flatMap enc:=by
  have hm:((A++D).length+1) * z≤c * z:=Nat.mul_le_mul_right _ hc
  have hlP:(l.take o).length=o:=by simp;omega
  have el:l=l.take o++(A++D).flatMap enc++l.drop (o+(A++D).length * z):=by
    rw [← hcs,List.append_assoc]
    conv=>lhs;rw [← List.take_append_drop o l]
    congr 1
    rw [← List.drop_drop];exact (List.take_append_drop _ _).symm
  have hQ:(l.drop (o+(A++D).length * z)).length=l.length - (o+(A++D).length * z):=by simp
  generalize hP:l.take o=P at el hlP
  generalize l.drop (o+(A++D).length * z)=Q at el hQ
  have hfA:=flat_len he A
  have hfD:=flat_len he D
  have hfx:=he.len x
  rw [List.length_append] at hm hQ
  simp only [Nat.add_mul,Nat.one_mul] at hm hQ
  have hW:(D.flatMap enc++Q).length=D.length * z+Q.length:=by simp [hfD]
  have e1:l=(P++A.flatMap enc++(D.flatMap enc++Q).take z)++((D.flatMap enc++Q).drop z).take (D.flatMap enc).length++((D.flatMap enc++Q).drop z).drop (D.flatMap enc).length:=by
    rw [List.append_assoc _ (List.take _ (List.drop _ _)),List.take_append_drop,List.append_assoc _ (List.take z _),List.take_append_drop,el];simp
  have hU:(P++A.flatMap enc++(D.flatMap enc++Q).take z).length=o+(A.length+1) * z:=by
    simp only [List.length_append,List.length_take,hfA,hlP,hfD,Nat.add_mul,Nat.one_mul];omega
  have hV:(((D.flatMap enc++Q).drop z).take (D.flatMap enc).length).length=(D.flatMap enc).length:=by
    rw [List.length_take,List.length_drop,hW,hfD];omega
  have s1:splice l (o+(A.length+1) * z) (D.flatMap enc)=(P++A.flatMap enc++(D.flatMap enc++Q).take z)++D.flatMap enc++((D.flatMap enc++Q).drop z).drop (D.flatMap enc).length:=by
    conv=>lhs;rw [e1,← hU]
    rw [splice_mid _ _ _ _ hV.symm]
  have hU2:(P++A.flatMap enc).length=o+A.length * z:=by simp [hfA,hlP]
  have hV2:(enc x).length=((D.flatMap enc++Q).take z).length:=by rw [hfx,List.length_take,hW];omega
  have s2:splice (splice l (o+(A.length+1) * z) (D.flatMap enc)) (o+A.length * z) (enc x)=(P++A.flatMap enc)++enc x++(D.flatMap enc++((D.flatMap enc++Q).drop z).drop (D.flatMap enc).length):=by
    rw [s1,← hU2,List.append_assoc _ (D.flatMap enc),splice_mid _ _ _ _ hV2]
  have hlen:l.length=P.length+(A.length * z+D.length * z)+Q.length:=by
    conv=>lhs;rw [el]
    simp only [List.length_append,List.flatMap_append,hfA,hfD]
  have hX:(((D.flatMap enc++Q).drop z).drop (D.flatMap enc).length).length=Q.length - z:=by
    rw [List.length_drop,List.length_drop,hW,hfD];omega
  have hY:((D.flatMap enc++Q).take z).length=z:=by rw [List.length_take,hW];omega
  have hzQ:z≤Q.length:=by omega
  clear e1 hV hV2 hW
  generalize ((D.flatMap enc++Q).drop z).drop (D.flatMap enc).length=T at *
  generalize (D.flatMap enc++Q).take z=Y at *
  refine ⟨?_,?_,?_,?_⟩
  · rw [s2,show P++A.flatMap enc++enc x++(D.flatMap enc++T)=P++((A++x::D).flatMap enc++T) by simp]
    rw [← hlP,List.drop_left,show ((A++D).length+1) * z=((A++x::D).flatMap enc).length by rw [flat_len he];congr 1;simp;omega,List.take_left]
  · rw [s2,hlen];simp only [List.length_append,hX,hfA,hfD,hfx];omega
  · rw [s1,hlen];simp only [List.length_append,hX,hY,hfA,hfD];omega
  · conv=>lhs;rw [el]
    rw [List.flatMap_append,← List.append_assoc,List.append_assoc _ (D.flatMap enc),← hU2,List.drop_left,← hfD,List.take_left]
theorem over_ins {α:Type} (A D:List α) (x z0:α):over (over (A++List.replicate (D.length+1) z0) A.length [x]) (A.length+1) D=A++x::D:=by
  rw [over_eq A _ [x] A.length rfl (by simp)]
  rw [over_eq (A++[x]) _ D (A.length+1) (by simp) (by simp)]
  simp
theorem flat_setF {α:Type} {z:Nat} {enc:α→List Value} (he:EncOk z enc) {xs:List α} {j f:Nat} {a a':α} {b:Value} (hx:xs[j]?=some a) (hf:f < z) (hb:enc a'=(enc a).set f b):splice (xs.flatMap enc) (j * z+f) [b]=(xs.set j a').flatMap enc:=by
  have hj:=idx_lt hx
  have hle:(j+1) * z≤xs.length * z:=Nat.mul_le_mul_right z hj
  rw [Nat.add_mul,Nat.one_mul] at hle
  rw [← flat_set he xs j a' hj]
  apply List.ext_getElem?
  intro i
  rw [splice_get _ _ _ (by rw [flat_len he];simp;omega),splice_get _ _ _ (by rw [flat_len he,he.len];omega),he.len,hb]
  simp only [List.length_cons,List.length_nil]
  by_cases h1:i < j * z
  · simp [h1,show i < j * z+f by omega]
  · simp only [h1,if_false]
    by_cases h2:i < j * z+z
    · simp only [h2,if_true]
      rw [List.getElem?_set]
      have hget:(xs.flatMap enc)[i]?=(enc a)[i - j * z]?:=by
        have:=flat_at he hx (i - j * z) (by omega)
        rwa [show j * z+(i - j * z)=i by omega] at this
      by_cases h3:f=i - j * z
      · have:i=j * z+f:=by omega
        subst this
        simp [he.len,hf]
      · simp only [h3,if_false]
        by_cases h4:i < j * z+f
        · simp [h4,hget]
        · simp [h4,show ¬ i < j * z+f+1 by omega,hget]
    · simp only [h2,if_false]
      simp [show ¬ i < j * z+f by omega,show ¬ i < j * z+f+1 by omega]
theorem tw_stop {α:Type} {p:α→Bool}:∀ {D:List α} {k:Nat} {x:α},(∀ r ∈ D.take k,p r=true)→D[k]?=some x→p x=false→D.takeWhile p=D.take k
  | [],_,_,_,hx,_=>by simp at hx
  | a::D,0,x,_,hx,hp=>by simp at hx;subst hx;simp [List.takeWhile_cons,hp]
  | a::D,k+1,x,h,hx,hp=>by
    simp only [List.take_succ_cons,List.mem_cons] at h
    simp only [List.take_succ_cons,List.takeWhile_cons,h a (.inl rfl),if_true]
    rw [tw_stop (fun r hr=>h r (.inr hr)) (by simpa using hx) hp]
theorem tw_all {α:Type} {p:α→Bool} {D:List α} (h:∀ r ∈ D,p r=true):D.takeWhile p=D:=by
  induction D with
  | nil=>rfl
  | cons a D ih=>simp [List.takeWhile_cons,h a (by simp),ih (fun r hr=>h r (by simp [hr]))]
theorem tw_more {α:Type} {p:α→Bool}:∀ {D:List α} {k:Nat} {x:α},(∀ r ∈ D.take k,p r=true)→D[k]?=some x→p x=true→D.take k++[x] <+: D.takeWhile p
  | [],_,_,_,hx,_=>by simp at hx
  | a::D,0,x,_,hx,hp=>by simp at hx;subst hx;simp [List.takeWhile_cons,hp]
  | a::D,k+1,x,h,hx,hp=>by
    simp only [List.take_succ_cons,List.mem_cons] at h
    simp only [List.take_succ_cons,List.takeWhile_cons,h a (.inl rfl),if_true,List.cons_append]
    rw [List.cons_prefix_cons]
    exact ⟨rfl,tw_more (fun r hr=>h r (.inr hr)) (by simpa using hx) hp⟩
end Go.SL
