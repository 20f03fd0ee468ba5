import Derived.Test.YtmeoolijekillaaGreatDoorQL15
set_option linter.unusedSimpArgs false
set_option linter.unusedVariables false
namespace Go.SL.Fc
open Go Go.Proofs Go.SL
theorem a283:aggOf Tryz.prog 283=some none:=by kernel_rfl
theorem k129:callable Tryz.prog 129=true:=by kernel_rfl
theorem k179:callable Tryz.prog 179=true:=by kernel_rfl
theorem k181:callable Tryz.prog 181=true:=by kernel_rfl
theorem k182:callable Tryz.prog 182=true:=by kernel_rfl
theorem k237:callable Tryz.prog 237=true:=by kernel_rfl
theorem k238:callable Tryz.prog 238=true:=by kernel_rfl
theorem k239:callable Tryz.prog 239=true:=by kernel_rfl
theorem k240:callable Tryz.prog 240=true:=by kernel_rfl
theorem k241:callable Tryz.prog 241=true:=by kernel_rfl
theorem k242:callable Tryz.prog 242=true:=by kernel_rfl
theorem k244:callable Tryz.prog 244=true:=by kernel_rfl
theorem k245:callable Tryz.prog 245=true:=by kernel_rfl
theorem k80:callable Tryz.prog 80=true:=by kernel_rfl
theorem s283:szOf Tryz.prog 283=some 1:=by kernel_rfl
theorem z283:zeroOf Tryz.prog 283=some [.int .u64 0]:=by kernel_rfl
end Go.SL.Fc
namespace Go.SL
open Go Go.Proofs Fc
open Go.Sort
theorem L64_spec {g:World} (x:Nat) (hx:x < 18446744073709551616):Spec Tryz.prog g 129 [.int .u64 x] [] fun K R=>K (.int .i64 (bitsLen x:Nat)) R:=by
 refine Spec.intro Tryz.func129 rfl Tryz.ntmps129 rfl fun R K hK=>?_
 have hb:bitsLen x=0+bitsLen x:=by omega
 have hl:=hx
 have hn:=hx
 refine WP.seq<|WP.reg<|WL.e e_assign<|WL.next ?_
 refine WP.cutR (fun (z:Nat × Nat)=>[(0,.int .u64 z.1),(2,.int .i64 z.2)]) (fun (z:Nat × Nat)=>R) [] (fun (z:Nat × Nat)=>bitsLen x=z.2+bitsLen z.1∧z.1 < 4294967296∧z.2≤32) ?_ ?_
 ·skip
  refine WP.seq<|WP.reg<|WL.e e_move<|WL.e e_geq<|WL.next ?_
  refine WP.cond rfl (fun h1=>?_) (fun h1=>?_)
  ·replace h1:4294967296≤x:=by rw [decide_eq_true_eq] at h1;omega
   refine WP.seq<|WP.reg<|WL.e e_move<|WL.e (e_shr (c:=((x / 4294967296:Nat):Int)) rfl rfl (by decide) (by decide) (by simp))<|WL.e e_assign<|WL.next<|WP.reg<|WL.e e_assign<|WL.nil ?_
   exact PO.meetK (x / 4294967296,32) ⟨by simp only;rw [hb,bitsLen_shr 32 x h1];rw [show (2:Nat) ^ 32=4294967296 from rfl];omega,by simp only;omega,by simp only;omega⟩
  ·replace h1:¬ (4294967296≤x):=by rw [decide_eq_false_iff_not] at h1;omega
   refine WP.skip ?_
   exact PO.meetK (x,0) ⟨hb,by simp only;omega,by simp only;omega⟩
 ·clear hb hl hn
  rintro ⟨x1,n1⟩ ⟨hb,hl,hn⟩
  simp only at hb hl hn
  dsimp only
  refine WP.cutR (fun (z:Nat × Nat)=>[(0,.int .u64 z.1),(2,.int .i64 z.2)]) (fun (z:Nat × Nat)=>R) [] (fun (z:Nat × Nat)=>bitsLen x=z.2+bitsLen z.1∧z.1 < 65536∧z.2≤48) ?_ ?_
  ·skip
   refine WP.seq<|WP.reg<|WL.e e_move<|WL.e e_geq<|WL.next ?_
   refine WP.cond rfl (fun h1=>?_) (fun h1=>?_)
   ·replace h1:65536≤x1:=by rw [decide_eq_true_eq] at h1;omega
    refine WP.seq<|WP.reg<|WL.e e_move<|WL.e (e_shr (c:=((x1 / 65536:Nat):Int)) rfl rfl (by decide) (by decide) (by simp))<|WL.e e_assign<|WL.next<|WP.reg<|WL.e e_move<|WL.e (e_addN (b:=16))<|WL.e e_assign<|WL.nil ?_
    exact PO.meetK (x1 / 65536,n1+16) ⟨by simp only;rw [hb,bitsLen_shr 16 x1 h1];rw [show (2:Nat) ^ 16=65536 from rfl];omega,by simp only;omega,by simp only;omega⟩
   ·replace h1:¬ (65536≤x1):=by rw [decide_eq_false_iff_not] at h1;omega
    refine WP.skip ?_
    exact PO.meetK (x1,n1) ⟨hb,by simp only;omega,by simp only;omega⟩
  ·clear hb hl hn
   rintro ⟨x2,n2⟩ ⟨hb,hl,hn⟩
   simp only at hb hl hn
   dsimp only
   refine WP.cutR (fun (z:Nat × Nat)=>[(0,.int .u64 z.1),(2,.int .i64 z.2)]) (fun (z:Nat × Nat)=>R) [] (fun (z:Nat × Nat)=>bitsLen x=z.2+bitsLen z.1∧z.1 < 256∧z.2≤56) ?_ ?_
   ·skip
    refine WP.seq<|WP.reg<|WL.e e_move<|WL.e e_geq<|WL.next ?_
    refine WP.cond rfl (fun h1=>?_) (fun h1=>?_)
    ·replace h1:256≤x2:=by rw [decide_eq_true_eq] at h1;omega
     refine WP.seq<|WP.reg<|WL.e e_move<|WL.e (e_shr (c:=((x2 / 256:Nat):Int)) rfl rfl (by decide) (by decide) (by simp))<|WL.e e_assign<|WL.next<|WP.reg<|WL.e e_move<|WL.e (e_addN (b:=8))<|WL.e e_assign<|WL.nil ?_
     exact PO.meetK (x2 / 256,n2+8) ⟨by simp only;rw [hb,bitsLen_shr 8 x2 h1];rw [show (2:Nat) ^ 8=256 from rfl];omega,by simp only;omega,by simp only;omega⟩
    ·replace h1:¬ (256≤x2):=by rw [decide_eq_false_iff_not] at h1;omega
     refine WP.skip ?_
     exact PO.meetK (x2,n2) ⟨hb,by simp only;omega,by simp only;omega⟩
   ·clear hb hl hn
    rintro ⟨x3,n3⟩ ⟨hb,hl,hn⟩
    simp only at hb hl hn
    dsimp only
    refine WP.seq<|WP.reg<|WL.e e_move<|WL.e e_move<|WL.e (e_conv (c:=((x3:Nat):Int)) (by rw [Tryz.underlying193];rfl) Tryz.underlying5 rfl (by rw [wu8,UInt8.toNat_ofNat'];congr 1;omega))<|WL.e (e_idxS (n:=x3) (b:=UInt8.ofNat (bitsLen x3)) Tryz.underlying9 (hb:=tab_all _ (by kernel_rfl) hl))<|WL.e (e_conv (c:=((bitsLen x3:Nat):Int)) (by rw [Tryz.underlying5];rfl) Tryz.underlying3 rfl (by have h9:bitsLen x3≤8:=bitsLen_lt (k:=8) hl;rw [UInt8.toNat_ofNat',Nat.mod_eq_of_lt (by omega)];exact w_i64 (by omega) (by omega)))<|WL.e (e_addN (h:=by have h9:bitsLen x3≤8:=bitsLen_lt (k:=8) hl;omega))<|WL.e e_assign<|WL.next<|WP.ret ?_
    rw [show bitsLen x=n3+bitsLen x3 from hb] at hK
    exact PO.fin Tryz.results129 (rv_tmp rv_nil) hK
theorem L_spec {g:World} (x:Nat) (hx:x < 18446744073709551616):Spec Tryz.prog g 80 [.int .u64 x] [] fun K R=>K (.int .i64 (bitsLen x:Nat)) R:=by
 refine Spec.intro Tryz.func80 rfl Tryz.ntmps80 rfl fun R K hK=>?_
 refine WP.seq<|WP.reg<|WL.e e_assign<|WL.next<|WP.seq<|WP.cond_f rfl<|WP.skip<|PO.next<|WP.seq<|WP.reg<|WL.e e_move ?_
 refine WL.h (h_call (L64_spec x hx) k129 ?_)
 refine WL.e e_assign<|WL.next<|WP.ret ?_
 exact PO.fin Tryz.results80 (rv_tmp rv_nil) hK
theorem NP2_spec {g:World} (x:Nat) (hx:x≤68719476736):Spec Tryz.prog g 181 [.int .i64 x] [] fun K R=>K (.int .u64 ((2 ^ bitsLen x:Nat):Int)) R:=by
 refine Spec.intro Tryz.func181 rfl Tryz.ntmps181 rfl fun R K hK=>?_
 refine WP.seq<|WP.reg<|WL.e e_assign<|WL.next<|WP.seq<|WP.reg<|WL.e e_move<|WL.e (e_conv (c:=((x:Nat):Int)) (by rw [Tryz.underlying3];rfl) Tryz.underlying148 rfl (by rw [wu64,UInt64.toNat_ofNat'];congr 1;omega)) ?_
 refine WL.h (h_call (L_spec x (by omega)) k80 ?_)
 refine WL.e (e_shl (c:=((2 ^ bitsLen x:Nat):Int)) rfl rfl (by omega) (by have h9:bitsLen x≤37:=bitsLen_lt (k:=37) (by omega);simp only [IntKind.bits];omega) (by have h9:bitsLen x≤37:=bitsLen_lt (k:=37) (by omega);have h10:2 ^ bitsLen x≤2 ^ 37:=Nat.pow_le_pow_right (by decide) h9;rw [Int.one_mul,Int.toNat_natCast,show ((2:Int) ^ bitsLen x)=((2 ^ bitsLen x:Nat):Int) by simp,wu64,UInt64.toNat_ofNat',Nat.mod_eq_of_lt (by omega)]))<|WL.e e_assign<|WL.next<|WP.ret ?_
 exact PO.fin Tryz.results181 (rv_tmp rv_nil) hK
theorem Xor_spec {g:World} {q:Nat} (r:UInt64):Spec Tryz.prog g 182 [.pointer (some ⟨q,0,none⟩)] [cl q 283 [.int .u64 (r).toNat]] fun K R=>K (.int .u64 (xorNext r).toNat) (cl q 283 [.int .u64 (xorNext r).toNat]::R):=by
 refine Spec.intro Tryz.func182 rfl Tryz.ntmps182 rfl fun R K hK=>?_
 refine WP.seq<|WP.reg<|WL.e e_assign<|WL.next<|WP.seq<|WP.draws mixedOk 10<|RW.e 0 rfl e_move<|RW.e 1 rfl e_nil<|RW.e 2 rfl (e_load a283)<|RW.e 3 rfl e_move<|RW.e 4 rfl e_nil<|RW.e 5 rfl (e_load a283)<|RW.e 6 rfl (e_shl64 (m:=13) (by decide))<|RW.e 7 rfl e_xor64<|RW.e 8 rfl e_nil ?_
 refine RW.any (is:=[9]) rfl ⟨?_,trivial⟩
 refine RWat.h' rfl rfl rfl ?_
 refine (h_store s283 ?_)
 refine ⟨trivial,?_⟩
 refine RW.done<|PO.next<|WP.seq<|WP.draws mixedOk 10<|RW.e 0 rfl e_move<|RW.e 1 rfl e_nil<|RW.e 2 rfl (e_load a283)<|RW.e 3 rfl e_move<|RW.e 4 rfl e_nil<|RW.e 5 rfl (e_load a283)<|RW.e 6 rfl (e_shr64 (m:=7) (by decide))<|RW.e 7 rfl e_xor64<|RW.e 8 rfl e_nil ?_
 refine RW.any (is:=[9]) rfl ⟨?_,trivial⟩
 refine RWat.h' rfl rfl rfl ?_
 refine (h_store s283 ?_)
 refine ⟨trivial,?_⟩
 refine RW.done<|PO.next<|WP.seq<|WP.draws mixedOk 10<|RW.e 0 rfl e_move<|RW.e 1 rfl e_nil<|RW.e 2 rfl (e_load a283)<|RW.e 3 rfl e_move<|RW.e 4 rfl e_nil<|RW.e 5 rfl (e_load a283)<|RW.e 6 rfl (e_shl64 (m:=17) (by decide))<|RW.e 7 rfl e_xor64<|RW.e 8 rfl e_nil ?_
 refine RW.any (is:=[9]) rfl ⟨?_,trivial⟩
 refine RWat.h' rfl rfl rfl ?_
 refine (h_store s283 ?_)
 refine ⟨trivial,?_⟩
 refine RW.done<|PO.next<|WP.seq<|WP.reg<|WL.e e_move<|WL.e e_nil<|WL.e (e_load a283)<|WL.e e_assign<|WL.next<|WP.ret ?_
 exact PO.fin Tryz.results182 (rv_tmp rv_nil) hK
set_option maxHeartbeats 2000000 in
theorem Brk32_spec {g:World} {u:Value} (d:Array UInt32) (a b:Nat) (hab:a < b) (hb:b≤d.size) (hn:d.size≤68719476736):Spec Tryz.prog g 239 [u,.int .i64 a,.int .i64 b] [Sl 35 1 u32C u (d).toList] fun K R=>K (.tuple #[]) (Sl 35 1 u32C u (breakPatterns d a b).toList::R):=by
 refine Spec.intro Tryz.func239 rfl Tryz.ntmps239 rfl fun R K hK=>?_
 refine WP.seq<|WP.reg<|WL.e e_move<|WL.e e_move<|WL.e (e_subN)<|WL.e e_assign<|WL.next<|WP.seq<|WP.reg<|WL.e e_move<|WL.e e_geq<|WL.next ?_
 refine WP.cond rfl (fun h1=>?_) (fun h1=>?_)
 ·replace h1:b - a≥8:=by rw [decide_eq_true_eq] at h1;omega
  have hp:=bitsLen_pow (x:=b - a) (by omega)
  refine WP.seq<|WP.reg<|WL.e e_move<|WL.e (e_conv (c:=((UInt64.ofNat (b - a)).toNat:Int)) (by rw [Tryz.underlying3];rfl) Tryz.underlying283 rfl (wu64 _)) ?_
  refine WL.h (h_alloc z283 fun b1=>?_)
  refine WL.h' (h_store s283 ?_)
  refine WL.next<|WP.seq<|WP.reg<|WL.e e_move ?_
  refine WL.h (h_call (NP2_spec (b - a) (by omega)) k181 ?_)
  refine WL.e e_assign<|WL.next<|WP.seq<|WP.reg<|WL.e e_move<|WL.e e_move<|WL.e (e_quoN (b:=4))<|WL.e (e_mulN (b:=2))<|WL.e (e_addN)<|WL.e (e_subN (b:=1))<|WL.e e_assign<|WL.next<|WP.block<|WP.loopK (fun (x:Nat × UInt64 × Array UInt32)=>[(9,.int .i64 (((a+(b - a) / 4 * 2 - 1)+x.1:Nat):Int))]) (fun (x:Nat × UInt64 × Array UInt32)=>Sl 35 1 u32C u (x.2.2).toList::cl b1 283 [.int .u64 x.2.1.toNat]::R) [(0,_),(1,_),(6,_),(7,_),(8,_)] (fun (x:Nat × UInt64 × Array UInt32)=>x.2.2.size=d.size∧x.1≤3∧x.2=brk a (b - a) (2 ^ bitsLen (b - a)) (UInt64.ofNat (b - a),d) (a+(b - a) / 4 * 2 - 1) x.1) (fun (x:Nat × UInt64 × Array UInt32)=>3 - x.1) (0,UInt64.ofNat (b - a),d) (⟨rfl,Nat.zero_le _,rfl⟩) ?_
  rintro ⟨k,s1,d1⟩ ⟨hs1,hk,he⟩
  simp only at hs1 hk he
  dsimp only
  refine WP.seq<|WP.seq<|WP.reg<|WL.e e_move<|WL.e e_move<|WL.e e_move<|WL.e (e_quoN (b:=4))<|WL.e (e_mulN (b:=2))<|WL.e (e_addN)<|WL.e (e_addN (b:=1))<|WL.e e_leq<|WL.next ?_
  refine WP.cond rfl (fun h2=>?_) (fun h2=>?_)
  ·replace h2:k < 3:=by rw [decide_eq_true_eq] at h2;omega
   refine WP.skip<|PO.next<|WP.seq<|WP.block<|WP.seq<|WP.reg ?_
   refine WL.h (h_call (Xor_spec s1) k182 ?_)
   obtain ⟨ot,hot⟩:∃ o,(xorNext s1).toNat &&& ((2 ^ bitsLen (b - a)) - 1)=o:=⟨_,rfl⟩
   have hol:ot≤(2 ^ bitsLen (b - a)) - 1:=by rw [← hot];exact Nat.and_le_right
   refine WL.e e_move<|WL.e (e_sub (c:=(((2 ^ bitsLen (b - a)) - 1:Nat):Int)) rfl rfl (by have h0:0 < (2 ^ bitsLen (b - a)):=Nat.two_pow_pos _;rw [show (((2 ^ bitsLen (b - a)):Nat):Int) - 1=(((2 ^ bitsLen (b - a)) - 1:Nat):Int) by omega,wu64,UInt64.toNat_ofNat',Nat.mod_eq_of_lt (by omega)]))<|WL.e (e_and64 (m:=(2 ^ bitsLen (b - a)) - 1) (by omega))<|WL.e (e_conv (c:=((ot:Nat):Int)) (by rw [Tryz.underlying148];rfl) Tryz.underlying3 rfl (by rw [hot];exact w_i64 (by omega) (by omega)))<|WL.e e_assign<|WL.next<|WP.seq<|WP.seq<|WP.reg<|WL.e e_move<|WL.e e_move<|WL.e e_geq<|WL.next ?_
   refine WP.cond rfl (fun h3=>?_) (fun h3=>?_)
   ·replace h3:ot≥b - a:=by rw [decide_eq_true_eq] at h3;omega
    refine WP.reg<|WL.e e_move<|WL.e e_move<|WL.e (e_subN)<|WL.e e_assign<|WL.next<|WP.draws mixedOk 20<|RW.e 0 rfl e_move<|RW.e 1 rfl e_move<|RW.e 2 rfl e_move<|RW.e 3 rfl e_move<|RW.e 4 rfl e_move<|RW.e 5 rfl (e_addN)<|RW.e 6 rfl e_move<|RW.e 7 rfl e_move<|RW.e 8 rfl e_move<|RW.e 9 rfl (e_addN)<|RW.e 10 rfl (ea_ia sl33)<|RW.e 11 rfl (ea_load a35)<|RW.e 12 rfl e_move<|RW.e 13 rfl e_move<|RW.e 14 rfl (ea_ia sl33)<|RW.e 15 rfl (ea_load a35)<|RW.e 16 rfl (ea_ia sl33) ?_
    refine RW.any (is:=[17]) rfl ⟨?_,trivial⟩
    refine RWat.h' rfl rfl rfl ?_
    refine (ha_store s35 ?_)
    refine ⟨⟨⟨_,rfl,.inl ⟨rfl,(e_addN)⟩⟩,⟨_,rfl,.inl ⟨rfl,e_move⟩⟩,⟨_,rfl,.inl ⟨rfl,e_move⟩⟩,⟨_,rfl,.inl ⟨rfl,e_move⟩⟩,trivial⟩,?_⟩
    refine RW.e 18 rfl (ea_ia sl33) ?_
    refine RW.any (is:=[19]) rfl ⟨?_,trivial⟩
    refine RWat.h' rfl rfl rfl ?_
    refine (ha_store s35 ?_)
    refine ⟨trivial,?_⟩
    refine RW.done<|PO.blockN<|PO.next<|WP.reg<|WL.e e_move<|WL.e (e_addN (a:=(a+(b - a) / 4 * 2 - 1)+k) (b:=1))<|WL.e e_assign<|WL.nil ?_
    exact PO.againK (k+1,xorNext s1,swp d1 ((a+(b - a) / 4 * 2 - 1)+k) (a+(ot - (b - a)))) ⟨by simp only [swp_size];omega,by simp only;omega,by simp only;show _=breakStep _ _ _ (brk a (b - a) (2 ^ bitsLen (b - a)) (UInt64.ofNat (b - a),d) (a+(b - a) / 4 * 2 - 1) k) _;rw [← he];simp only [breakStep];rw [show (xorNext s1).toNat &&& ((2 ^ bitsLen (b - a)) - 1)=ot from hot,if_pos h3]⟩ (by simp only;omega)
   ·replace h3:¬ (ot≥b - a):=by rw [decide_eq_false_iff_not] at h3;omega
    refine WP.skip<|PO.next<|WP.draws mixedOk 20<|RW.e 0 rfl e_move<|RW.e 1 rfl e_move<|RW.e 2 rfl e_move<|RW.e 3 rfl e_move<|RW.e 4 rfl e_move<|RW.e 5 rfl (e_addN)<|RW.e 6 rfl e_move<|RW.e 7 rfl e_move<|RW.e 8 rfl e_move<|RW.e 9 rfl (e_addN)<|RW.e 10 rfl (ea_ia sl33)<|RW.e 11 rfl (ea_load a35)<|RW.e 12 rfl e_move<|RW.e 13 rfl e_move<|RW.e 14 rfl (ea_ia sl33)<|RW.e 15 rfl (ea_load a35)<|RW.e 16 rfl (ea_ia sl33) ?_
    refine RW.any (is:=[17]) rfl ⟨?_,trivial⟩
    refine RWat.h' rfl rfl rfl ?_
    refine (ha_store s35 ?_)
    refine ⟨⟨⟨_,rfl,.inl ⟨rfl,(e_addN)⟩⟩,⟨_,rfl,.inl ⟨rfl,e_move⟩⟩,⟨_,rfl,.inl ⟨rfl,e_move⟩⟩,⟨_,rfl,.inl ⟨rfl,e_move⟩⟩,trivial⟩,?_⟩
    refine RW.e 18 rfl (ea_ia sl33) ?_
    refine RW.any (is:=[19]) rfl ⟨?_,trivial⟩
    refine RWat.h' rfl rfl rfl ?_
    refine (ha_store s35 ?_)
    refine ⟨trivial,?_⟩
    refine RW.done<|PO.blockN<|PO.next<|WP.reg<|WL.e e_move<|WL.e (e_addN (b:=1))<|WL.e e_assign<|WL.nil ?_
    exact PO.againK (k+1,xorNext s1,swp d1 ((a+(b - a) / 4 * 2 - 1)+k) (a+(ot))) ⟨by simp only [swp_size];omega,by simp only;omega,by simp only;show _=breakStep _ _ _ (brk a (b - a) (2 ^ bitsLen (b - a)) (UInt64.ofNat (b - a),d) (a+(b - a) / 4 * 2 - 1) k) _;rw [← he];simp only [breakStep];rw [show (xorNext s1).toNat &&& ((2 ^ bitsLen (b - a)) - 1)=ot from hot,if_neg h3]⟩ (by simp only;omega)
  ·obtain rfl:k=3:=by rw [decide_eq_false_iff_not] at h2;omega
   rw [brk_eq h1,← he] at hK
   refine WP.exit<|PO.past nofun<|PO.round nofun<|PO.blockX ?_
   exact PO.fin Tryz.results239 rv_nil hK
 ·replace h1:¬ b - a≥8:=by rw [decide_eq_false_iff_not] at h1;omega
  rw [brk_no h1] at hK
  refine WP.skip ?_
  exact PO.fin Tryz.results239 rv_nil hK
set_option maxHeartbeats 4000000 in
theorem Pdq32r_spec {g:World} {u:Value} (m:Nat):∀ (d:Array UInt32) (a b limit:Nat),b - a≤m→a≤b→b≤d.size→d.size≤68719476736→limit≤1000→Below lt32 a b d→Spec Tryz.prog g 179 [u,.int .i64 a,.int .i64 b,.int .i64 limit] [Sl 35 1 u32C u (d).toList] fun K R=>∀ d',PermIn a b d d'→SortedIn lt32 a b d'→K (.tuple #[]) (Sl 35 1 u32C u (d').toList::R):=by
 refine Nat.strongRecOn m (fun m ih=>?_)
 intro d a b limit hm hab hb hn hlim hbel
 refine Spec.intro Tryz.func179 rfl Tryz.ntmps179 rfl fun R K hK=>?_
 refine WP.seq<|WP.reg<|WL.e e_assign<|WL.next<|WP.seq<|WP.reg<|WL.e e_assign<|WL.next<|WP.block<|WP.loopK (fun (x:Nat × Nat × Nat × Bool × Bool × Array UInt32)=>[(1,.int .i64 x.1),(2,.int .i64 x.2.1),(3,.int .i64 x.2.2.1),(8,.bool x.2.2.2.1),(9,.bool x.2.2.2.2.1)]) (fun (x:Nat × Nat × Nat × Bool × Bool × Array UInt32)=>Sl 35 1 u32C u (x.2.2.2.2.2).toList::R) [(0,_)] (fun (x:Nat × Nat × Nat × Bool × Bool × Array UInt32)=>x.1≤x.2.1∧x.2.1≤d.size∧x.2.2.2.2.2.size=d.size∧x.2.2.1≤limit∧x.2.1 - x.1≤m∧Below lt32 x.1 x.2.1 x.2.2.2.2.2∧∀ R',PermIn x.1 x.2.1 x.2.2.2.2.2 R'→SortedIn lt32 x.1 x.2.1 R'→PermIn a b d R'∧SortedIn lt32 a b R') (fun (x:Nat × Nat × Nat × Bool × Bool × Array UInt32)=>x.2.1 - x.1) (a,b,limit,true,true,d) (⟨hab,hb,rfl,Nat.le_refl _,hm,hbel,fun R h1 h2=>⟨h1,h2⟩⟩) ?_
 rintro ⟨a1,b1,l1,wb,wp,d1⟩ ⟨hab1,hb1,hs1,hl1,hm1,hbe1,hC⟩
 simp only at hab1 hb1 hs1 hl1 hm1 hbe1 hC
 dsimp only
 refine WP.block<|WP.seq<|WP.reg<|WL.e e_move<|WL.e e_move<|WL.e (e_subN)<|WL.e e_assign<|WL.next<|WP.seq<|WP.seq<|WP.reg<|WL.e e_move<|WL.e e_leq<|WL.next ?_
 refine WP.cond rfl (fun h1=>?_) (fun h1=>?_)
 ·replace h1:b1 - a1≤12:=by rw [decide_eq_true_eq] at h1;omega
  refine WP.seq<|WP.reg<|WL.e e_move<|WL.e e_move<|WL.e e_move ?_
  refine WL.h (h_call (Ins32_spec d1 a1 b1 (by omega) (by omega) (by omega)) k237 ?_)
  obtain ⟨k1,k2⟩:=insertionSort_holds swo32 d1 a1 b1 hab1 (by omega)
  refine WL.next<|WP.ret<|PO.past nofun<|PO.blockR<|PO.round nofun<|PO.blockR ?_
  exact PO.fin Tryz.results179 rv_nil (hK _ (hC _ k1 k2).1 (hC _ k1 k2).2)
 ·replace h1:¬ (b1 - a1≤12):=by rw [decide_eq_false_iff_not] at h1;omega
  refine WP.skip<|PO.next<|WP.seq<|WP.seq<|WP.reg<|WL.e e_move<|WL.e e_eql<|WL.next ?_
  refine WP.cond rfl (fun h2=>?_) (fun h2=>?_)
  ·skip
   refine WP.seq<|WP.reg<|WL.e e_move<|WL.e e_move<|WL.e e_move ?_
   refine WL.h (h_call (Heap32_spec d1 a1 b1 (by omega) (by omega) (by omega)) k238 ?_)
   obtain ⟨k1,k2⟩:=heapSort_holds swo32 d1 a1 b1 hab1 (by omega)
   refine WL.next<|WP.ret<|PO.past nofun<|PO.blockR<|PO.round nofun<|PO.blockR ?_
   exact PO.fin Tryz.results179 rv_nil (hK _ (hC _ k1 k2).1 (hC _ k1 k2).2)
  ·skip
   refine WP.skip<|PO.next ?_
   refine WP.cutR (fun (z:Nat × Array UInt32)=>[(3,.int .i64 z.1)]) (fun (z:Nat × Array UInt32)=>Sl 35 1 u32C u (z.2).toList::R) [(0,_),(1,_),(2,_),(8,_),(9,_),(10,_),(19,_),(20,_),(21,_),(22,_),(23,_),(28,_),(29,_)] (fun (z:Nat × Array UInt32)=>z.1≤limit∧PermIn a1 b1 d1 z.2) ?_ ?_
   ·skip
    refine WP.seq<|WP.reg<|WL.e e_move<|WL.e e_not<|WL.next ?_
    refine WP.cond rfl (fun h3=>?_) (fun h3=>?_)
    ·replace h2:¬ l1=0:=fun h=>by rw [h] at h2;exact absurd h2 (by decide)
     refine WP.seq<|WP.reg<|WL.e e_move<|WL.e e_move<|WL.e e_move ?_
     refine WL.h (h_call (Brk32_spec d1 a1 b1 (by omega) (by omega) (by omega)) k239 ?_)
     refine WL.next<|WP.reg<|WL.e e_move<|WL.e (e_subN (b:=1))<|WL.e e_assign<|WL.nil ?_
     exact PO.meetK (l1 - 1,breakPatterns d1 a1 b1) ⟨by simp only;omega,breakPatterns_holds d1 a1 b1 hab1 (by omega)⟩
    ·skip
     refine WP.skip ?_
     exact PO.meetK (l1,d1) ⟨hl1,permIn_refl _ _ _⟩
   ·rintro ⟨l2,d2⟩ ⟨hl2,p12⟩
    simp only at hl2 p12
    dsimp only
    have hs2:d2.size=d1.size:=p12.1
    refine WP.seq<|WP.reg<|WL.e e_move<|WL.e e_move<|WL.e e_move ?_
    refine WL.h (h_call (Piv32_spec d2 a1 b1 (by omega) (by omega) (by omega)) k240 ?_)
    obtain ⟨hv1,hv2⟩:=choosePivot_holds lt32 d2 a1 b1 (by omega)
    generalize (choosePivot lt32 d2 a1 b1).1=p at hv1 hv2 ⊢
    generalize hv (choosePivot lt32 d2 a1 b1).2=hn1
    refine WL.e e_move<|WL.e e_extract<|WL.e e_extract<|WL.e e_assign<|WL.e e_assign<|WL.next ?_
    refine WP.cutR (fun (z:Nat × Nat × Array UInt32)=>[(11,.int .i64 z.1),(12,.int .i64 z.2.1)]) (fun (z:Nat × Nat × Array UInt32)=>Sl 35 1 u32C u (z.2.2).toList::R) [(0,_),(1,_),(2,_),(3,_),(8,_),(9,_),(10,_),(19,_),(20,_),(21,_),(22,_),(23,_),(28,_),(29,_),(42,_),(43,_),(44,_),(45,_),(46,_),(47,_),(48,_)] (fun (z:Nat × Nat × Array UInt32)=>a1≤z.1∧z.1 < b1∧PermIn a1 b1 d2 z.2.2) ?_ ?_
    ·skip
     refine WP.seq<|WP.reg<|WL.e e_move<|WL.e e_eql<|WL.next ?_
     refine WP.cond rfl (fun h4=>?_) (fun h4=>?_)
     ·skip
      refine WP.seq<|WP.reg<|WL.e e_move<|WL.e e_move<|WL.e e_move ?_
      refine WL.h (h_call (Rev32_spec d2 a1 b1 (by omega) (by omega) (by omega)) k241 ?_)
      refine WL.next<|WP.seq<|WP.reg<|WL.e e_move<|WL.e (e_subN (b:=1))<|WL.e e_move<|WL.e e_move<|WL.e (e_subN)<|WL.e (e_subN)<|WL.e e_assign<|WL.next<|WP.reg<|WL.e e_assign<|WL.nil ?_
      exact PO.meetK (b1 - 1 - (p - a1),1,reverseRange d2 a1 b1) ⟨by simp only;omega,by simp only;omega,reverseRange_holds d2 a1 b1 hab1 (by omega)⟩
     ·skip
      refine WP.skip ?_
      exact PO.meetK (p,hn1,d2) ⟨hv1,hv2,permIn_refl _ _ _⟩
    ·rintro ⟨p3,hn3,d3⟩ ⟨hp1,hp2,p23⟩
     simp only at hp1 hp2 p23
     dsimp only
     have hs3:d3.size=d2.size:=p23.1
     have B3:Below lt32 a1 b1 d3:=(hbe1.perm (by omega) p12).perm (by omega) p23
     refine WP.cutR (fun (z:Array UInt32)=>[]) (fun (z:Array UInt32)=>Sl 35 1 u32C u (z).toList::R) [(0,_),(1,_),(2,_),(3,_),(8,_),(9,_),(10,_),(11,_),(12,_),(19,_),(20,_),(21,_),(22,_),(23,_),(28,_),(29,_),(42,_),(43,_),(44,_),(45,_),(46,_),(47,_),(48,_)] (fun (z:Array UInt32)=>PermIn a1 b1 d3 z) ?_ ?_
     ·skip
      refine WP.seq<|WP.reg<|WL.e e_move<|WL.e e_move ?_
      refine WL.bool 62 rfl (fun w1=>?_) (fun w1=>?_)
      ·skip
       refine WL.e e_move<|WL.e e_pick_t<|WL.e e_move ?_
       refine WL.bool 65 rfl (fun w2=>?_) (fun w2=>?_)
       ·skip
        refine WL.e e_move<|WL.e e_eql<|WL.e e_pick_t<|WL.next ?_
        refine WP.cond rfl (fun h6=>?_) (fun h6=>?_)
        ·skip
         refine WP.seq<|WP.reg<|WL.e e_move<|WL.e e_move<|WL.e e_move ?_
         refine WL.h (h_call (PIns32_spec d3 a1 b1 (by omega) (by omega) (by omega)) k242 ?_)
         obtain ⟨k1,k2⟩:=partialInsertionSort_holds swo32 d3 a1 b1 (by omega) (by omega) B3
         refine WL.next ?_
         refine WP.cond rfl (fun h7=>?_) (fun h7=>?_)
         ·skip
          refine WP.ret<|PO.round nofun<|PO.blockR<|PO.round nofun<|PO.blockR ?_
          exact PO.fin Tryz.results179 rv_nil (hK _ (hC _ (permIn_trans _ _ _ _ _ p12 (permIn_trans _ _ _ _ _ p23 k1)) (k2 h7)).1 (hC _ (permIn_trans _ _ _ _ _ p12 (permIn_trans _ _ _ _ _ p23 k1)) (k2 h7)).2)
         ·skip
          refine WP.skip ?_
          exact PO.meetK _ k1
        ·skip
         refine WP.skip ?_
         exact PO.meetK d3 (permIn_refl _ _ _)
       ·skip
        refine WL.skip<|WL.skip<|WL.e e_pick_f<|WL.next<|WP.cond_f rfl<|WP.skip ?_
        exact PO.meetK d3 (permIn_refl _ _ _)
      ·skip
       refine WL.skip<|WL.e e_pick_f<|WL.e e_move<|WL.skip<|WL.skip<|WL.e e_pick_f<|WL.next<|WP.cond_f rfl<|WP.skip ?_
       exact PO.meetK d3 (permIn_refl _ _ _)
     ·rintro d4 p34
      have hs4:d4.size=d3.size:=p34.1
      have B4:Below lt32 a1 b1 d4:=B3.perm (by omega) p34
      refine WP.cutR (fun (_:Unit)=>[(1,.int .i64 a1)]) (fun (_:Unit)=>Sl 35 1 u32C u (d4).toList::R) [(0,_),(2,_),(3,_),(8,_),(9,_),(10,_),(11,_),(12,_),(19,_),(20,_),(21,_),(22,_),(23,_),(28,_),(29,_),(42,_),(43,_),(44,_),(45,_),(46,_),(47,_),(48,_)] (fun (_:Unit)=>True) ?_ ?_
      ·skip
       refine WP.seq<|WP.draws mixedOk 15<|RW.e 0 rfl e_move<|RW.e 1 rfl e_gtr<|RW.e 2 rfl e_move ?_
       refine RW.bool 75 rfl (fun g=>?_) (fun g=>?_)
       ·replace g:a1 > 0:=by rw [decide_eq_true_eq] at g;omega
        refine RW.e 3 rfl e_move<|RW.e 4 rfl e_move<|RW.e 5 rfl (e_subN (b:=1))<|RW.e 6 rfl (ea_ia sl33)<|RW.e 7 rfl (ea_load a35)<|RW.e 8 rfl e_move<|RW.e 9 rfl e_move<|RW.e 10 rfl (ea_ia sl33)<|RW.e 11 rfl (ea_load a35) ?_
        refine RW.any (is:=[12]) rfl ⟨?_,trivial⟩
        refine RWat.h rfl rfl rfl ?_
        refine (h_call (Less32_spec _ _) k243 ?_)
        refine ⟨trivial,?_⟩
        refine RW.e 13 rfl e_not<|RW.e 14 rfl e_pick_t<|RW.done<|PO.next ?_
        refine WP.cond rfl (fun h8=>?_) (fun h8=>?_)
        ·replace h8:=nt h8
         refine WP.seq<|WP.reg<|WL.e e_move<|WL.e e_move<|WL.e e_move<|WL.e e_move ?_
         refine WL.h (h_call (PartE32_spec d4 a1 b1 p3 hp1 hp2 (by omega) (by omega)) k244 ?_)
         rcases he:partitionEqual lt32 d4 a1 b1 p3 with ⟨mid,d5⟩
         obtain ⟨q1,q2,q3,q4,q5⟩:=round_eq swo32 (partitionEqual_holds lt32) g hp1 hp2 (by omega) B4 h8 he
         dsimp only
         refine WL.e e_assign<|WL.next<|WP.seq<|WP.reg<|WL.e e_move<|WL.e e_assign<|WL.next<|WP.exit<|PO.round nofun<|PO.blockX ?_
         exact PO.againK (mid,b1,l2,wb,wp,d5) ⟨by simp only;omega,by simp only;omega,by simp only;omega,by simp only;omega,by simp only;omega,q4,fun R' h1 h2=>hC R' (permIn_trans _ _ _ _ _ (permIn_trans _ _ _ _ _ p12 (permIn_trans _ _ _ _ _ p23 p34)) (q5 R' h1 h2).1) (q5 R' h1 h2).2⟩ (by simp only;omega)
        ·skip
         refine WP.skip ?_
         exact PO.meetK () trivial
       ·skip
        refine RW.skip 3 rfl<|RW.skip 4 rfl<|RW.skip 5 rfl<|RW.skip 6 rfl<|RW.skip 7 rfl<|RW.skip 8 rfl<|RW.skip 9 rfl<|RW.skip 10 rfl<|RW.skip 11 rfl<|RW.skip 12 rfl<|RW.skip 13 rfl<|RW.e 14 rfl e_pick_f<|RW.done<|PO.next<|WP.cond_f rfl<|WP.skip ?_
        exact PO.meetK () trivial
      ·intro _ _
       refine WP.seq<|WP.reg<|WL.e e_move<|WL.e e_move<|WL.e e_move<|WL.e e_move ?_
       refine WL.h (h_call (Part32_spec d4 a1 b1 p3 hp1 hp2 (by omega) (by omega)) k245 ?_)
       rcases he:partition lt32 d4 a1 b1 p3 with ⟨mid,alr,d5⟩
       obtain ⟨q1,q2,q3,q4,q5,q6,q7⟩:=round_part swo32 (partition_holds lt32) hp1 hp2 (by omega) B4 he
       dsimp only
       refine WL.e e_move<|WL.e e_extract<|WL.e e_extract<|WL.e e_assign<|WL.e e_assign<|WL.next<|WP.seq<|WP.reg<|WL.e e_move<|WL.e e_assign<|WL.next<|WP.seq<|WP.reg<|WL.e e_move<|WL.e e_move<|WL.e (e_subN)<|WL.e e_move<|WL.e e_move<|WL.e (e_subN)<|WL.e e_assign<|WL.e e_assign<|WL.next<|WP.seq<|WP.reg ?_
       refine WL.e e_move<|WL.e (e_quoN (b:=8))<|WL.e e_assign<|WL.next<|WP.seq<|WP.reg<|WL.e e_move<|WL.e e_move<|WL.e e_lss<|WL.next ?_
       refine WP.cond rfl (fun h9=>?_) (fun h9=>?_)
       ·replace h9:mid - a1 < b1 - mid:=by rw [decide_eq_true_eq] at h9;omega
        refine WP.seq<|WP.reg<|WL.e e_move<|WL.e e_move<|WL.e e_geq<|WL.e e_assign<|WL.next<|WP.seq<|WP.reg<|WL.e e_move<|WL.e e_move<|WL.e e_move<|WL.e e_move ?_
        refine WL.h (h_call (ih (mid - a1) (by omega) d5 a1 mid l2 (Nat.le_refl _) (by omega) (by omega) (by omega) (by omega) q4) k179 ?_)
        intro d6 r1 r2
        have hs6:d6.size=d5.size:=r1.1
        refine WL.next<|WP.reg<|WL.e e_move<|WL.e (e_addN (b:=1))<|WL.e e_assign<|WL.nil<|PO.blockN ?_
        exact PO.againK ((mid+1),b1,l2,(decide (((mid - a1:Nat):Int)≥(((b1 - a1) / 8:Nat):Int))),alr,d6) ⟨by simp only;omega,by simp only;omega,by simp only;omega,by simp only;omega,by simp only;omega,(q6 d6 r1 r2).1,fun R' h1 h2=>hC R' (permIn_trans _ _ _ _ _ (permIn_trans _ _ _ _ _ p12 (permIn_trans _ _ _ _ _ p23 p34)) ((q6 d6 r1 r2).2 R' h1 h2).1) ((q6 d6 r1 r2).2 R' h1 h2).2⟩ (by simp only;omega)
       ·replace h9:¬ (mid - a1 < b1 - mid):=by rw [decide_eq_false_iff_not] at h9;omega
        refine WP.seq<|WP.reg<|WL.e e_move<|WL.e e_move<|WL.e e_geq<|WL.e e_assign<|WL.next<|WP.seq<|WP.reg<|WL.e e_move<|WL.e e_move<|WL.e (e_addN (b:=1))<|WL.e e_move<|WL.e e_move ?_
        refine WL.h (h_call (ih (b1 - (mid+1)) (by omega) d5 (mid+1) b1 l2 (Nat.le_refl _) (by omega) (by omega) (by omega) (by omega) q5) k179 ?_)
        intro d6 r1 r2
        have hs6:d6.size=d5.size:=r1.1
        refine WL.next<|WP.reg<|WL.e e_move<|WL.e e_assign<|WL.nil<|PO.blockN ?_
        exact PO.againK (a1,mid,l2,(decide (((b1 - mid:Nat):Int)≥(((b1 - a1) / 8:Nat):Int))),alr,d6) ⟨by simp only;omega,by simp only;omega,by simp only;omega,by simp only;omega,by simp only;omega,(q7 d6 r1 r2).1,fun R' h1 h2=>hC R' (permIn_trans _ _ _ _ _ (permIn_trans _ _ _ _ _ p12 (permIn_trans _ _ _ _ _ p23 p34)) ((q7 d6 r1 r2).2 R' h1 h2).1) ((q7 d6 r1 r2).2 R' h1 h2).2⟩ (by simp only;omega)
theorem Sort32_spec {g:World} {u:Value} (xs:List UInt32) (hn:xs.length≤68719476736):Spec Tryz.prog g 117 [u] [Sl 35 1 u32C u xs] fun K R=>∀ ys,ys.Perm xs→(ys.Pairwise fun x y=>x≤y)→K (.tuple #[]) (Sl 35 1 u32C u ys::R):=by
 refine Spec.intro Tryz.func117 rfl Tryz.ntmps117 rfl fun R K hK=>?_
 refine WP.seq<|WP.reg<|WL.e e_move<|WL.e (el_len (xs:=xs) (enc:=u32C) sl33 sl_rl)<|WL.e e_assign<|WL.next<|WP.reg<|WL.e e_move<|WL.e e_move<|WL.e e_move<|WL.e (e_conv (c:=((xs.length:Nat):Int)) (by rw [Tryz.underlying3];rfl) Tryz.underlying148 rfl (by rw [wu64,UInt64.toNat_ofNat'];congr 1;omega)) ?_
 refine WL.h (h_call (L_spec xs.length (by omega)) k80 ?_)
 refine WL.h (h_call (Pdq32r_spec xs.length xs.toArray 0 xs.length (bitsLen xs.length) (by omega) (Nat.zero_le _) (by simp) (by simpa using hn) (by have:=bitsLen_lt (k:=37) (x:=xs.length) (by omega);omega) (Or.inl rfl)) k179 ?_)
 intro d' p1 p2
 obtain ⟨p3,p4⟩:=sort_done p1 p2
 refine WL.nil ?_
 exact PO.fin Tryz.results117 rv_nil (hK _ p3 p4)
end Go.SL
set_option linter.unusedSectionVars false
namespace Go.SL
open Go
structure WasM where
  at_:UInt32
  val:UInt32
  gone:Bool
def WasM.c (w:WasM):List Value:=[.int .u32 w.at_.toNat,.int .u32 w.val.toNat,.bool w.gone]
theorem wasE:EncOk 3 WasM.c:=⟨fun _=>rfl,fun _=>rfl⟩
abbrev PS:=List (ByteArray × List WasM)
def findP (ws:List WasM) (n:UInt32):UInt32 × Bool:=match ws.reverse.find? fun w=>decide (w.at_≤n) with
  | some w=>(w.val,!w.gone)
  | none=>(0,false)
def valW (ws:List WasM) (n:UInt32):Option UInt32:=if (findP ws n).2 then some (findP ws n).1 else none
def lastW (ws:List WasM):UInt32:=(ws.getLast?.map (·.at_)).getD 0
def addW1 (ws:List WasM) (n:UInt32) (c:ChgM):List WasM:=(if ws≠[]∧lastW ws=n then ws.dropLast else ws)++[⟨n,c.val,c.gone⟩]
def putS (l:PS) (n:UInt32) (c:ChgM):PS:=setS l c.key (addW1 ((getS l c.key).getD []) n c)
def stepP (n:UInt32) (r:List RowM) (p:ByteArray × List WasM):List RowM:=match valW p.2 n with
  | some v=>setR r p.1 v
  | none=>r
def rowsP (l:PS) (n:UInt32):List RowM:=l.foldl (stepP n) []
def trimI (ws:List WasM) (n:UInt32):Nat→Nat
  | 0=>0
  | i+1=>match ws[i+1]? with
    | some w=>if n < w.at_ then trimI ws n i else i+1
    | none=>0
def trimW (ws:List WasM) (n:UInt32):List WasM:=ws.drop (trimI ws n (ws.length - 1))
instance memB (k:ByteArray) (l:List ByteArray):Decidable (k ∈ l):=@List.instDecidableMemOfLawfulBEq _ instBEqOfDecidableEq _ k l
def bwdK (ws:List WasM):Nat→List (Nat × WasM)
  | 0=>[]
  | k+1=>(match ws[k]? with | some w=>[(k,w)] | none=>[])++bwdK ws k
theorem bwdK_map (ws:List WasM):∀ k,k≤ws.length→(bwdK ws k).map (·.2)=(ws.take k).reverse
  | 0,_=>by simp [bwdK]
  | k+1,h=>by
    have hx:=List.getElem?_eq_getElem (show k < ws.length by omega)
    rw [bwdK,hx,take_snoc hx,List.map_append,bwdK_map ws k (by omega),List.reverse_append];rfl
theorem findP_bwd (ws:List WasM) (n:UInt32):findP ws n=match (bwdK ws ws.length).find? (fun x=>decide (x.2.at_≤n)) with
    | some x=>(x.2.val,!x.2.gone)
    | none=>(0,false):=by
  have h:=bwdK_map ws ws.length (Nat.le_refl _)
  rw [List.take_length] at h
  unfold findP
  rw [← h,List.find?_map]
  simp only [Function.comp_def]
  cases (bwdK ws ws.length).find? fun x=>decide (x.2.at_≤n) <;> rfl
theorem findP_none {ws:List WasM} {n:UInt32} (h:Hist (fun _ (x:Nat × WasM)=>¬ x.2.at_≤n) (bwdK ws ws.length)):findP ws n=(0,false):=by
  rw [findP_bwd,List.find?_eq_none.2 (fun x hx=>by simpa using hist_all h x hx)]
theorem findP_some {ws:List WasM} {n:UInt32} {pre:List (Nat × WasM)} {x:Nat × WasM} (hp:∃ r,(pre++[x])++r=bwdK ws ws.length) (h:Hist (fun _ (x:Nat × WasM)=>¬ x.2.at_≤n) pre) (hx:¬ ¬ x.2.at_≤n):findP ws n=(x.2.val,!x.2.gone):=by
  obtain ⟨r,hr⟩:=hp
  rw [findP_bwd,← hr,List.append_assoc,List.find?_append,List.find?_eq_none.2 (fun y hy=>by simpa using hist_all h y hy)]
  simp only [Classical.not_not] at hx
  simp [hx]
theorem ents_key {E z:Nat} {enc:WasM→List Value} {es:List (EntV ByteArray WasM)} (k:ByteArray):RL (Ents E z enc es) z enc (svE es k).v (wsE es k):=by
  cases hf:findE es k with
  | none=>
    unfold svE wsE
    rw [hf]
    exact nil_rl
  | some e=>
    have h1:=ents_rl (E:=E) (z:=z) (enc:=enc) (findE_key hf).1
    unfold svE wsE
    rw [hf];exact h1
theorem of_le32 {a b:UInt32} (h:decide ((a.toNat:Int)≤(b.toNat:Int))=true):a≤b:=by
  have:=of_decide_eq_true h;rw [UInt32.le_iff_toNat_le];omega
theorem of_nle32 {a b:UInt32} (h:decide ((a.toNat:Int)≤(b.toNat:Int))=false):¬ a≤b:=by
  have:=of_decide_eq_false h;rw [UInt32.le_iff_toNat_le];omega
structure TrimI (es:List (EntV ByteArray WasM)) (n:UInt32) (left st:List (EntV ByteArray WasM)):Prop where
  nl:(left.map (·.key)).Nodup
  sub:∀ y ∈ left,y ∈ st
  old:∀ y ∈ left,y ∈ es
  keys:st.map (·.key)=es.map (·.key)
  nodup:(st.map (·.key)).Nodup
  val:st.map stE=es.map fun e=>(e.key,if e.key ∈ left.map (·.key) then e.ws else trimW e.ws n)
theorem TrimI.first {es:List (EntV ByteArray WasM)} (h:(es.map (·.key)).Nodup) (n:UInt32):TrimI es n es es:=by
  refine ⟨h,fun _ h=>h,fun _ h=>h,rfl,h,List.map_congr_left fun e he=>?_⟩
  rw [if_pos (List.mem_map.2 ⟨e,he,rfl⟩)];rfl
theorem TrimI.done {es st:List (EntV ByteArray WasM)} {n:UInt32} (h:TrimI es n [] st):st.map stE=(es.map stE).map fun p=>(p.1,trimW p.2 n):=by
  rw [h.val,List.map_map];rfl
theorem TrimI.step {es left st A B:List (EntV ByteArray WasM)} {n:UInt32} {y:EntV ByteArray WasM} (h:TrimI es n left st) (hl:left=A++y::B) {j:Nat} (hj:trimW y.ws n=y.ws.drop j):TrimI es n (A++B) (setE st y.key (subS y.sv j y.ws.length 3) (y.ws.drop j)):=by
  have hy:y ∈ st:=h.sub y (by rw [hl];simp)
  have hfe:=findE_mem h.nodup hy
  obtain ⟨A2,B2,h1,_,h3⟩:=delE_keys hfe
  have hnl:=h.nl
  rw [hl,List.map_append,List.map_cons] at hnl
  have hno:y.key ∉ (A++B).map (·.key):=by
    rw [List.map_append]
    intro hm
    obtain ⟨a1,a2,a3⟩:=List.nodup_append.1 hnl
    rcases List.mem_append.1 hm with hm | hm
    · exact a3 _ hm _ (by simp) rfl
    · exact (List.nodup_cons.1 a2).1 hm
  have hkk:(setE st y.key (subS y.sv j y.ws.length 3) (y.ws.drop j)).map (·.key)=st.map (·.key):=by rw [h3,h1];simp
  have hsub:∀ z ∈ A++B,z ∈ left∧z.key≠y.key:=fun z hz=>⟨by rw [hl];simp only [List.mem_append,List.mem_cons] at hz ⊢;rcases hz with h | h;exact .inl h;exact .inr (.inr h),fun e=>hno (e ▸ List.mem_map.2 ⟨z,hz,rfl⟩)⟩
  refine ⟨?_,fun z hz=>?_,fun z hz=>h.old z (hsub z hz).1,by rw [hkk];exact h.keys,by rw [hkk];exact h.nodup,?_⟩
  · rw [List.map_append]
    obtain ⟨a1,a2,a3⟩:=List.nodup_append.1 hnl
    exact List.nodup_append.2 ⟨a1,(List.nodup_cons.1 a2).2,fun a ha b hb=>a3 a ha b (by simp [hb])⟩
  · obtain ⟨k1,k2⟩:=hsub z hz
    have:=h.sub z k1
    rw [h1] at this
    rw [h3]
    simp only [List.mem_append,List.mem_cons] at this ⊢
    rcases this with h | rfl | h
    · exact .inl h
    · exact absurd rfl k2
    · exact .inr (.inr h)
  · 
    have hv:=h.val
    apply List.ext_getElem?
    intro i
    have hi:=congrArg (·[i]?) hv
    simp only [List.getElem?_map] at hi ⊢
    have hyi:st[A2.length]?=some y:=by rw [h1];simp
    have hset:(setE st y.key (subS y.sv j y.ws.length 3) (y.ws.drop j))[i]?=if i=A2.length then some ⟨y.key,subS y.sv j y.ws.length 3,y.ws.drop j⟩ else st[i]?:=by
      rw [h3,h1]
      by_cases e:i=A2.length
      · subst e;simp
      · rw [if_neg e]
        rcases Nat.lt_or_ge i A2.length with hlt | hge
        · rw [List.getElem?_append_left hlt,List.getElem?_append_left hlt]
        · rw [List.getElem?_append_right hge,List.getElem?_append_right hge]
          obtain ⟨q,hq⟩:∃ q,i - A2.length=q+1:=⟨i - A2.length - 1,by omega⟩
          rw [hq];simp
    rw [hset]
    by_cases e:i=A2.length
    · subst e
      rw [if_pos rfl]
      rw [hyi] at hi
      cases hE:es[A2.length]? with
      | none=>rw [hE] at hi;simp at hi
      | some e0=>
        rw [hE] at hi
        simp only [Option.map_some,Option.some.injEq,stE,Prod.mk.injEq] at hi ⊢
        obtain ⟨hi1,hi2⟩:=hi
        rw [← hi1] at hi2 ⊢
        rw [if_pos (by rw [hl];simp)] at hi2
        rw [if_neg hno,← hi2,hj]
        exact ⟨rfl,rfl⟩
    · rw [if_neg e]
      rw [hi]
      cases hE:es[i]? with
      | none=>rfl
      | some e0=>
        simp only [Option.map_some,Option.some.injEq,Prod.mk.injEq,true_and]
        have hne:e0.key≠y.key:=fun ek=>by
          have hlt:=idx_lt hE
          have k1:(es.map (·.key))[i]?=some y.key:=by rw [List.getElem?_map,hE];simp [ek]
          have k2:(es.map (·.key))[A2.length]?=some y.key:=by rw [← h.keys,List.getElem?_map,hyi];rfl
          have hnd:(es.map (·.key)).Nodup:=h.keys ▸ h.nodup
          exact e ((List.getElem?_inj (i:=i) (by simpa using hlt) hnd).1 (k1.trans k2.symm))
        have hiff:e0.key ∈ left.map (·.key)↔e0.key ∈ (A++B).map (·.key):=by
          rw [hl]
          simp only [List.map_append,List.map_cons,List.mem_append,List.mem_cons]
          constructor
          · rintro (h | h | h)
            · exact .inl h
            · exact absurd h hne
            · exact .inr h
          · rintro (h | h)
            · exact .inl h
            · exact .inr (.inr h)
        simp only [hiff]
section
variable {P : Program} {g : World} {Γ : Env} {L M : List HP} {dst : Option Tmp} {t : TypeId} {pos : String} {aft : Array Edge} {gd : Option (Nat × Bool)}
theorem em_lookE {A:HP} {m:Value} {d:TypeDesc} {kt:TypeId} {es:List (EntV ByteArray WasM)} {x i:Operand} {T e:TypeId} {k:ByteArray} (ht:P.underlying T=some (.map kt e)) (hk:KeyOk P kt d eStr) (hz:(P.info? e).bind (·.zero)=some (.slice none 0 0)) (hA:RdM A eStr m (es.map kvE)) (hx:ev Γ x=some m:=by rfl) (hi:ev Γ i=some (.string k):=by rfl) (hp:Pick L A M:=by repeat first | exact .z | apply Pick.s) :
    EO P g ⟨dst,.lookup T x i false,t,pos,aft,gd⟩ Γ L (svE es k).v:=mget_svE es k ▸ em_lookup ht hk hz hA hx hi hp
end
end Go.SL
namespace Go.SL
open Go
abbrev HistT:=List (List ChgM)
def getR (l:List RowM) (k:ByteArray):Option UInt32:=(l.find? fun r=>decide (r.key=k)).map (·.val)
theorem mem_getR {l:List RowM} (h:Rising l) {r:RowM}:r ∈ l↔getR l r.key=some r.val:=by
 unfold getR
 constructor
 ·intro hr
  cases hf:l.find? fun x=>decide (x.key=r.key) with
  | none=>have:=List.find?_eq_none.1 hf r hr;simp at this
  | some x=>
   have h1:=List.find?_some hf
   have h2:=List.mem_of_find?_eq_some hf
   rw [rising_one h h2 hr (by simpa using h1)];rfl
 ·intro hg
  rw [Option.map_eq_some_iff] at hg
  obtain ⟨x,hx,hv⟩:=hg
  have h1:=List.find?_some hx
  have h2:=List.mem_of_find?_eq_some hx
  have:x=r:=by cases x;cases r;simp at h1 hv;simp [h1,hv]
  exact this ▸ h2
theorem getR_ext {a b:List RowM} (ha:Rising a) (hb:Rising b) (h:∀ k,getR a k=getR b k):a=b:=rising_ext ha hb fun r=>by rw [mem_getR ha,mem_getR hb,h]
theorem getR_mem {l:List RowM} {k:ByteArray} {v:UInt32} (h:getR l k=some v):(⟨k,v⟩:RowM) ∈ l:=by
 unfold getR at h
 rw [Option.map_eq_some_iff] at h
 obtain ⟨x,hx,hv⟩:=h
 have h1:=List.find?_some hx
 have h2:=List.mem_of_find?_eq_some hx
 have:x=⟨k,v⟩:=by cases x;simp at h1 hv;simp [h1,hv]
 exact this ▸ h2
theorem getR_iff {l:List RowM} (h:Rising l) (k:ByteArray) (o:Option UInt32) (hk:∀ v,(⟨k,v⟩:RowM) ∈ l↔o=some v):getR l k=o:=by
 cases e:getR l k with
 | some v=>exact ((hk v).1 (getR_mem e)).symm
 | none=>
  cases o with
  | none=>rfl
  | some v=>have:=(mem_getR h).1 ((hk v).2 rfl);rw [e] at this;cases this
theorem getR_apply {l:List RowM} (h:Rising l) (c:ChgM) (k:ByteArray):getR (applyC l c) k=if k=c.key then (if c.gone then none else some c.val) else getR l k:=by
 refine getR_iff (applyC_rising h c).1 k _ fun v=>?_
 rw [mem_applyC h]
 by_cases e:k=c.key
 ·rw [if_pos e]
  cases hg:c.gone with
  | true=>simp [e]
  | false=>
   simp only [Bool.false_eq_true,if_false,Option.some.injEq]
   constructor
   ·rintro (⟨_,h2⟩ | ⟨_,h2⟩)
    ·cases h2;rfl
    ·exact absurd e h2
   ·rintro rfl;exact .inl ⟨trivial,by rw [e]⟩
 ·rw [if_neg e]
  constructor
  ·rintro (⟨_,h2⟩ | ⟨h1,_⟩)
   ·cases h2;exact absurd rfl e
   ·exact (mem_getR h).1 h1
  ·intro hv;exact .inr ⟨getR_mem hv,e⟩
def rowsN (H:List (List ChgM)) (n:Nat):List RowM:=changeR [] (H.take n).flatten
theorem rowsN_rising (H:List (List ChgM)) (n:Nat):Rising (rowsN H n):=(changeR_rising _ List.Pairwise.nil).1
theorem changeR_app (V:List RowM) (a b:List ChgM):changeR V (a++b)=changeR (changeR V a) b:=by simp [changeR]
theorem rowsN_old {H:List (List ChgM)} {n:Nat} (h:n≤H.length) (cs:List ChgM):rowsN (H++[cs]) n=rowsN H n:=by
 unfold rowsN;rw [List.take_append_of_le_length h]
theorem rowsN_new (H:List (List ChgM)) (cs:List ChgM):rowsN (H++[cs]) (H.length+1)=changeR (rowsN H H.length) cs:=by
 unfold rowsN
 rw [List.take_of_length_le (by simp),List.take_of_length_le (Nat.le_refl _),List.flatten_append,changeR_app];simp
theorem rowsN_len (H:List (List ChgM)) (n:Nat):(rowsN H n).length≤H.flatten.length:=by
 have h1:=(changeR_rising (H.take n).flatten (l:=[]) List.Pairwise.nil).2
 have h2:(H.take n).flatten.length≤H.flatten.length:=by
  conv=>rhs;rw [← List.take_append_drop n H,List.flatten_append,List.length_append]
  omega
 unfold rowsN
 rw [List.length_nil] at h1;omega
def valP (l:PS) (k:ByteArray) (n:UInt32):Option UInt32:=match getS l k with
 | some ws=>valW ws n
 | none=>none
def lastOk (H:List (List ChgM)) (k:ByteArray) (a:UInt32):Prop:=
 (∃ cs,1≤a.toNat∧H[a.toNat - 1]?=some cs∧∃ c ∈ cs,c.key=k)∧∀ j cs,a.toNat≤j→H[j]?=some cs→∀ c ∈ cs,c.key≠k
structure PastOk (l:PS) (now trim:UInt32) (H:List (List ChgM)):Prop where
 nowH:now.toNat=H.length
 trimH:trim≤now
 nodup:(l.map (·.1)).Nodup
 ne:∀ p ∈ l,p.2≠[]
 keys:∀ p ∈ l,keyOk p.1=true
 le:∀ p ∈ l,∀ w ∈ p.2,w.at_≤now
 val:∀ k n,trim≤n→n≤now→valP l k n=getR (rowsN H n.toNat) k
 last:∀ p ∈ l,lastOk H p.1 (lastW p.2)
 sure:∀ cs ∈ H,∀ c ∈ cs,(getS l c.key).isSome=true
 size:l.length≤H.flatten.length
 lens:∀ p ∈ l,p.2.length≤H.length
theorem PastOk.now_eq {l:PS} {now trim:UInt32} {H:List (List ChgM)} (h:PastOk l now trim H):now=UInt32.ofNat H.length:=by rw [← h.nowH,UInt32.ofNat_toNat]
theorem last_app (ws:List WasM) (w:WasM):lastW (ws++[w])=w.at_:=by simp [lastW]
theorem addW1_last (ws:List WasM) (n:UInt32) (c:ChgM):lastW (addW1 ws n c)=n:=by unfold addW1;rw [last_app]
theorem addW1_ne (ws:List WasM) (n:UInt32) (c:ChgM):addW1 ws n c≠[]:=by unfold addW1;simp
theorem findP_app (ws:List WasM) (w:WasM) (n:UInt32):findP (ws++[w]) n=if w.at_≤n then (w.val,!w.gone) else findP ws n:=by
 unfold findP
 rw [List.reverse_append,List.reverse_singleton,List.singleton_append,List.find?_cons]
 by_cases h:w.at_≤n <;> simp [h]
theorem last_split {ws:List WasM} (h:ws≠[]):∃ w,ws=ws.dropLast++[w]∧lastW ws=w.at_:=by
 refine ⟨ws.getLast h,(List.dropLast_concat_getLast h).symm,?_⟩
 unfold lastW
 rw [List.getLast?_eq_some_getLast h];rfl
theorem addW1_old (ws:List WasM) {n m:UInt32} (h:m < n) (c:ChgM):valW (addW1 ws n c) m=valW ws m:=by
 have hn:¬ n≤m:=fun e=>UInt32.lt_irrefl _ (UInt32.lt_of_lt_of_le h e)
 have e:findP (addW1 ws n c) m=findP ws m:=by
  unfold addW1
  rw [findP_app]
  simp only [hn,if_false]
  split
  ·rename_i hc
   obtain ⟨w,h1,h2⟩:=last_split hc.1
   conv=>rhs;rw [h1]
   rw [findP_app,← h2,hc.2,if_neg hn]
  ·rfl
 unfold valW;rw [e]
theorem addW1_new (ws:List WasM) (n:UInt32) (c:ChgM):valW (addW1 ws n c) n=if c.gone then none else some c.val:=by
 have e:findP (addW1 ws n c) n=(c.val,!c.gone):=by
  unfold addW1
  rw [findP_app];simp
 unfold valW;rw [e]
 cases c.gone <;> simp
theorem addW1_mem {ws:List WasM} {n:UInt32} {c:ChgM} {w:WasM} (h:w ∈ addW1 ws n c):w ∈ ws∨w.at_=n:=by
 unfold addW1 at h
 rcases List.mem_append.1 h with h | h
 ·split at h
  ·exact .inl (List.dropLast_subset _ h)
  ·exact .inl h
 ·simp at h;subst h;exact .inr rfl
theorem findP_last {ws:List WasM} {n m:UInt32} (hn:∀ w ∈ ws,w.at_≤n) (hm:∀ w ∈ ws,w.at_≤m):findP ws n=findP ws m:=by
 unfold findP
 cases h:ws.reverse with
 | nil=>rfl
 | cons w l=>
  have hw:w ∈ ws:=by rw [← List.mem_reverse,h];simp
  simp [List.find?_cons,hn w hw,hm w hw]
structure MidOk (l:PS) (now trim:UInt32) (H:List (List ChgM)) (pre:List ChgM):Prop where
 nodup:(l.map (·.1)).Nodup
 ne:∀ p ∈ l,p.2≠[]
 keys:∀ p ∈ l,keyOk p.1=true
 le:∀ p ∈ l,∀ w ∈ p.2,w.at_≤now+1
 val:∀ k n,trim≤n→n≤now→valP l k n=getR (rowsN H n.toNat) k
 new:∀ k,valP l k (now+1)=getR (changeR (rowsN H H.length) pre) k
 last:∀ p ∈ l,(lastW p.2=now+1∧∃ c ∈ pre,c.key=p.1)∨(lastOk H p.1 (lastW p.2)∧∀ c ∈ pre,c.key≠p.1)
 sure:∀ cs ∈ H,∀ c ∈ cs,(getS l c.key).isSome=true
 pres:∀ c ∈ pre,(getS l c.key).isSome=true
 size:l.length≤H.flatten.length+pre.length
 lens:∀ p ∈ l,p.2.length≤H.length∨(lastW p.2=now+1∧p.2.length≤H.length+1)
theorem setS_len (l:PS) (k:ByteArray) (ws:List WasM):(setS l k ws).length≤l.length+1:=by
 unfold setS;split <;> simp
theorem PastOk.start {l:PS} {now trim:UInt32} {H:List (List ChgM)} (h:PastOk l now trim H) (hb:H.length < 4294967295):MidOk l now trim H []:=by
 have hlt:now≤now+1:=by rw [UInt32.le_iff_toNat_le,UInt32.toNat_add,h.nowH];simp;omega
 refine ⟨h.nodup,h.ne,h.keys,fun p hp w hw=>UInt32.le_trans (h.le p hp w hw) hlt,h.val,fun k=>?_,fun p hp=>.inr ⟨h.last p hp,by simp⟩,h.sure,by simp,h.size,fun p hp=>.inl (h.lens p hp)⟩
 have h1:=h.val k now h.trimH (UInt32.le_refl _)
 rw [h.nowH] at h1
 show valP l k (now+1)=getR (rowsN H H.length) k
 rw [← h1]
 unfold valP
 cases hg:getS l k with
 | none=>rfl
 | some ws=>
  have hm:=getS_some hg
  have:findP ws (now+1)=findP ws now:=findP_last (fun w hw=>UInt32.le_trans (h.le _ hm w hw) hlt) (fun w hw=>h.le _ hm w hw)
  simp only [valW,this]
theorem MidOk.step {l:PS} {now trim:UInt32} {H:List (List ChgM)} {pre:List ChgM} (h:MidOk l now trim H pre) (hnow:now.toNat=H.length) (hb:H.length < 4294967295) (c:ChgM) (hc:keyOk c.key=true):MidOk (putS l (now+1) c) now trim H (pre++[c]):=by
 have hlt:now < now+1:=by rw [UInt32.lt_iff_toNat_lt,UInt32.toNat_add,hnow];simp;omega
 have hmem:∀ p ∈ putS l (now+1) c,(p.1=c.key∧p.2=addW1 ((getS l c.key).getD []) (now+1) c)∨(p.1≠c.key∧p ∈ l):=fun p hp=>by
  have h1:=getS_mem (setS_nodup h.nodup c.key (addW1 ((getS l c.key).getD []) (now+1) c)) hp
  rw [setS_get] at h1
  by_cases e:p.1=c.key
  ·rw [if_pos e] at h1;exact .inl ⟨e,(Option.some.inj h1).symm⟩
  ·rw [if_neg e] at h1;exact .inr ⟨e,getS_some h1⟩
 have hv:∀ k n,valP (putS l (now+1) c) k n=if k=c.key then valW (addW1 ((getS l c.key).getD []) (now+1) c) n else valP l k n:=fun k n=>by
  unfold valP putS
  rw [setS_get]
  by_cases e:k=c.key <;> simp [e]
 refine ⟨setS_nodup h.nodup _ _,fun p hp=>?_,fun p hp=>?_,fun p hp w hw=>?_,fun k n h1 h2=>?_,fun k=>?_,fun p hp=>?_,fun cs hcs c' hc'=>?_,fun c' hc'=>?_,?_,fun p hp=>?_⟩
 ·rcases hmem p hp with ⟨_,h2⟩ | ⟨_,h2⟩
  ·rw [h2];exact addW1_ne _ _ _
  ·exact h.ne p h2
 ·rcases hmem p hp with ⟨h1,_⟩ | ⟨_,h2⟩
  ·rw [h1];exact hc
  ·exact h.keys p h2
 ·rcases hmem p hp with ⟨_,h2⟩ | ⟨_,h2⟩
  ·rw [h2] at hw
   rcases addW1_mem hw with hw | hw
   ·cases hg:getS l c.key with
    | none=>rw [hg] at hw;simp at hw
    | some ws=>rw [hg] at hw;exact h.le _ (getS_some hg) w hw
   ·rw [hw];exact UInt32.le_refl _
  ·exact h.le p h2 w hw
 ·rw [hv]
  by_cases e:k=c.key
  ·rw [if_pos e,addW1_old _ (UInt32.lt_of_le_of_lt h2 hlt),← h.val k n h1 h2,e]
   unfold valP
   cases getS l c.key <;> rfl
  ·rw [if_neg e];exact h.val k n h1 h2
 ·rw [hv,changeR_snoc,getR_apply (changeR_rising pre (rowsN_rising H _)).1,addW1_new,h.new]
 ·rcases hmem p hp with ⟨h1,h2⟩ | ⟨h1,h2⟩
  ·left
   rw [h2]
   exact ⟨addW1_last _ _ _,c,by simp,h1.symm⟩
  ·rcases h.last p h2 with ⟨a,c',b1,b2⟩ | ⟨a,b⟩
   ·exact .inl ⟨a,c',by simp [b1],b2⟩
   ·refine .inr ⟨a,fun c' hc'=>?_⟩
    rcases List.mem_append.1 hc' with hc' | hc'
    ·exact b c' hc'
    ·simp at hc';subst hc';exact fun e=>h1 e.symm
 ·unfold putS;rw [setS_get];split
  ·rfl
  ·exact h.sure cs hcs c' hc'
 ·unfold putS;rw [setS_get];split
  ·rfl
  ·rcases List.mem_append.1 hc' with hc' | hc'
   ·exact h.pres c' hc'
   ·simp at hc';subst hc';rename_i hne;exact absurd rfl hne
 ·have:=setS_len l c.key (addW1 ((getS l c.key).getD []) (now+1) c)
  have:=h.size
  unfold putS;rw [List.length_append,List.length_singleton];omega
 ·rcases hmem p hp with ⟨_,h2⟩ | ⟨_,h2⟩
  ·right
   rw [h2]
   refine ⟨addW1_last _ _ _,?_⟩
   have hw:((getS l c.key).getD []).length≤H.length∨(lastW ((getS l c.key).getD [])=now+1∧((getS l c.key).getD []).length≤H.length+1):=by
    cases hg:getS l c.key with
    | none=>left;simp
    | some ws=>exact h.lens _ (getS_some hg)
   unfold addW1
   rw [List.length_append,List.length_singleton]
   split
   ·rename_i hc'
    rw [List.length_dropLast]
    have:=List.length_pos_iff.2 hc'.1
    rcases hw with hw | ⟨_,hw⟩ <;> omega
   ·rename_i hc'
    rcases hw with hw | ⟨hl,hw⟩
    ·omega
    ·have:(getS l c.key).getD []=[]:=by
      cases e:(getS l c.key).getD [] with
      | nil=>rfl
      | cons a b=>exact absurd ⟨by rw [e];simp,hl⟩ hc'
     rw [this];simp
  ·exact h.lens p h2
theorem MidOk.done {l l0:PS} {now trim:UInt32} {H:List (List ChgM)} (h:PastOk l0 now trim H) (hb:H.length < 4294967295) {cs:List ChgM} (hm:MidOk l now trim H cs):PastOk l (now+1) trim (H++[cs]):=by
 have hn1:(now+1).toNat=H.length+1:=by rw [UInt32.toNat_add,h.nowH];simp;omega
 have hlt:now < now+1:=by rw [UInt32.lt_iff_toNat_lt,hn1,h.nowH];omega
 refine ⟨by rw [hn1];simp,UInt32.le_trans h.trimH (UInt32.le_of_lt hlt),hm.nodup,hm.ne,hm.keys,hm.le,fun k n h1 h2=>?_,fun p hp=>?_,fun cs' hcs c' hc'=>?_,by have:=hm.size;rw [List.flatten_append,List.length_append,List.flatten_singleton];exact this,fun p hp=>by have:=hm.lens p hp;rw [List.length_append,List.length_singleton];omega⟩
 ·by_cases e:n=now+1
  ·subst e;rw [hm.new,hn1,rowsN_new]
  ·have hle:n≤now:=by
    rw [UInt32.le_iff_toNat_le] at h2 ⊢
    have:n.toNat≠(now+1).toNat:=fun h3=>e (UInt32.toNat_inj.1 h3)
    rw [hn1] at this h2;rw [h.nowH];omega
   rw [hm.val k n h1 hle,rowsN_old]
   rw [UInt32.le_iff_toNat_le,h.nowH] at hle;exact hle
 ·rcases hm.last p hp with ⟨h1,c,h2,h3⟩ | ⟨⟨⟨cs',h1,h2,h3⟩,h4⟩,h5⟩
  ·rw [h1]
   refine ⟨⟨cs,by omega,by rw [hn1];simp,c,h2,h3⟩,fun j cs' hj hcs=>?_⟩
   rw [hn1] at hj
   rw [List.getElem?_eq_none (by simp;omega)] at hcs;cases hcs
  ·refine ⟨⟨cs',h1,?_,h3⟩,fun j cs'' hj hcs=>?_⟩
   ·rw [List.getElem?_append_left (idx_lt h2)];exact h2
   ·rcases Nat.lt_or_ge j H.length with hjl | hjl
    ·rw [List.getElem?_append_left hjl] at hcs;exact h4 j cs'' hj hcs
    ·rw [List.getElem?_append_right hjl] at hcs
     have:cs''=cs:=by
      cases hd:j - H.length with
      | zero=>rw [hd] at hcs;simpa using hcs.symm
      | succ q=>rw [hd] at hcs;simp at hcs
     subst this;exact h5
 ·rcases List.mem_append.1 hcs with hcs | hcs
  ·exact hm.sure cs' hcs c' hc'
  ·simp at hcs;subst hcs;exact hm.pres c' hc'
theorem foldP_rising (n:UInt32):∀ (l:PS) {r:List RowM},Rising r→Rising (l.foldl (stepP n) r)
 | [],_,h=>h
 | p::l,r,h=>by
  rw [List.foldl_cons]
  apply foldP_rising n l
  unfold stepP
  split
  ·exact (setR_spec h _ _).1
  ·exact h
theorem foldP_get (n:UInt32) (k:ByteArray):∀ (l:PS) {r:List RowM},(l.map (·.1)).Nodup→Rising r→getR (l.foldl (stepP n) r) k=(valP l k n).or (getR r k)
 | [],_,_,_=>rfl
 | p::l,r,hn,h=>by
  rw [List.foldl_cons]
  rw [List.map_cons] at hn
  obtain ⟨hn1,hn2⟩:=List.nodup_cons.1 hn
  have hset:∀ v,getR (setR r p.1 v) k=if k=p.1 then some v else getR r k:=fun v=>by
   have:=getR_apply h ⟨p.1,v,false⟩ k
   simpa [applyC] using this
  have hP:valP (p::l) k n=if p.1=k then valW p.2 n else valP l k n:=by
   unfold valP getS
   rw [List.find?_cons]
   by_cases e:p.1=k <;> simp [e]
  rw [hP]
  by_cases e:p.1=k
  ·rw [if_pos e]
   have hno:valP l k n=none:=by
    unfold valP
    cases hg:getS l k with
    | none=>rfl
    | some ws=>exact absurd (List.mem_map.2 ⟨_,getS_some hg,rfl⟩) (e ▸ hn1)
   cases hv:valW p.2 n with
   | none=>rw [show stepP n r p=r by unfold stepP;rw [hv],foldP_get n k l hn2 h,hno]
   | some v=>rw [show stepP n r p=setR r p.1 v by unfold stepP;rw [hv],foldP_get n k l hn2 (setR_spec h _ _).1,hno,hset,if_pos e.symm];rfl
  ·rw [if_neg e]
   cases hv:valW p.2 n with
   | none=>rw [show stepP n r p=r by unfold stepP;rw [hv],foldP_get n k l hn2 h]
   | some v=>
    rw [show stepP n r p=setR r p.1 v by unfold stepP;rw [hv],foldP_get n k l hn2 (setR_spec h _ _).1,hset,if_neg (fun h=>e h.symm)]
theorem rowsP_rising (l:PS) (n:UInt32):Rising (rowsP l n):=foldP_rising n l List.Pairwise.nil
theorem PastOk.rows {l:PS} {now trim:UInt32} {H:List (List ChgM)} (h:PastOk l now trim H) {n:UInt32} (h1:trim≤n) (h2:n≤now):rowsP l n=rowsN H n.toNat:=by
 refine getR_ext (rowsP_rising l n) (rowsN_rising H _) fun k=>?_
 rw [← h.val k n h1 h2]
 unfold rowsP
 rw [foldP_get n k l h.nodup List.Pairwise.nil]
 cases valP l k n <;> rfl
def sinceH (H:List (List ChgM)) (n:Nat) (s:SpanM):Bool:=(H.drop n).any fun cs=>cs.any fun c=>inSpan s c.key
theorem PastOk.init:PastOk [] 0 0 []:=⟨rfl,UInt32.le_refl _,List.nodup_nil,by simp,by simp,by simp,fun k n _ _=>by simp [valP,getS,rowsN,changeR,getR],by simp,by simp,by simp,by simp⟩
structure ScanI (l:PS) (n:UInt32) (left:List ByteArray) (rows:List RowM):Prop where
 rising:Rising rows
 nodup:left.Nodup
 val:∀ k,getR rows k=if k ∈ left then none else valP l k n
theorem ScanI.first {l:PS} {left:List ByteArray} (h:left=l.map (·.1)) (hn:(l.map (·.1)).Nodup) (n:UInt32):ScanI l n left []:=by
 refine ⟨List.Pairwise.nil,h ▸ hn,fun k=>?_⟩
 split
 ·rfl
 ·rename_i hk
  unfold valP
  cases hg:getS l k with
  | none=>rfl
  | some ws=>exact absurd (h ▸ List.mem_map.2 ⟨_,getS_some hg,rfl⟩) hk
theorem getR_set {l:List RowM} (h:Rising l) (k:ByteArray) (v:UInt32) (j:ByteArray):getR (setR l k v) j=if j=k then some v else getR l j:=by
 have:=getR_apply h ⟨k,v,false⟩ j
 simpa [applyC] using this
theorem mid_nodup {A B:List ByteArray} {k:ByteArray} (h:(A++k::B).Nodup):(A++B).Nodup∧k ∉ A++B:=by
 obtain ⟨a1,a2,a3⟩:=List.nodup_append.1 h
 obtain ⟨b1,b2⟩:=List.nodup_cons.1 a2
 refine ⟨List.nodup_append.2 ⟨a1,b2,fun a ha b hb=>a3 a ha b (by simp [hb])⟩,fun hm=>?_⟩
 rcases List.mem_append.1 hm with hm | hm
 ·exact a3 _ hm _ (by simp) rfl
 ·exact b1 hm
theorem ScanI.put {l:PS} {n:UInt32} {left A B:List ByteArray} {rows:List RowM} {k:ByteArray} {ws:List WasM} (h:ScanI l n left rows) (hl:left=A++k::B) (hg:getS l k=some ws) (hf:(findP ws n).2=true):ScanI l n (A++B) (setR rows k (findP ws n).1):=by
 obtain ⟨h1,h2⟩:=mid_nodup (hl ▸ h.nodup)
 refine ⟨(setR_spec h.rising _ _).1,h1,fun j=>?_⟩
 rw [getR_set h.rising]
 by_cases e:j=k
 ·subst e
  rw [if_pos rfl,if_neg h2]
  unfold valP;rw [hg];simp [valW,hf]
 ·rw [if_neg e,h.val,hl]
  have:j ∈ A++k::B↔j ∈ A++B:=by simp [e]
  simp only [this]
theorem ScanI.skip {l:PS} {n:UInt32} {left A B:List ByteArray} {rows:List RowM} {k:ByteArray} {ws:List WasM} (h:ScanI l n left rows) (hl:left=A++k::B) (hg:getS l k=some ws) (hf:(findP ws n).2=false):ScanI l n (A++B) rows:=by
 obtain ⟨h1,h2⟩:=mid_nodup (hl ▸ h.nodup)
 refine ⟨h.rising,h1,fun j=>?_⟩
 rw [h.val,hl]
 by_cases e:j=k
 ·subst e
  rw [if_pos (by simp),if_neg h2]
  unfold valP;rw [hg];simp [valW,hf]
 ·have:j ∈ A++k::B↔j ∈ A++B:=by simp [e]
  simp only [this]
theorem ScanI.done {l:PS} {now trim n:UInt32} {H:List (List ChgM)} {rows:List RowM} (h:ScanI l n [] rows) (hP:PastOk l now trim H) (h1:trim≤n) (h2:n≤now):rows=rowsN H n.toNat:=by
 refine getR_ext h.rising (rowsN_rising H _) fun k=>?_
 rw [h.val,← hP.val k n h1 h2];simp
end Go.SL
namespace Go.SL
open Go
structure TxU (κ σ:Type) where
  id:κ
  q:Nat
  x:σ
section
variable {κ σ : Type} [DecidableEq κ]
def findU (ts:List (TxU κ σ)) (n:κ):Option (TxU κ σ):=ts.find? fun t=>decide (t.id=n)
def delU (ts:List (TxU κ σ)) (n:κ):List (TxU κ σ):=ts.eraseP fun t=>decide (t.id=n)
def kvU (t:TxU κ σ):κ × Value:=(t.id,.pointer (some ⟨t.q,0,none⟩))
def setU (ts:List (TxU κ σ)) (n:κ) (x:σ):List (TxU κ σ):=ts.map fun o=>if o.id=n then { o with x:=x } else o
theorem mget_kvU (ts:List (TxU κ σ)) (n:κ):mget (ts.map kvU) n=(findU ts n).map fun t=>.pointer (some ⟨t.q,0,none⟩):=by
  unfold mget findU
  induction ts with
  | nil=>rfl
  | cons t ts ih=>
    simp only [List.map_cons,List.find?_cons,kvU]
    by_cases h:t.id=n
    · simp [h]
    · simp only [h,decide_false];exact ih
theorem findU_mid {ts:List (TxU κ σ)} {n:κ} {t:TxU κ σ} (h:findU ts n=some t):t.id=n∧∃ A B,ts=A++t::B∧delU ts n=A++B∧∀ x ∈ A,x.id≠n:=by
  unfold findU at h
  induction ts with
  | nil=>simp at h
  | cons x ts ih=>
    rw [List.find?_cons] at h
    by_cases e:x.id=n
    · simp [e] at h;subst h
      exact ⟨e,[],ts,rfl,by simp [delU,e],by simp⟩
    · simp [e] at h
      obtain ⟨h1,A,B,h2,h3,h4⟩:=ih (by simpa using h)
      refine ⟨h1,x::A,B,by simp [h2],by simp only [delU,List.eraseP_cons,e,decide_false,cond_false,List.cons_append] at h3 ⊢;rw [h3],?_⟩
      intro y hy
      rcases List.mem_cons.1 hy with rfl | hy
      · exact e
      · exact h4 y hy
theorem findU_mem {ts:List (TxU κ σ)} {n:κ} {t:TxU κ σ} (h:findU ts n=some t):t ∈ ts:=List.mem_of_find?_eq_some h
theorem findU_none {ts:List (TxU κ σ)} {n:κ} (h:findU ts n=none):n ∉ ts.map (·.id):=by
  intro hm
  obtain ⟨t,ht,rfl⟩:=List.mem_map.1 hm
  have:=List.find?_eq_none.1 h t ht
  simp at this
theorem nodupU_mid {A B:List (TxU κ σ)} {t:TxU κ σ} (h:((A++t::B).map (·.id)).Nodup):∀ x ∈ A++B,x.id≠t.id:=by
  rw [List.map_append,List.map_cons] at h
  obtain ⟨h1,h2,h3⟩:=List.nodup_append.1 h
  have h4:=(List.nodup_cons.1 h2).1
  intro x hx e
  rcases List.mem_append.1 hx with hx | hx
  · exact h3 x.id (List.mem_map.2 ⟨x,hx,rfl⟩) t.id (by simp) e
  · exact h4 (e ▸ List.mem_map.2 ⟨x,hx,rfl⟩)
theorem findU_of {ts:List (TxU κ σ)} (hn:(ts.map (·.id)).Nodup) {t:TxU κ σ} (ht:t ∈ ts):findU ts t.id=some t:=by
  obtain ⟨A,B,rfl⟩:=List.append_of_mem ht
  unfold findU
  rw [List.find?_append,List.find?_eq_none.2 (fun x hx=>by have:=nodupU_mid hn x (by simp [hx]);simpa using this)]
  simp
theorem delU_sub {ts:List (TxU κ σ)} {n:κ}:(delU ts n).Sublist ts:=List.eraseP_sublist
theorem setU_mid {A B:List (TxU κ σ)} {t:TxU κ σ} (h:((A++t::B).map (·.id)).Nodup) (x:σ):setU (A++t::B) t.id x=A++{ t with x:=x }::B:=by
  have hn:=nodupU_mid h
  unfold setU
  rw [List.map_append,List.map_cons,if_pos rfl]
  have e1:∀ l:List (TxU κ σ),(∀ y ∈ l,y.id≠t.id)→l.map (fun o=>if o.id=t.id then { o with x:=x } else o)=l:=fun l hl=>by
    conv=>rhs;rw [← List.map_id l]
    apply List.map_congr_left
    intro o ho
    rw [if_neg (hl o ho)];rfl
  rw [e1 A (fun x hx=>hn x (by simp [hx])),e1 B (fun x hx=>hn x (by simp [hx]))]
theorem setU_ids (ts:List (TxU κ σ)) (n:κ) (x:σ):(setU ts n x).map (·.id)=ts.map (·.id):=by
  unfold setU
  rw [List.map_map]
  apply List.map_congr_left
  intro o _
  simp only [Function.comp]
  split <;> rfl
theorem setU_mem {ts:List (TxU κ σ)} {n:κ} {x:σ} {o:TxU κ σ} (h:o ∈ setU ts n x):(∃ t ∈ ts,t.id=n∧o={ t with x:=x })∨(o ∈ ts∧o.id≠n):=by
  unfold setU at h
  obtain ⟨t,ht,rfl⟩:=List.mem_map.1 h
  by_cases e:t.id=n
  · left;exact ⟨t,ht,e,by rw [if_pos e]⟩
  · right;rw [if_neg e];exact ⟨ht,e⟩
def TxsU (TP:TxU κ σ→List HP) (ts:List (TxU κ σ)):HP:=bun (ts.map fun t=>bun (TP t))
variable {TP : TxU κ σ → List HP}
theorem TxsU_nil {L:List HP} {S:Piece} (h:stars L S):stars (TxsU TP []::L) S:=bun_stars (L:=[]) h
end
end Go.SL
namespace Go.SL
open Go
theorem recs_framesB:∀ (ys:List (List UInt8)) (rest:List UInt8),(∀ y ∈ ys,(y).length≤16384)→recs rest=[]→recs ((ys.flatMap frame)++rest)=ys.map fun y=>(y,secs (y).length)
  | [],rest,_,h=>by simpa using h
  | y::ys,rest,hy,h=>by
    have ih:=recs_framesB ys rest (fun z hz=>hy z (by simp [hz])) h
    rw [List.flatMap_cons,List.append_assoc,recs_some (getF_frame (hy y (by simp)) _),List.drop_left' (frame_len _),ih]
    rfl
structure DiskLogB (d:DiskM) (at0:Nat) (ys:List (List UInt8)):Prop where
  ok:d.ok
  waits:d.waits=[]
  same:d.sure=d.seen
  len:d.sure.length=4096
  flat:d.seen.flatten=(ys.flatMap frame)++List.replicate ((4096 - at0) * 64) 0
  hat:(ys.map fun y=>secs (y).length).sum=at0
  le:at0≤4096
  yok:∀ y ∈ ys,(y).length≤16384
theorem frames_lenB:∀ (ys:List (List UInt8)),(ys.flatMap frame).length=(ys.map fun y=>secs (y).length).sum * 64
  | []=>rfl
  | y::ys=>by rw [List.flatMap_cons,List.length_append,frames_lenB ys,frame_len];simp;omega
theorem DiskLogB.recs {d:DiskM} {at0:Nat} {ys:List (List UInt8)} (h:DiskLogB d at0 ys):(SL.recs d.seen.flatten).map (·.1)=ys∧((SL.recs d.seen.flatten).map (·.2)).sum=at0∧cleanTo d.seen.flatten d at0 (d.sure.length - at0)=d:=by
  have hr:SL.recs d.seen.flatten=ys.map fun y=>(y,secs (y).length):=by
    rw [h.flat]
    exact recs_framesB ys _ (fun y hy=>h.yok y hy) (recs_zeros _)
  refine ⟨by rw [hr,List.map_map];exact List.map_id' ys,by rw [hr,← h.hat];simp [Function.comp_def],clean_id _ _ _ _ fun j hj=>?_⟩
  have hl:=h.len
  rw [h.flat,List.drop_append,frames_lenB,h.hat,List.drop_of_length_le (by rw [frames_lenB,h.hat];omega),List.nil_append,List.drop_replicate,List.take_replicate]
  congr 1
  omega
theorem DiskLogB.sync {d:DiskM} {at0:Nat} {ys:List (List UInt8)} (h:DiskLogB d at0 ys):d.sync=d:=by
  have h1:=h.same;have h2:=h.waits
  cases d;simp only [DiskM.sync] at h1 h2 ⊢;subst h1 h2;rfl
theorem DiskLogB.first:DiskLogB (newDisk 4096).sync 0 []:=
  ⟨newDisk_quiet.ok.sync,rfl,rfl,List.length_replicate,by show (newDisk 4096).seen.flatten=_;rw [new_flat];rfl,rfl,Nat.zero_le _,by simp⟩
theorem DiskLogB.add {d:DiskM} {at0:Nat} {ys:List (List UInt8)} (h:DiskLogB d at0 ys) {y:List UInt8} (hl:(y).length≤16384) (hfit:at0+secs (y).length≤d.sure.length):DiskLogB (addW d at0 (frame (y)) (secs (y).length)).sync (at0+secs (y).length) (ys++[y]):=by
  have hlen:=h.len
  have hsl:=h.ok.len
  obtain ⟨e1,e2⟩:=addW_flat (secs (y).length) d at0 (frame (y)) (frame_len _) (by omega)
  have hfr:(ys.flatMap frame).length=at0 * 64:=by rw [frames_lenB,h.hat]
  refine ⟨(addW_ok _ _ _ _ h.ok).sync,rfl,rfl,by show (addW _ _ _ _).seen.length=_;rw [e2];omega,?_,by rw [List.map_append,List.sum_append,h.hat];simp,by omega,fun z hz=>?_⟩
  · show (addW _ _ _ _).seen.flatten=_
    rw [e1,flat_take64 _ _ h.ok.l2,flat_drop64 _ _ h.ok.l2,h.flat,List.take_left' hfr,List.drop_append,List.drop_of_length_le (by rw [hfr];omega),List.nil_append,hfr,List.drop_replicate,List.flatMap_append]
    simp only [List.flatMap_cons,List.flatMap_nil,List.append_nil]
    congr 2
    omega
  · rcases List.mem_append.1 hz with hz | hz
    · exact h.yok z hz
    · simp at hz;subst hz;exact hl
end Go.SL
