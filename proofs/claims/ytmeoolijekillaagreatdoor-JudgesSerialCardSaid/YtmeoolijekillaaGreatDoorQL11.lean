import Derived.Test.YtmeoolijekillaaGreatDoorQL10
set_option linter.unusedSimpArgs false
set_option linter.unusedVariables false
namespace Go.SL.Fc
open Go Go.Proofs Go.SL
theorem a34:aggOf Tryz.prog 34=some none:=by kernel_rfl
theorem k207:callable Tryz.prog 207=true:=by kernel_rfl
theorem k259:callable Tryz.prog 259=true:=by kernel_rfl
theorem k260:callable Tryz.prog 260=true:=by kernel_rfl
theorem k261:callable Tryz.prog 261=true:=by kernel_rfl
theorem k305:callable Tryz.prog 305=true:=by kernel_rfl
theorem k307:callable Tryz.prog 307=true:=by kernel_rfl
theorem s34:szOf Tryz.prog 34=some 1:=by kernel_rfl
theorem s5:szOf Tryz.prog 5=some 1:=by kernel_rfl
theorem z34:zeroOf Tryz.prog 34=some [.slice none 0 0]:=by kernel_rfl
end Go.SL.Fc
namespace Go.SL
open Go Go.Proofs Fc
theorem tell_spec {g:World} {b:Nat} {u:Value} {xs:List UInt8} (lo:Nat) (n:UInt32) (h:lo+4≤xs.length) (hb:xs.length≤68719476736):Spec Tryz.prog g 305 [.int .i64 lo,.int .u32 n.toNat,.pointer (some ⟨b,0,none⟩)] [cl b 34 [u],Sl 5 1 eB u (xs)] fun K R=>K (.tuple #[]) (cl b 34 [u]::Sl 5 1 eB u (over xs lo (numB n 4))::R):=by
 refine Spec.intro Tryz.func305 rfl Tryz.ntmps305 rfl fun R K hK=>?_
 refine WP.seq<|WP.reg<|WL.e e_move<|WL.next<|WP.block ?_
 rw [show Sl 5 1 eB u (xs)=Sl 5 1 eB u (over xs lo ((numB n 4).take 0)) by rw [List.take_zero,over_nil xs lo (by omega)]]
 refine WP.loopK (fun (i:Nat)=>[(6,.int .i64 i)]) (fun (i:Nat)=>cl b 34 [u]::Sl 5 1 eB u (over xs lo ((numB n 4).take i))::R) [(0,_),(1,_),(2,_)] (fun (i:Nat)=>i≤4) (fun (i:Nat)=>4 - i) 0 (by omega) ?_
 intro i hx1
 refine WP.seq<|WP.reg<|WL.e e_lss<|WL.next<|WP.seq ?_
 refine WP.cond rfl (fun h1=>?_) (fun h1=>?_)
 ·have hlt:i < 4:=by simp at h1;omega
  refine WP.skip<|PO.next<|WP.seq<|WP.block<|WP.seq<|WP.reg<|WL.e e_move<|WL.e e_assign<|WL.next<|WP.draws mixedOk 12<|RW.e 0 rfl (e_load a34)<|RW.e 1 rfl e_move<|RW.e 2 rfl e_move<|RW.e 3 rfl (e_add (c:=((lo+i:Nat):Int)) rfl rfl (by rw [w_i64 (by omega) (by omega)];omega))<|RW.e 4 rfl e_move<|RW.e 5 rfl e_move<|RW.e 6 rfl (e_sub (c:=((3 - i:Nat):Int)) rfl rfl (by rw [w_i64 (by omega) (by omega)];omega))<|RW.e 7 rfl (e_mul (c:=((8 * (3 - i):Nat):Int)) rfl rfl (by rw [w_i64 (by omega) (by omega)];omega))<|RW.e 8 rfl (e_shrN (k:=.u32) (m:=8 * (3 - i)) (by simp [IntKind.bits];omega))<|RW.e 9 rfl (e_c8 (by rw [Tryz.underlying35];rfl) Tryz.underlying5)<|RW.e 10 rfl (el_ia (j:=lo+i) (xs:=over xs lo ((numB n 4).take i)) sl34 sl_rl (by rw [over_len _ _ _ (by omega)];omega)) ?_
  refine RW.any (is:=[11]) rfl ⟨?_,trivial⟩
  refine RWat.h' rfl rfl rfl ?_
  refine (hl_store (j:=lo+i) (xs:=over xs lo ((numB n 4).take i)) (UInt8.ofNat (n.toNat / 2 ^ (8 * (3 - i)))) s5 eB_ok (by rw [over_len _ _ _ (by omega)];omega) ?_)
  rw [over_set xs (numB n 4) lo i _ (by rw [numB_len];exact h) (by (obtain rfl | rfl | rfl | rfl:i=0∨i=1∨i=2∨i=3:=by omega) <;> rfl)]
  refine ⟨trivial,?_⟩
  refine RW.done<|PO.blockN<|PO.next<|WP.reg<|WL.e (e_add rfl rfl (w_i64 (by omega) (by omega)))<|WL.e e_move<|WL.nil ?_
  exact PO.againK (i+1) (by omega) (by omega)
 ·obtain rfl:i=4:=by simp at h1;omega
  rw [show (numB n 4).take 4=numB n 4 from List.take_of_length_le (by rw [numB_len];omega)]
  refine WP.exit<|PO.past nofun<|PO.round nofun<|PO.blockX ?_
  exact PO.fin Tryz.results305 rv_nil hK
theorem CloneB_spec {g:World} {A:HP} {u:Value} {xs:List UInt8} (hA:RL A 1 eB u xs) (hb:xs.length≤68719476736):Spec Tryz.prog g 207 [u] [A] fun K R=>∀ a m c,K (.slice a m c) (Sl 5 1 eB (.slice a m c) xs::A::R):=by
 refine Spec.intro Tryz.func207 rfl Tryz.ntmps207 rfl fun R K hK=>?_
 refine WP.seq<|WP.reg<|WL.e e_assign<|WL.next<|WP.seq<|WP.seq<|WP.reg<|WL.e e_move<|WL.e (e_slnil sl34 hA)<|WL.next ?_
 refine WP.cond rfl (fun h=>?_) (fun h=>?_)
 ·refine WP.know (φ:=xs=[]) (Pick.know (A:=A) (by exact .z) fun S hS=>?_) fun hx=>?_
  ·rcases hA S hS with ⟨h0,_⟩ | ⟨b,o,c,l,t,e,_⟩
   ·simpa using h0
   ·rw [e] at h;cases h
  subst hx
  refine WP.nils 5 1 eB none ?_
  refine WP.seq<|WP.reg<|WL.e e_assign<|WL.next<|WP.ret<|PO.past nofun ?_
  exact PO.fin Tryz.results207 (rv_tmp rv_nil) (hK none 0 0)
 ·skip
  refine WP.skip<|PO.next<|WP.seq<|WP.reg ?_
  refine WL.h (h_bs0 sl34 (enc:=eB) fun a1 n1 c1=>?_)
  refine WL.e e_move ?_
  refine WL.h (hl_append (xs:=[]) (ys:=xs) sl34 eB_ok z5 hA (by simp;omega) fun a2 n2 c2=>?_)
  rw [List.nil_append]
  refine WL.e e_assign<|WL.next<|WP.ret ?_
  exact PO.fin Tryz.results207 (rv_tmp rv_nil) (hK a2 n2 c2)
theorem EqualB_spec {g:World} {A B:HP} {u v:Value} {xs ys:List UInt8} (hA:RL A 1 eB u xs) (hB:RL B 1 eB v ys) (hb:xs.length≤68719476736):Spec Tryz.prog g 261 [u,v] [A,B] fun K R=>K (.bool (xs == ys)) (A::B::R):=by
 refine Spec.intro Tryz.func261 rfl Tryz.ntmps261 rfl fun R K hK=>?_
 refine WP.seq<|WP.reg<|WL.e e_assign<|WL.next<|WP.seq<|WP.seq<|WP.reg<|WL.e e_move<|WL.e (el_len sl34 hA)<|WL.e e_move<|WL.e (el_len sl34 hB)<|WL.e e_neq<|WL.next ?_
 refine WP.cond rfl (fun h=>?_) (fun h=>?_)
 ·skip
  refine WP.seq<|WP.reg<|WL.e e_assign<|WL.next<|WP.ret<|PO.past nofun ?_
  exact PO.finE Tryz.results261 (rv_tmp rv_nil) (congrArg Value.bool (Eq.symm (beq_eq_false_iff_ne.2 (by rintro rfl;simp at h)))) hK
 ·replace h:xs.length=ys.length:=by simp at h;omega
  refine WP.skip<|PO.next<|WP.seq<|WP.seq<|WP.reg<|WL.e e_move<|WL.e (el_len sl34 hA)<|WL.e e_move<|WL.next<|WP.block<|WP.loopK (fun (i:Nat)=>[(13,.int .i64 i)]) (fun (i:Nat)=>A::B::R) [(0,_),(1,_),(12,_)] (fun (i:Nat)=>i≤xs.length∧xs.take i=ys.take i) (fun (i:Nat)=>xs.length - i) 0 (⟨by omega,by simp⟩) ?_
  rintro i ⟨hx1,hx2⟩
  refine WP.seq<|WP.reg<|WL.e e_lss<|WL.next<|WP.seq ?_
  refine WP.cond rfl (fun h2=>?_) (fun h2=>?_)
  ·have hlt:i < xs.length:=by simp at h2;omega
   obtain ⟨x,hx⟩:∃ c,xs[i]?=some c:=⟨xs[i],List.getElem?_eq_getElem hlt⟩
   obtain ⟨y,hy⟩:∃ c,ys[i]?=some c:=⟨ys[i],List.getElem?_eq_getElem (by omega)⟩
   refine WP.skip<|PO.next<|WP.seq<|WP.block<|WP.seq<|WP.reg<|WL.e e_move<|WL.e e_assign<|WL.next<|WP.seq<|WP.draws mixedOk 9<|RW.e 0 rfl e_move<|RW.e 1 rfl e_move<|RW.e 2 rfl (el_ia sl34 hA hlt)<|RW.e 3 rfl (el_load0 a5 eB_ok hA hx)<|RW.e 4 rfl e_move<|RW.e 5 rfl e_move<|RW.e 6 rfl (el_ia (j:=i) sl34 hB (by omega))<|RW.e 7 rfl (el_load0 a5 eB_ok hB hy)<|RW.e 8 rfl (e_neq8)<|RW.done<|PO.next ?_
   refine WP.cond rfl (fun h3=>?_) (fun h3=>?_)
   ·skip
    refine WP.seq<|WP.reg<|WL.e e_assign<|WL.next<|WP.ret<|PO.blockR<|PO.past nofun<|PO.round nofun<|PO.blockR<|PO.past nofun ?_
    exact PO.finE Tryz.results261 (rv_tmp rv_nil) (congrArg Value.bool (Eq.symm (beq_eq_false_iff_ne.2 (by rintro rfl;rw [hx] at hy;cases hy;simp at h3)))) hK
   ·skip
    refine WP.skip<|PO.blockN<|PO.next<|WP.reg<|WL.e (e_add rfl rfl (w_i64 (by omega) (by omega)))<|WL.e e_move<|WL.nil ?_
    exact PO.againK (i+1) ⟨by omega,by rw [take_snoc hx,take_snoc hy,hx2,show x=y by simpa using h3]⟩ (by omega)
  ·have hfin:xs=ys:=by rw [List.take_of_length_le (by simp at h2;omega),List.take_of_length_le (by simp at h2;omega)] at hx2;exact hx2
   refine WP.exit<|PO.past nofun<|PO.round nofun<|PO.blockX<|PO.next<|WP.seq<|WP.reg<|WL.e e_assign<|WL.next<|WP.ret ?_
   exact PO.finE Tryz.results261 (rv_tmp rv_nil) (by rw [hfin];simp) hK
theorem BEqual_spec {g:World} {A B:HP} {u v:Value} {xs ys:List UInt8} (hA:RL A 1 eB u xs) (hB:RL B 1 eB v ys):Spec Tryz.prog g 155 [u,v] [A,B] fun K R=>K (.bool (xs == ys)) (A::B::R):=by
 refine Spec.intro Tryz.func155 rfl Tryz.ntmps155 rfl fun R K hK=>?_
 refine WP.seq<|WP.reg<|WL.e e_assign<|WL.next<|WP.seq<|WP.reg<|WL.e e_move<|WL.e (e_b2s Tryz.underlying34 Tryz.underlying5 Tryz.underlying9 hA)<|WL.e e_move<|WL.e (e_b2s Tryz.underlying34 Tryz.underlying5 Tryz.underlying9 hB)<|WL.e e_seq<|WL.e e_assign<|WL.next<|WP.ret ?_
 exact PO.finE Tryz.results155 (rv_tmp rv_nil) (by simp [text_beq]) hK
theorem Put_spec {g:World} {A:HP} {u:Value} {b:List UInt8} (hA:RL A 1 eB u b):Spec Tryz.prog g 260 [u] [A] fun K R=>(16384 < b.length→K (.tuple #[.slice none 0 0,.int .i64 3]) (A::R))∧(b.length≤16384→∀ a m c,K (.tuple #[.slice a m c,.int .i64 0]) (Sl 5 1 eB (.slice a m c) (frame b)::A::R)):=by
 refine Spec.intro Tryz.func260 rfl Tryz.ntmps260 rfl fun R K hK=>?_
 refine WP.seq<|WP.reg<|WL.e e_assign<|WL.e e_assign<|WL.next<|WP.seq<|WP.reg<|WL.e e_move<|WL.e (el_len sl34 hA)<|WL.e e_assign<|WL.next<|WP.seq<|WP.seq<|WP.reg<|WL.e e_move<|WL.e e_gtr<|WL.next ?_
 refine WP.cond rfl (fun h=>?_) (fun h=>?_)
 ·skip
  refine WP.seq<|WP.reg<|WL.e e_assign<|WL.e e_assign<|WL.next<|WP.ret<|PO.past nofun ?_
  exact PO.fin Tryz.results260 (rv_tmp (rv_tmp rv_nil)) (hK.1 (by simp at h;omega))
 ·replace h:b.length≤16384:=by simp at h;omega
  have hs1:=secs_le b.length
  have hs2:=secs_ub b.length
  refine WP.skip<|PO.next<|WP.seq<|WP.reg<|WL.e e_move ?_
  refine WL.h (h_call (sectors_spec b.length (by omega)) k259 ?_)
  refine WL.e (e_mul (c:=((secs b.length * 64:Nat):Int)) rfl rfl (by rw [w_i64 (by omega) (by omega)];omega)) ?_
  refine WL.h (hl_make (enc:=eB) (n:=secs b.length * 64) (0:UInt8) sl34 z5 (by omega) fun a5 n5 c5=>?_)
  refine WL.h (h_alloc z34 fun b1=>?_)
  refine WL.h' (h_store s34 ?_)
  refine WL.next<|WP.seq<|WP.reg<|WL.e e_makeFunc<|WL.e e_assign<|WL.next<|WP.seq<|WP.reg<|WL.e e_move<|WL.e e_move<|WL.e (e_c32 (by rw [Tryz.underlying3];rfl) Tryz.underlying35) ?_
  refine WL.h (h_callv (fs:=[]) (cs:=[.pointer (some ⟨b1,0,none⟩)]) (args:=[.int .i64 (0:Nat),.int .u32 (UInt32.ofNat b.length).toNat]) (tell_spec (xs:=List.replicate (secs b.length * 64) (0:UInt8)) 0 (UInt32.ofNat b.length) (by simp;omega) (by simp;omega)) k305 ?_)
  rw [show numB (UInt32.ofNat b.length) 4=head4 b from rfl,frame1]
  refine WL.next<|WP.seq<|WP.reg<|WL.e e_move<|WL.e (e_load a34)<|WL.e (el_to3 (hi:=4) (xs:=head4 b++List.replicate (secs b.length * 64 - 4) 0) sl34 sl_rl (by simp;omega)) ?_
  refine WL.h (h_call (SumOf_spec (b:=head4 b) (by have:=RL.sub (lo:=0) (hi:=4) (mx:=some 4) eB_ok (sl_rl (E:=5) (z:=1) (enc:=eB) (u:=.slice a5 n5 c5) (xs:=head4 b++List.replicate (secs b.length * 64 - 4) 0)) (by omega) (by simp;omega) (by rintro m ⟨⟩;simp;omega);rwa [List.drop_zero,List.take_left' (head4_len b)] at this) (by rw [head4_len];omega)) k307 ?_)
  refine WL.e e_move ?_
  refine WL.h (h_call (On_spec (sumOn 0 (head4 b)) hA (by omega)) k306 ?_)
  refine WL.h (h_callv (fs:=[]) (cs:=[.pointer (some ⟨b1,0,none⟩)]) (args:=[.int .i64 (4:Nat),.int .u32 (sumOn (sumOn 0 (head4 b)) b).toNat]) (tell_spec (xs:=head4 b++List.replicate (secs b.length * 64 - 4) 0) 4 (sumOn (sumOn 0 (head4 b)) b) (by simp [head4_len];omega) (by simp [head4_len];omega)) k305 ?_)
  rw [show numB (sumOn (sumOn 0 (head4 b)) b) 4=sum4 b from rfl,frame2]
  refine WL.next<|WP.seq<|WP.reg<|WL.e (e_load a34)<|WL.e (el_from (lo:=8) (xs:=head4 b++sum4 b++List.replicate (secs b.length * 64 - 8) 0) sl34 sl_rl (by simp [head4_len,sum4_len];omega))<|WL.e e_move ?_
  refine WL.h (hl_copy (lo:=8) (xs:=head4 b++sum4 b++List.replicate (secs b.length * 64 - 8) 0) sl34 eB_ok (by simp [head4_len,sum4_len];omega) hA ?_)
  rw [frame3]
  refine WL.next<|WP.seq<|WP.reg<|WL.e (e_load a34)<|WL.e e_assign<|WL.e e_assign<|WL.next<|WP.ret ?_
  exact PO.fin Tryz.results260 (rv_tmp (rv_tmp rv_nil)) (hK.2 h a5 n5 c5)
theorem Get_spec {g:World} {A:HP} {u:Value} {b:List UInt8} (hA:RL A 1 eB u b) (hb:b.length≤68719476736):Spec Tryz.prog g 209 [u] [A] fun K R=>(getF b=none→K (.tuple #[.slice none 0 0,.int .i64 0,.int .i64 4]) (A::R))∧(∀ rec many,getF b=some (rec,many)→∀ a m c,K (.tuple #[.slice a m c,.int .i64 many,.int .i64 0]) (Sl 5 1 eB (.slice a m c) (rec)::A::R)):=by
 refine Spec.intro Tryz.func209 rfl Tryz.ntmps209 rfl fun R K hK=>?_
 refine WP.seq<|WP.reg<|WL.e e_assign<|WL.e e_assign<|WL.e e_assign<|WL.next<|WP.seq<|WP.seq<|WP.reg<|WL.e e_move<|WL.e (el_len sl34 hA)<|WL.e e_lss<|WL.next ?_
 refine WP.cond rfl (fun h1=>?_) (fun h1=>?_)
 ·replace h1:b.length < 8:=by simp at h1;omega
  refine WP.seq<|WP.reg<|WL.e e_assign<|WL.e e_assign<|WL.e e_assign<|WL.next<|WP.ret<|PO.past nofun ?_
  exact PO.fin Tryz.results209 (rv_tmp (rv_tmp (rv_tmp rv_nil))) (hK.1 (by simp [getF,h1]))
 ·replace h1:¬ b.length < 8:=by simp at h1;omega
  have hA4:RL A 1 eB (subV u 0 4 none 1) (b.take 4):=RL.to_ eB_ok hA (by omega)
  have hl4:(b.take 4).length=4:=by simp;omega
  refine WP.skip<|PO.next<|WP.seq<|WP.reg<|WL.e e_assign<|WL.next<|WP.seq<|WP.seq<|WP.reg<|WL.e e_move<|WL.e (el_to (hi:=4) sl34 hA (by omega))<|WL.e (el_len sl34 hA4)<|WL.e e_move<|WL.next<|WP.block<|WP.loopK (fun (x:Nat × UInt32)=>[(17,.int .i64 x.1),(5,.int .u32 x.2.toNat)]) (fun (x:Nat × UInt32)=>A::R) [(0,_),(2,_),(3,_),(4,_),(15,_),(16,_)] (fun (x:Nat × UInt32)=>x.1≤4∧x.2=beN ((b.take 4).take x.1)) (fun (x:Nat × UInt32)=>4 - x.1) (0,0) (⟨by omega,by simp [beN]⟩) ?_
  rintro ⟨x,n⟩ ⟨hx1,hx2⟩
  simp only at hx1 hx2
  dsimp only
  refine WP.seq<|WP.reg<|WL.e e_lss<|WL.next<|WP.seq ?_
  refine WP.cond rfl (fun h2=>?_) (fun h2=>?_)
  ·have hlt:x < (b.take 4).length:=by simp at h2;omega
   obtain ⟨c,hc⟩:∃ c,(b.take 4)[x]?=some c:=⟨_,List.getElem?_eq_getElem hlt⟩
   refine WP.skip<|PO.next<|WP.seq<|WP.block<|WP.seq<|WP.reg<|WL.e (el_ia sl34 hA4 hlt)<|WL.e (el_load0 a5 eB_ok hA4 hc)<|WL.e e_assign<|WL.next<|WP.reg<|WL.e e_move<|WL.e (e_shl32 (m:=8) (by decide))<|WL.e e_move<|WL.e (e_c8to32 (by rw [Tryz.underlying5];rfl) Tryz.underlying35)<|WL.e e_or32<|WL.e e_assign<|WL.nil<|PO.blockN<|PO.next<|WP.reg<|WL.e (e_add rfl rfl (w_i64 (by omega) (by omega)))<|WL.e e_move<|WL.nil ?_
   exact PO.againK (x+1,(n <<< 8) ||| c.toUInt32) ⟨by simp only;omega,by simp only;rw [take_snoc hc,beN,List.foldl_append,← beN,← hx2];rfl⟩ (by simp only;omega)
  ·obtain rfl:n=beN (b.take 4):=by rw [hx2,List.take_of_length_le (by simp at h2;omega)]
   clear hx2
   refine WP.exit<|PO.past nofun<|PO.round nofun<|PO.blockX<|PO.next<|WP.seq<|WP.seq<|WP.reg<|WL.e e_move<|WL.e (e_gtr32 (b:=16384))<|WL.next ?_
   refine WP.cond rfl (fun h3=>?_) (fun h3=>?_)
   ·replace h3:16384 < (beN (b.take 4)).toNat:=by simpa [UInt32.lt_iff_toNat_lt] using h3
    refine WP.seq<|WP.reg<|WL.e e_assign<|WL.e e_assign<|WL.e e_assign<|WL.next<|WP.ret<|PO.past nofun ?_
    exact PO.fin Tryz.results209 (rv_tmp (rv_tmp (rv_tmp rv_nil))) (hK.1 (by simp [getF,h1,h3]))
   ·replace h3:¬ 16384 < (beN (b.take 4)).toNat:=by simpa [UInt32.lt_iff_toNat_lt] using h3
    obtain ⟨n,hn⟩:∃ n,n=(beN (b.take 4)).toNat:=⟨_,rfl⟩
    rw [← hn] at h3
    rw [← hn]
    have hs1:=secs_le n
    have hs2:=secs_ub n
    refine WP.skip<|PO.next<|WP.seq<|WP.reg<|WL.e e_move<|WL.e (e_conv (c:=(n:Int)) (by rw [Tryz.underlying35];rfl) Tryz.underlying3 rfl (w_i64 (by omega) (by omega)))<|WL.e (e_add (c:=((8+n:Nat):Int)) rfl rfl (by rw [w_i64 (by omega) (by omega)];omega))<|WL.e e_assign<|WL.next<|WP.seq<|WP.reg<|WL.e e_move<|WL.e (e_conv (c:=(n:Int)) (by rw [Tryz.underlying35];rfl) Tryz.underlying3 rfl (w_i64 (by omega) (by omega))) ?_
    refine WL.h (h_call (sectors_spec n (by omega)) k259 ?_)
    refine WL.e e_assign<|WL.next<|WP.seq<|WP.seq<|WP.reg<|WL.e e_move<|WL.e (e_mul (c:=((secs n * 64:Nat):Int)) rfl rfl (by rw [w_i64 (by omega) (by omega)];omega))<|WL.e e_move<|WL.e (el_len sl34 hA)<|WL.e e_gtr<|WL.next ?_
    refine WP.cond rfl (fun h4=>?_) (fun h4=>?_)
    ·replace h4:b.length < secs n * 64:=by simp at h4;omega
     refine WP.seq<|WP.reg<|WL.e e_assign<|WL.e e_assign<|WL.e e_assign<|WL.next<|WP.ret<|PO.past nofun ?_
     exact PO.fin Tryz.results209 (rv_tmp (rv_tmp (rv_tmp rv_nil))) (hK.1 (by simp [getF,h1,← hn,h3,h4]))
    ·replace h4:¬ b.length < secs n * 64:=by simp at h4;omega
     have hA8:RL A 1 eB (subV u 8 (8+n) (some (8+n)) 1) ((b.drop 8).take n):=by have:=RL.sub (lo:=8) (hi:=8+n) (mx:=some (8+n)) eB_ok hA (by omega) (by omega) (by rintro m ⟨⟩;omega);rwa [show 8+n - 8=n by omega] at this
     refine WP.skip<|PO.next<|WP.seq<|WP.reg<|WL.e e_move<|WL.e e_move<|WL.e e_move<|WL.e (el_fromto3 (lo:=8) (hi:=8+n) sl34 hA (by omega) (by omega)) ?_
     refine WL.h (h_call (CloneB_spec hA8 (by simp;omega)) k207 ?_)
     intro a6 n6 c6
     refine WL.e e_assign<|WL.next<|WP.seq<|WP.reg<|WL.e e_move ?_
     refine WL.h (h_call (Put_spec (b:=(b.drop 8).take n) sl_rl) k260 ?_)
     refine ⟨fun hx=>absurd hx (by simp;omega),fun _ a7 n7 c7=>?_⟩
     refine WL.e e_move<|WL.e e_extract<|WL.e e_extract<|WL.e e_assign<|WL.e e_assign<|WL.next<|WP.seq<|WP.seq<|WP.reg<|WL.e e_move<|WL.e e_move<|WL.e e_move<|WL.e (e_mul (c:=((secs n * 64:Nat):Int)) rfl rfl (by rw [w_i64 (by omega) (by omega)];omega))<|WL.e (el_to (hi:=secs n * 64) sl34 hA (by omega)) ?_
     refine WL.h (h_call (EqualB_spec (xs:=frame ((b.drop 8).take n)) sl_rl (RL.to_ (hi:=secs n * 64) eB_ok hA (by omega)) (by rw [frame_len,show ((b.drop 8).take n).length=n by simp;omega];omega)) k261 ?_)
     refine WL.e e_not<|WL.next ?_
     refine WP.cond rfl (fun h5=>?_) (fun h5=>?_)
     ·skip
      refine WP.seq<|WP.reg<|WL.e e_assign<|WL.e e_assign<|WL.e e_assign<|WL.next<|WP.ret<|PO.past nofun ?_
      exact PO.fin Tryz.results209 (rv_tmp (rv_tmp (rv_tmp rv_nil))) (hK.1 (by simp at h5;simp [getF,h1,← hn,h3,h4,h5]))
     ·skip
      refine WP.skip<|PO.next<|WP.seq<|WP.reg<|WL.e e_move<|WL.e e_move<|WL.e e_assign<|WL.e e_assign<|WL.e e_assign<|WL.next<|WP.ret ?_
      exact PO.fin Tryz.results209 (rv_tmp (rv_tmp (rv_tmp rv_nil))) (hK.2 ((b.drop 8).take n) (secs n) (by simp at h5;simp [getF,h1,← hn,h3,h4,h5]) a6 n6 c6)
end Go.SL
set_option linter.unusedSectionVars false
namespace Go.SL
open Go
def pad (b:List UInt8):List UInt8:=b.take 64++List.replicate (64 - b.length) 0
theorem pad_len (b:List UInt8):(pad b).length=64:=by simp [pad];omega
theorem pad_id {b:List UInt8} (h:b.length=64):pad b=b:=by simp [pad,h,List.take_of_length_le]
theorem pad_pad (b:List UInt8):pad (pad b)=pad b:=pad_id (pad_len b)
def pieceC (p:List UInt8):List Value:=(pad p).flatMap eB
theorem pieceC_pad (p:List UInt8):pieceC (pad p)=pieceC p:=by simp [pieceC,pad_pad]
theorem pieceE:EncOk 64 pieceC:=⟨fun p=>by simp [pieceC,flat_len eB_ok,pad_len],fun p=>ones_flat eB_ok _⟩
def waitC (w:Nat × List UInt8):List Value:=.int .i64 w.1::pieceC w.2
theorem waitE:EncOk 65 waitC:=⟨fun p=>by simp [waitC,pieceE.len],fun p=>by simp [waitC,ones,pieceE.one];rfl⟩
theorem piece0:pieceC (List.replicate 64 0)=List.replicate 64 (.int .u8 0):=by rw [pieceC,pad_id (by simp)];rfl
theorem rl_piece {A:HP} {u:Value} {xs:List (List UInt8)} {i:Nat} {b:List UInt8} (h:RL A 64 pieceC u xs) (hb:xs[i]?=some b):RL A 1 eB (slA u (i * 64) 64) (pad b):=by
  have hlt:=idx_lt hb
  have:=rd_el (k:=i * 64) (n:=64) (z1:=1) h (by omega) (by decide)
  rw [show 64 * 1=64 from rfl,flat_el pieceE hb] at this
  unfold RL;rw [pad_len];exact this
structure DiskM where
  sure:List (List UInt8)
  seen:List (List UInt8)
  waits:List (Nat × List UInt8)
def newDisk (n:Nat):DiskM:=⟨List.replicate n (List.replicate 64 0),List.replicate n (List.replicate 64 0),[]⟩
def DiskM.write (d:DiskM) (i:Nat) (b:List UInt8):DiskM:={ d with seen:=d.seen.set i (pad b),waits:=d.waits++[(i,pad b)] }
def DiskM.sync (d:DiskM):DiskM:=⟨d.seen,d.seen,[]⟩
theorem copy_piece (b:List UInt8) (h:b.length≤64):splice (List.replicate 64 (.int .u8 0)) 0 ((b.flatMap eB).take (Nat.min b.length 64 * 1))=pieceC b:=by
  have hm:Nat.min b.length 64=b.length:=Nat.min_eq_left h
  rw [hm,Nat.mul_one,List.take_of_length_le (by rw [flat_len eB_ok];omega),splice_eq _ _ _ (by rw [flat_len eB_ok];simp;omega),flat_len eB_ok]
  simp only [pieceC,pad,List.take_of_length_le h,List.flatMap_append,List.take_zero,List.nil_append,Nat.zero_add,Nat.mul_one,List.drop_replicate]
  congr 1
  generalize 64 - b.length=k
  induction k with
  | zero=>rfl
  | succ k ih=>rw [List.replicate_succ,List.replicate_succ,List.flatMap_cons,ih];rfl
end Go.SL
namespace Go.SL.Fc
open Go Go.Proofs Go.SL
theorem a162:aggOf Tryz.prog 162=some none:=by kernel_rfl
theorem a163:aggOf Tryz.prog 163=some none:=by kernel_rfl
theorem a306:aggOf Tryz.prog 306=some (some 64):=by kernel_rfl
theorem ar306:arrOf Tryz.prog 306=some (5,64,1):=by kernel_rfl
theorem f165_0:fldOf Tryz.prog 165 0=some 0:=by kernel_rfl
theorem f165_1:fldOf Tryz.prog 165 1=some 1:=by kernel_rfl
theorem f165_2:fldOf Tryz.prog 165 2=some 2:=by kernel_rfl
theorem k152:callable Tryz.prog 152=true:=by kernel_rfl
theorem k206:callable Tryz.prog 206=true:=by kernel_rfl
theorem p165:placesOf Tryz.prog 165=some [(0,1),(1,1),(2,1)]:=by kernel_rfl
theorem p311:placesOf Tryz.prog 311=some [(0,1),(1,64)]:=by kernel_rfl
theorem pt85:isPtr Tryz.prog 85=true:=by kernel_rfl
theorem s163:szOf Tryz.prog 163=some 1:=by kernel_rfl
theorem s306:szOf Tryz.prog 306=some 64:=by kernel_rfl
theorem sl162:slOf Tryz.prog 162=some (306,64,64):=by kernel_rfl
theorem sl163:slOf Tryz.prog 163=some (311,65,72):=by kernel_rfl
theorem z165:zeroOf Tryz.prog 165=some [.slice none 0 0,.slice none 0 0,.slice none 0 0]:=by kernel_rfl
theorem z306:zeroOf Tryz.prog 306=some (List.replicate 64 (.int .u8 0)):=by kernel_rfl
theorem z311:zeroOf Tryz.prog 311=some [.int .i64 0,.int .u8 0,.int .u8 0,.int .u8 0,.int .u8 0,.int .u8 0,.int .u8 0,.int .u8 0,.int .u8 0,.int .u8 0,.int .u8 0,.int .u8 0,.int .u8 0,.int .u8 0,.int .u8 0,.int .u8 0,.int .u8 0,.int .u8 0,.int .u8 0,.int .u8 0,.int .u8 0,.int .u8 0,.int .u8 0,.int .u8 0,.int .u8 0,.int .u8 0,.int .u8 0,.int .u8 0,.int .u8 0,.int .u8 0,.int .u8 0,.int .u8 0,.int .u8 0,.int .u8 0,.int .u8 0,.int .u8 0,.int .u8 0,.int .u8 0,.int .u8 0,.int .u8 0,.int .u8 0,.int .u8 0,.int .u8 0,.int .u8 0,.int .u8 0,.int .u8 0,.int .u8 0,.int .u8 0,.int .u8 0,.int .u8 0,.int .u8 0,.int .u8 0,.int .u8 0,.int .u8 0,.int .u8 0,.int .u8 0,.int .u8 0,.int .u8 0,.int .u8 0,.int .u8 0,.int .u8 0,.int .u8 0,.int .u8 0,.int .u8 0,.int .u8 0]:=by kernel_rfl
end Go.SL.Fc
namespace Go.SL
open Go Go.Proofs Fc
def Dk (p:Nat) (d:DiskM):HP:=fun S=>∃ x:SV × SV × SV,stars [cl p 165 [x.1.v,x.2.1.v,x.2.2.v],Sl 306 64 pieceC x.1.v d.sure,Sl 306 64 pieceC x.2.1.v d.seen,Sl 311 65 waitC x.2.2.v d.waits] S
theorem Dk_op {p:Nat} {d:DiskM}:∀ S,Dk p d S→∃ x:SV × SV × SV,stars [cl p 165 [x.1.v,x.2.1.v,x.2.2.v],Sl 306 64 pieceC x.1.v d.sure,Sl 306 64 pieceC x.2.1.v d.seen,Sl 311 65 waitC x.2.2.v d.waits] S:=fun _ h=>h
theorem New_spec {g:World} (n:Nat) (hn:n < 4294967296):Spec Tryz.prog g 47 [.int .i64 n] [] fun K R=>((n < 1∨4096 < n)→K (.tuple #[.pointer none,.int .i64 1]) R)∧(¬ n < 1→¬ 4096 < n→∀ p,K (.tuple #[.pointer (some ⟨p,0,none⟩),.int .i64 0]) (Dk p (newDisk n)::R)):=by
 refine Spec.intro Tryz.func47 rfl Tryz.ntmps47 rfl fun R K hK=>?_
 refine WP.seq<|WP.reg<|WL.e e_assign<|WL.e e_assign<|WL.next<|WP.seq<|WP.seq<|WP.reg<|WL.e e_move<|WL.e e_lss<|WL.e e_move ?_
 refine WL.bool 6 rfl (fun h1=>?_) (fun h1=>?_)
 ·replace h1:n < 1:=by simp at h1;omega
  refine WL.skip<|WL.skip<|WL.e e_pick_t<|WL.next<|WP.cond_t rfl<|WP.seq<|WP.reg<|WL.e e_assign<|WL.e e_assign<|WL.next<|WP.ret<|PO.past nofun ?_
  exact PO.fin Tryz.results47 (rv_tmp (rv_tmp rv_nil)) (hK.1 (.inl h1))
 ·replace h1:¬ n < 1:=by simp at h1;omega
  refine WL.e e_move<|WL.e e_gtr<|WL.e e_pick_f<|WL.next ?_
  refine WP.cond rfl (fun h2=>?_) (fun h2=>?_)
  ·replace h2:4096 < n:=by simp at h2;omega
   refine WP.seq<|WP.reg<|WL.e e_assign<|WL.e e_assign<|WL.next<|WP.ret<|PO.past nofun ?_
   exact PO.fin Tryz.results47 (rv_tmp (rv_tmp rv_nil)) (hK.1 (.inr h2))
  ·replace h2:¬ 4096 < n:=by simp at h2;omega
   refine WP.skip<|PO.next<|WP.seq<|WP.draws mixedOk 8<|RW.e 0 rfl e_move<|RW.e 2 rfl e_move ?_
   refine RW.any (is:=[1,3]) rfl ⟨?_,?_,trivial⟩
   ·skip
    refine RWat.h rfl rfl rfl ?_
    refine (hl_make (enc:=pieceC) (n:=n) (List.replicate 64 0) sl162 z306 (by omega) (fun a1 n1 c1=>?_) (hzz:=by simp) (ha:=piece0))
    refine ⟨⟨⟨_,rfl,.inl ⟨rfl,e_move⟩⟩,trivial⟩,?_⟩
    refine RW.any (is:=[3]) rfl ⟨?_,trivial⟩
    refine RWat.h rfl rfl rfl ?_
    refine (hl_make (enc:=pieceC) (n:=n) (List.replicate 64 0) sl162 z306 (by omega) (fun a2 n2 c2=>?_) (hzz:=by simp) (ha:=piece0))
    refine ⟨trivial,?_⟩
    refine RW.e 4 rfl (e_build z165 p165 (.o (.tmp 11) rfl<|.o (.tmp 13) rfl<|.z (.slice none 0 0)<|.n)) ?_
    refine RW.any (is:=[5]) rfl ⟨?_,trivial⟩
    refine RWat.h rfl rfl rfl ?_
    refine (h_box fun b1=>?_)
    refine ⟨trivial,?_⟩
    refine RW.e 6 rfl e_assign<|RW.e 7 rfl e_assign<|RW.done<|PO.next<|WP.ret<|PO.nils 311 65 waitC none ?_
    refine PO.cls (A:=Dk b1 (newDisk n)) (fun S h=>⟨(⟨a1,n1,c1⟩,⟨a2,n2,c2⟩,⟨none,0,0⟩),h⟩) ?_ (B:=[cl b1 165 [.slice a1 n1 c1,.slice a2 n2 c2,.slice none 0 0],Sl 306 64 pieceC (.slice a1 n1 c1) (newDisk n).sure,Sl 306 64 pieceC (.slice a2 n2 c2) (newDisk n).seen,Sl 311 65 waitC (.slice none 0 0) []])
    exact PO.fin Tryz.results47 (rv_tmp (rv_tmp rv_nil)) (hK.2 h1 h2 b1)
   ·skip
    refine RWat.h rfl rfl rfl ?_
    refine (hl_make (enc:=pieceC) (n:=n) (List.replicate 64 0) sl162 z306 (by omega) (fun a2 n2 c2=>?_) (hzz:=by simp) (ha:=piece0))
    refine ⟨⟨⟨_,rfl,.inl ⟨rfl,e_move⟩⟩,trivial⟩,?_⟩
    refine RW.any (is:=[1]) rfl ⟨?_,trivial⟩
    refine RWat.h rfl rfl rfl ?_
    refine (hl_make (enc:=pieceC) (n:=n) (List.replicate 64 0) sl162 z306 (by omega) (fun a1 n1 c1=>?_) (hzz:=by simp) (ha:=piece0))
    refine ⟨trivial,?_⟩
    refine RW.e 4 rfl (e_build z165 p165 (.o (.tmp 11) rfl<|.o (.tmp 13) rfl<|.z (.slice none 0 0)<|.n)) ?_
    refine RW.any (is:=[5]) rfl ⟨?_,trivial⟩
    refine RWat.h rfl rfl rfl ?_
    refine (h_box fun b2=>?_)
    refine ⟨trivial,?_⟩
    refine RW.e 6 rfl e_assign<|RW.e 7 rfl e_assign<|RW.done<|PO.next<|WP.ret<|PO.nils 311 65 waitC none ?_
    refine PO.cls (A:=Dk b2 (newDisk n)) (fun S h=>⟨(⟨a1,n1,c1⟩,⟨a2,n2,c2⟩,⟨none,0,0⟩),h⟩) ?_ (B:=[cl b2 165 [.slice a1 n1 c1,.slice a2 n2 c2,.slice none 0 0],Sl 306 64 pieceC (.slice a1 n1 c1) (newDisk n).sure,Sl 306 64 pieceC (.slice a2 n2 c2) (newDisk n).seen,Sl 311 65 waitC (.slice none 0 0) []])
    exact PO.fin Tryz.results47 (rv_tmp (rv_tmp rv_nil)) (hK.2 h1 h2 b2)
theorem Size_spec {g:World} {p:Nat} {d:DiskM}:Spec Tryz.prog g 152 [.pointer (some ⟨p,0,none⟩)] [Dk p d] fun K R=>K (.int .i64 d.sure.length) (Dk p d::R):=by
 refine Spec.intro Tryz.func152 rfl Tryz.ntmps152 rfl fun R K hK=>?_
 refine WP.seq<|WP.reg<|WL.e e_assign<|WL.next<|WP.seq<|WP.seq<|WP.reg<|WL.e e_move<|WL.e (e_peq pt85)<|WL.next ?_
 refine WP.cond rfl (fun h=>?_) (fun h=>?_)
 ·cases h
 ·refine WP.opn (Dk_op (p:=p) (d:=d)) fun x=>?_
  obtain ⟨s1,s2,s3⟩:=x
  dsimp only
  refine WP.skip<|PO.next<|WP.seq<|WP.reg<|WL.e e_move<|WL.e e_nil<|WL.e (e_fa f165_0)<|WL.e (e_load a162)<|WL.e (el_len sl162 (sl_rl (xs:=d.sure)))<|WL.e e_assign<|WL.next<|WP.ret<|PO.cls (A:=Dk p d) (B:=[cl p 165 [s1.v,s2.v,s3.v],Sl 306 64 pieceC s1.v d.sure,Sl 306 64 pieceC s2.v d.seen,Sl 311 65 waitC s3.v d.waits]) (fun S h=>⟨(s1,s2,s3),h⟩) ?_
  exact PO.fin Tryz.results152 (rv_tmp rv_nil) hK
theorem Dmay_spec {g:World} {p:Nat} {d:DiskM} (i:Nat) (hi:i < d.sure.length):Spec Tryz.prog g 206 [.pointer (some ⟨p,0,none⟩),.int .i64 i] [Dk p d] fun K R=>K (.int .i64 0) (Dk p d::R):=by
 refine Spec.intro Tryz.func206 rfl Tryz.ntmps206 rfl fun R K hK=>?_
 refine WP.seq<|WP.reg<|WL.e e_assign<|WL.next<|WP.seq<|WP.block<|WP.seq<|WP.reg<|WL.e e_move ?_
 refine WL.h (h_call (Size_spec) k152 ?_)
 refine WL.e e_eql<|WL.e e_assign<|WL.next ?_
 refine WP.cond rfl (fun h=>?_) (fun h=>?_)
 ·rw [beq_iff_eq] at h;omega
 ·skip
  refine WP.seq<|WP.reg<|WL.e e_move<|WL.e e_lss<|WL.e e_move ?_
  refine WL.bool 12 rfl (fun h1=>?_) (fun h1=>?_)
  ·rw [decide_eq_true_eq] at h1;omega 
  ·skip
   refine WL.e e_move<|WL.e e_move ?_
   refine WL.h (h_call (Size_spec) k152 ?_)
   refine WL.e e_geq<|WL.e e_pick_f<|WL.e e_assign<|WL.next ?_
   refine WP.cond rfl (fun h2=>?_) (fun h2=>?_)
   ·rw [decide_eq_true_eq] at h2;omega
   ·skip
    refine WP.skip<|PO.blockN<|PO.next<|WP.seq<|WP.reg<|WL.e e_assign<|WL.next<|WP.ret ?_
    exact PO.fin Tryz.results206 (rv_tmp rv_nil) hK
theorem Write_spec {g:World} {A:HP} {p:Nat} {d:DiskM} {u:Value} {b:List UInt8} (i:Nat) (hA:RL A 1 eB u b) (hi:i < d.sure.length) (hd:d.seen.length=d.sure.length) (hl:d.sure.length≤4096) (hb:b.length≤64) (hw:d.waits.length < 4294967296):Spec Tryz.prog g 156 [.pointer (some ⟨p,0,none⟩),.int .i64 i,u] [Dk p d,A] fun K R=>K (.int .i64 0) (Dk p (d.write i b)::A::R):=by
 refine Spec.intro Tryz.func156 rfl Tryz.ntmps156 rfl fun R K hK=>?_
 refine WP.seq<|WP.reg<|WL.e e_assign<|WL.next<|WP.seq<|WP.seq<|WP.reg<|WL.e e_move<|WL.e e_move ?_
 refine WL.h (h_call (Dmay_spec (d:=d) i hi) k206 ?_)
 refine WL.e e_assign<|WL.next<|WP.seq<|WP.reg<|WL.e e_move<|WL.e e_neq<|WL.next<|WP.cond_f rfl<|WP.skip<|PO.next<|WP.seq<|WP.seq<|WP.reg<|WL.e e_move<|WL.e (el_len sl34 hA)<|WL.e e_gtr<|WL.next ?_
 refine WP.cond rfl (fun h=>?_) (fun h=>?_)
 ·rw [decide_eq_true_eq] at h;omega
 ·skip
  refine WP.skip<|PO.next<|WP.seq<|WP.reg<|WL.opn (Dk_op (p:=p) (d:=d)) fun x=>?_
  obtain ⟨s1,s2,s3⟩:=x
  dsimp only
  refine WL.h (h_alloc z306 fun b1=>?_)
  refine WL.next<|WP.seq<|WP.reg<|WL.e (e_slice_arr ar306 rfl (.inl ⟨rfl,rfl⟩) (.inl ⟨rfl,rfl⟩) (by omega) (by omega))<|WL.e e_move ?_
  refine WL.h (h_copy (T:=34) (l:=List.replicate 64 (.int .u8 0)) (n:=64) (c:=64) (o:=0) sl34 ((At.lit (b:=b1) (o:=0) (Nat.le_refl 64)).sub (Nat.zero_le _) (Nat.le_refl _) (Nat.le_refl _)) (by simp) hA (ones_take _ (ones_flat eB_ok b)) ?_)
  rw [copy_piece b hb,← pieceC_pad]
  refine WL.next<|WP.seq<|WP.draws mixedOk 8<|RW.e 0 rfl e_move<|RW.e 1 rfl e_nil<|RW.e 2 rfl (e_fa f165_1)<|RW.e 3 rfl (e_load a162)<|RW.e 4 rfl e_move<|RW.e 5 rfl (e_loadW (l:=pieceC (pad b)) a306 (pieceE.len _))<|RW.e 6 rfl (el_ia (j:=i) (xs:=d.seen) sl162 sl_rl (by omega)) ?_
  refine RW.any (is:=[7]) rfl ⟨?_,trivial⟩
  refine RWat.h' rfl rfl rfl ?_
  refine (hl_store (xs:=d.seen) (j:=i) (pad b) s306 pieceE (by omega) ?_)
  refine ⟨trivial,?_⟩
  refine RW.done<|PO.next<|WP.seq<|WP.draws mixedOk 13<|RW.e 0 rfl e_move<|RW.e 1 rfl e_move<|RW.e 2 rfl e_nil<|RW.e 3 rfl (e_fa f165_2)<|RW.e 4 rfl (e_load a163)<|RW.e 5 rfl e_move<|RW.e 6 rfl (e_loadW (l:=pieceC (pad b)) a306 (pieceE.len _))<|RW.e 7 rfl (e_build_pair z311 p311 (pieceE.len _)) ?_
  refine RW.any (is:=[8]) rfl ⟨?_,trivial⟩
  refine RWat.h rfl rfl rfl ?_
  refine (h_bs1 (cs:=waitC (i,pad b)) sl163 z311 (waitE.len _) (fun b5=>?_))
  refine ⟨⟨⟨_,rfl,.inl ⟨rfl,(e_load a163)⟩⟩,⟨_,rfl,.inl ⟨rfl,(e_fa f165_2)⟩⟩,⟨_,rfl,.inl ⟨rfl,e_nil⟩⟩,⟨_,rfl,.inl ⟨rfl,e_move⟩⟩,⟨_,rfl,.inl ⟨rfl,e_move⟩⟩,trivial⟩,?_⟩
  refine RW.any (is:=[9]) rfl ⟨?_,trivial⟩
  refine RWat.h rfl rfl rfl ?_
  refine (hl_append (xs:=d.waits) (ys:=[(i,pad b)]) sl163 waitE z311 (lit_rl waitE [(i,pad b)] (show [(i,pad b)].flatMap waitC=waitC (i,pad b) by simp)) (by simp;omega) (fun a6 n6 c6=>?_))
  refine ⟨⟨⟨_,rfl,.inl ⟨rfl,e_move⟩⟩,trivial⟩,?_⟩
  refine RW.e 10 rfl e_nil<|RW.e 11 rfl (e_fa f165_2) ?_
  refine RW.any (is:=[12]) rfl ⟨?_,trivial⟩
  refine RWat.h' rfl rfl rfl ?_
  refine (h_store s163 ?_)
  refine ⟨trivial,?_⟩
  refine RW.done<|PO.next<|WP.seq<|WP.reg<|WL.e e_assign<|WL.next<|WP.ret<|PO.cls (A:=Dk p (d.write i b)) (B:=[cl p 165 [s1.v,s2.v,.slice a6 n6 c6],Sl 306 64 pieceC s1.v d.sure,Sl 306 64 pieceC s2.v (d.seen.set i (pad b)),Sl 311 65 waitC (.slice a6 n6 c6) (d.waits++[(i,pad b)])]) (fun S h=>⟨(s1,s2,⟨a6,n6,c6⟩),h⟩) ?_
  exact PO.fin Tryz.results156 (rv_tmp rv_nil) hK
theorem Sync_spec {g:World} {p:Nat} {d:DiskM} (h0:0 < d.sure.length) (hd:d.seen.length=d.sure.length):Spec Tryz.prog g 157 [.pointer (some ⟨p,0,none⟩)] [Dk p d] fun K R=>K (.int .i64 0) (Dk p d.sync::R):=by
 refine Spec.intro Tryz.func157 rfl Tryz.ntmps157 rfl fun R K hK=>?_
 refine WP.seq<|WP.reg<|WL.e e_assign<|WL.next<|WP.seq<|WP.seq<|WP.reg<|WL.e e_move ?_
 refine WL.h (h_call (Size_spec) k152 ?_)
 refine WL.e e_eql<|WL.next ?_
 refine WP.cond rfl (fun h=>?_) (fun h=>?_)
 ·rw [beq_iff_eq] at h;omega
 ·refine WP.opn (Dk_op (p:=p) (d:=d)) fun x=>?_
  obtain ⟨s1,s2,s3⟩:=x
  dsimp only
  refine WP.skip<|PO.next<|WP.seq<|WP.draws mixedOk 9<|RW.e 0 rfl e_move<|RW.e 1 rfl e_nil<|RW.e 2 rfl (e_fa f165_0)<|RW.e 3 rfl (e_load a162)<|RW.e 4 rfl e_move<|RW.e 5 rfl e_nil<|RW.e 6 rfl (e_fa f165_1)<|RW.e 7 rfl (e_load a162) ?_
  refine RW.any (is:=[8]) rfl ⟨?_,trivial⟩
  refine RWat.h rfl rfl rfl ?_
  refine (hl_copy0 (u:=s1.v) (xs:=d.sure) sl162 pieceE (sl_rl (xs:=d.seen)) ?_)
  rw [show over d.sure 0 d.seen=d.seen by simp [over,← hd]]
  refine ⟨trivial,?_⟩
  refine RW.done<|PO.next<|WP.seq<|WP.reg<|WL.e e_move<|WL.e e_nil<|WL.e (e_fa f165_2) ?_
  refine WL.h' (h_store s163 ?_)
  refine WL.next<|WP.seq<|WP.reg<|WL.e e_assign<|WL.next<|WP.ret<|PO.nils 311 65 waitC none ?_
  refine PO.cls (A:=Dk p d.sync) (B:=[cl p 165 [s1.v,s2.v,.slice none 0 0],Sl 306 64 pieceC s1.v d.seen,Sl 306 64 pieceC s2.v d.seen,Sl 311 65 waitC (.slice none 0 0) []]) (fun S h=>⟨(s1,s2,⟨none,0,0⟩),h⟩) ?_
  exact PO.fin Tryz.results157 (rv_tmp rv_nil) hK
theorem Read_spec {g:World} {p:Nat} {d:DiskM} (i:Nat) (b:List UInt8) (hi:i < d.sure.length) (hb:d.seen[i]?=some b) (h64:b.length=64):Spec Tryz.prog g 153 [.pointer (some ⟨p,0,none⟩),.int .i64 i] [Dk p d] fun K R=>∀ a m c,K (.tuple #[.slice a m c,.int .i64 0]) (Sl 5 1 eB (.slice a m c) b::Dk p d::R):=by
 refine Spec.intro Tryz.func153 rfl Tryz.ntmps153 rfl fun R K hK=>?_
 refine WP.seq<|WP.reg<|WL.e e_assign<|WL.e e_assign<|WL.next<|WP.seq<|WP.seq<|WP.reg<|WL.e e_move<|WL.e e_move ?_
 refine WL.h (h_call (Dmay_spec (d:=d) i hi) k206 ?_)
 refine WL.opn (Dk_op (p:=p) (d:=d)) fun x=>?_
 obtain ⟨s1,s2,s3⟩:=x
 dsimp only
 refine WL.e e_assign<|WL.next<|WP.seq<|WP.reg<|WL.e e_move<|WL.e e_neq<|WL.next<|WP.cond_f rfl<|WP.skip<|PO.next<|WP.seq<|WP.reg<|WL.e e_move<|WL.e e_nil<|WL.e (e_fa f165_1)<|WL.e (e_load a162)<|WL.e e_move<|WL.e (el_ia (j:=i) (xs:=d.seen) sl162 sl_rl (idx_lt hb))<|WL.e (e_slice_el (k:=i * 64) (z:=64) ar306 (sl_rl (E:=306) (z:=64) (enc:=pieceC) (u:=s2.v) (xs:=d.seen)) (by have:=idx_lt hb;omega)) ?_
 refine WL.h (h_call (CloneB_spec (rl_piece (sl_rl (E:=306) (u:=s2.v) (xs:=d.seen)) hb) (by rw [pad_len];omega)) k207 ?_)
 intro a9 n9 c9
 rw [pad_id h64]
 refine WL.e e_assign<|WL.e e_assign<|WL.next<|WP.ret<|PO.cls (A:=Dk p d) (B:=[cl p 165 [s1.v,s2.v,s3.v],Sl 306 64 pieceC s1.v d.sure,Sl 306 64 pieceC s2.v d.seen,Sl 311 65 waitC s3.v d.waits]) (fun S h=>⟨(s1,s2,s3),h⟩) ?_
 exact PO.fin Tryz.results153 (rv_tmp (rv_tmp rv_nil)) (hK a9 n9 c9)
end Go.SL
namespace Go.SL
open Go
def addW (d:DiskM) (i:Nat) (b:List UInt8):Nat→DiskM
  | 0=>d
  | k+1=>addW (d.write i (b.take 64)) (i+1) (b.drop 64) k
structure DiskM.ok (d:DiskM):Prop where
  pos:0 < d.sure.length
  le:d.sure.length≤4096
  len:d.seen.length=d.sure.length
  l1:∀ p ∈ d.sure,p.length=64
  l2:∀ p ∈ d.seen,p.length=64
theorem DiskM.ok.write {d:DiskM} (h:d.ok) (i:Nat) (b:List UInt8):(d.write i b).ok:=
  ⟨h.pos,h.le,by simpa [DiskM.write] using h.len,h.l1,fun p hp=>by
    rcases List.mem_or_eq_of_mem_set hp with h' | rfl
    · exact h.l2 p h'
    · exact pad_len b⟩
theorem DiskM.ok.sync {d:DiskM} (h:d.ok):d.sync.ok:=⟨by simp [DiskM.sync,h.len,h.pos],by simp [DiskM.sync,h.len,h.le],rfl,h.l2,h.l2⟩
theorem newDisk_ok {n:Nat} (h1:0 < n) (h2:n≤4096):(newDisk n).ok:=by
  refine ⟨by simpa [newDisk] using h1,by simpa [newDisk] using h2,by simp [newDisk],?_,?_⟩ <;> intro p hp <;> simp [newDisk,List.mem_replicate] at hp <;> simp [hp.2]
theorem addW_ok:∀ (k:Nat) (d:DiskM) (i:Nat) (b:List UInt8),d.ok→(addW d i b k).ok
  | 0,_,_,_,h=>h
  | k+1,d,i,b,h=>addW_ok k _ _ _ (h.write i _)
theorem addW_len:∀ (k:Nat) (d:DiskM) (i:Nat) (b:List UInt8),(addW d i b k).sure=d.sure∧(addW d i b k).waits.length=d.waits.length+k
  | 0,_,_,_=>⟨rfl,rfl⟩
  | k+1,d,i,b=>by
    obtain ⟨h1,h2⟩:=addW_len k (d.write i (b.take 64)) (i+1) (b.drop 64)
    exact ⟨h1,by rw [addW,h2];simp [DiskM.write];omega⟩
def cleanTo (all:List UInt8) (d:DiskM) (lo:Nat):Nat→DiskM
  | 0=>d
  | k+1=>if (all.drop ((lo+k) * 64)).take 64=List.replicate 64 0 then cleanTo all d lo k else (cleanTo all d lo k).write (lo+k) (List.replicate 64 0)
theorem cleanTo_ok (all:List UInt8) (d:DiskM) (lo:Nat):∀ k,d.ok→(cleanTo all d lo k).ok∧(cleanTo all d lo k).sure=d.sure∧(cleanTo all d lo k).waits.length≤d.waits.length+k
  | 0,h=>⟨h,rfl,by simp [cleanTo]⟩
  | k+1,h=>by
    obtain ⟨h1,h2,h3⟩:=cleanTo_ok all d lo k h
    simp only [cleanTo]
    split
    · exact ⟨h1,h2,by omega⟩
    · exact ⟨h1.write _ _,h2,by simp [DiskM.write];omega⟩
def recF:Nat→List UInt8→List (List UInt8 × Nat)
  | 0,_=>[]
  | k+1,b=>match getF b with
    | none=>[]
    | some (r,m)=>(r,m)::recF k (b.drop (m * 64))
def recs (b:List UInt8):List (List UInt8 × Nat):=recF b.length b
theorem getF_some {b r:List UInt8} {m:Nat} (h:getF b=some (r,m)):0 < m∧m * 64≤b.length∧m=secs r.length∧r.length≤16384∧frame r=b.take (m * 64):=by
  unfold getF at h
  split at h
  · cases h
  simp only at h
  split at h
  · cases h
  split at h
  · cases h
  split at h
  case isFalse=>cases h
  cases h
  have:=secs_le (beN (b.take 4)).toNat
  rename_i h1 h2 h3 h4
  have e:((b.drop 8).take (beN (b.take 4)).toNat).length=(beN (b.take 4)).toNat:=by simp;omega
  refine ⟨by omega,by omega,by rw [e],by omega,h4⟩
theorem recF_enough:∀ (k j:Nat) (b:List UInt8),b.length≤k→b.length≤j→recF k b=recF j b
  | 0,0,_,_,_=>rfl
  | 0,j+1,b,h,_=>by
    have:b=[]:=by simpa using h
    subst this;rfl
  | k+1,0,b,_,h=>by
    have:b=[]:=by simpa using h
    subst this;rfl
  | k+1,j+1,b,h1,h2=>by
    simp only [recF]
    cases hg:getF b with
    | none=>rfl
    | some x=>
      obtain ⟨r,m⟩:=x
      obtain ⟨h3,h4,_⟩:=getF_some hg
      simp only
      rw [recF_enough k j _ (by simp;omega) (by simp;omega)]
theorem recs_none {b:List UInt8} (h:getF b=none):recs b=[]:=by
  unfold recs
  cases hb:b.length with
  | zero=>rfl
  | succ k=>simp [recF,h]
theorem recs_some {b r:List UInt8} {m:Nat} (h:getF b=some (r,m)):recs b=(r,m)::recs (b.drop (m * 64)):=by
  obtain ⟨h3,h4,_⟩:=getF_some h
  unfold recs
  obtain ⟨k,hk⟩:∃ k,b.length=k+1:=⟨b.length - 1,by omega⟩
  rw [hk];simp only [recF,h]
  rw [recF_enough k (b.drop (m * 64)).length _ (by simp;omega) (Nat.le_refl _)]
theorem recs_le:∀ (n:Nat) (b:List UInt8),b.length≤n→((recs b).map (·.2)).sum * 64≤b.length∧(recs b).length * 64≤b.length
  | 0,b,h=>by
    have:b=[]:=by simpa using h
    subst this;simp [recs,recF]
  | n+1,b,h=>by
    cases hg:getF b with
    | none=>rw [recs_none hg];simp
    | some x=>
      obtain ⟨r,m⟩:=x
      obtain ⟨h3,h4,_⟩:=getF_some hg
      rw [recs_some hg]
      have ih:=recs_le n (b.drop (m * 64)) (by simp;omega)
      simp only [List.map_cons,List.sum_cons,List.length_cons,List.length_drop] at ih ⊢
      omega
theorem flat_seen {l:List (List UInt8)} (h:∀ p ∈ l,p.length=64):l.flatten.length=l.length * 64:=by
  induction l with
  | nil=>rfl
  | cons p l ih=>rw [List.flatten_cons,List.length_append,ih (fun q hq=>h q (by simp [hq])),h p (by simp)];simp;omega
end Go.SL
namespace Go.SL.Fc
open Go Go.Proofs Go.SL
theorem a166:aggOf Tryz.prog 166=some none:=by kernel_rfl
theorem a167:aggOf Tryz.prog 167=some none:=by kernel_rfl
theorem a3:aggOf Tryz.prog 3=some none:=by kernel_rfl
theorem a85:aggOf Tryz.prog 85=some none:=by kernel_rfl
theorem f244_1:fldOf Tryz.prog 244 1=some 1:=by kernel_rfl
theorem f246_0:fldOf Tryz.prog 246 0=some 0:=by kernel_rfl
theorem k153:callable Tryz.prog 153=true:=by kernel_rfl
theorem k154:callable Tryz.prog 154=true:=by kernel_rfl
theorem k155:callable Tryz.prog 155=true:=by kernel_rfl
theorem k156:callable Tryz.prog 156=true:=by kernel_rfl
theorem k157:callable Tryz.prog 157=true:=by kernel_rfl
theorem k208:callable Tryz.prog 208=true:=by kernel_rfl
theorem k209:callable Tryz.prog 209=true:=by kernel_rfl
theorem p244:placesOf Tryz.prog 244=some [(0,1),(1,1)]:=by kernel_rfl
theorem p246:placesOf Tryz.prog 246=some [(0,2)]:=by kernel_rfl
theorem s166:szOf Tryz.prog 166=some 1:=by kernel_rfl
theorem s167:szOf Tryz.prog 167=some 1:=by kernel_rfl
theorem s3:szOf Tryz.prog 3=some 1:=by kernel_rfl
theorem sl167:slOf Tryz.prog 167=some (34,1,24):=by kernel_rfl
theorem z166:zeroOf Tryz.prog 166=some [.pointer none]:=by kernel_rfl
theorem z167:zeroOf Tryz.prog 167=some [.slice none 0 0]:=by kernel_rfl
theorem z244:zeroOf Tryz.prog 244=some [.pointer none,.int .i64 0]:=by kernel_rfl
theorem z246:zeroOf Tryz.prog 246=some [.pointer none,.int .i64 0]:=by kernel_rfl
end Go.SL.Fc
namespace Go.SL
open Go Go.Proofs Fc
abbrev RecV:=SV × List UInt8 × Nat
def recE (x:RecV):List Value:=[x.1.v,.int .i64 x.2.2]
def recR (x:RecV):HP:=Sl 5 1 eB x.1.v x.2.1
theorem found_iter {g:World} {A:HP} {c1:Nat} {w:SV} {b:List UInt8} (hA:RL A 1 eB w.v b) (hb:b.length≤68719476736) :
  Iter Tryz.prog g 208 (fun y=>[]++[y]++[.pointer (some ⟨c1,0,none⟩)]) [cl c1 34 [w.v],A] recE recR (fun xs=>xs.map (·.2)=recs b) (fun pre=>pre.map (·.2) <+: recs b) [A]:=by
 intro y J X cont hy
 refine Spec.intro Tryz.func208 rfl Tryz.ntmps208 rfl fun R K hK=>?_
 refine WP.block<|WP.loopK (fun (x:SV × List UInt8 × List RecV)=>[]) (fun (x:SV × List UInt8 × List RecV)=>J x.2.2::cl c1 34 [x.1.v]::A::R) [(0,_),(1,_)] (fun (x:SV × List UInt8 × List RecV)=>RL A 1 eB x.1.v x.2.1∧x.2.1.length≤b.length∧x.2.2.map (·.2)++recs x.2.1=recs b∧Hist cont x.2.2) (fun (x:SV × List UInt8 × List RecV)=>x.2.1.length) (w,b,[]) (⟨hA,Nat.le_refl _,rfl,Hist.nil⟩) ?_
 rintro ⟨w1,b1,pre⟩ ⟨hr,hl,he,hh⟩
 simp only at hr hl he hh
 dsimp only
 refine WP.block<|WP.seq<|WP.reg<|WL.e (e_load a34) ?_
 refine WL.h (h_call (Get_spec hr (by omega)) k209 ?_)
 refine ⟨fun hg=>?_,fun r m hg a2 n2 c2=>?_⟩
 ·skip
  refine WL.e e_move<|WL.e e_extract<|WL.e e_extract<|WL.e e_extract<|WL.e e_assign<|WL.e e_assign<|WL.e e_assign<|WL.next<|WP.seq<|WP.seq<|WP.reg<|WL.e e_move<|WL.e e_neq<|WL.e e_move ?_
  refine WL.bool 14 rfl (fun h=>?_) (fun h=>?_)
  ·skip
   refine WL.skip<|WL.skip<|WL.skip<|WL.skip<|WL.skip<|WL.e e_pick_t<|WL.next<|WP.cond_t rfl<|WP.ret<|PO.past nofun<|PO.blockR<|PO.round nofun<|PO.blockR ?_
   exact PO.fin Tryz.results208 rv_nil (hK.1 pre (by rw [← he,recs_none hg];simp) hh)
  ·simp at h 
 ·have hm:=getF_some hg
  have hpf:(pre++[((⟨a2,n2,c2⟩,r,m):RecV)]).map (·.2) <+: recs b:=by rw [← he,recs_some hg];simp
  refine WL.e e_move<|WL.e e_extract<|WL.e e_extract<|WL.e e_extract<|WL.e e_assign<|WL.e e_assign<|WL.e e_assign<|WL.next<|WP.seq<|WP.seq<|WP.reg<|WL.e e_move<|WL.e e_neq<|WL.e e_move ?_
  refine WL.bool 14 rfl (fun h=>?_) (fun h=>?_)
  ·simp at h 
  ·skip
   refine WL.e e_move<|WL.e e_move<|WL.e e_move ?_
   refine WL.h (h_cally (hy pre (⟨a2,n2,c2⟩,r,m) hpf hh) ?_)
   refine ⟨fun hc=>?_,fun hc=>?_⟩
   ·skip
    refine WL.e e_not<|WL.e e_pick_f<|WL.next<|WP.cond_f rfl<|WP.skip<|PO.next<|WP.reg<|WL.e (e_load a34)<|WL.e e_move<|WL.e (e_mul (c:=((m * 64:Nat):Int)) rfl rfl (by rw [w_i64 (by omega) (by omega)];omega))<|WL.e (el_from (lo:=m * 64) sl34 hr hm.2.1) ?_
    refine WL.h' (h_store s34 ?_)
    refine WL.nil<|PO.blockN ?_
    exact PO.againK (subS w1 (m * 64) b1.length 1,b1.drop (m * 64),pre++[(⟨a2,n2,c2⟩,r,m)]) ⟨by rw [subS_eq];exact RL.from_ eB_ok hr hm.2.1,by simp;omega,by rw [← he,recs_some hg];simp,hh.snoc hc⟩ (by simp;omega)
   ·skip
    refine WL.e e_not<|WL.e e_pick_f<|WL.next<|WP.cond_t rfl<|WP.ret<|PO.past nofun<|PO.blockR<|PO.round nofun<|PO.blockR ?_
    exact PO.fin Tryz.results208 rv_nil (hK.2 pre (⟨a2,n2,c2⟩,r,m) hpf hh hc)
theorem found_spec {g:World} {w:SV}:Spec Tryz.prog g 154 [w.v] [] fun K R=>∀ c1,K (.func (.func 208) #[] #[.pointer (some ⟨c1,0,none⟩)]) (cl c1 34 [w.v]::R):=by
 refine Spec.intro Tryz.func154 rfl Tryz.ntmps154 rfl fun R K hK=>?_
 refine WP.seq<|WP.reg ?_
 refine WL.h (h_box fun b1=>?_)
 refine WL.e e_assign<|WL.next<|WP.seq<|WP.reg<|WL.e e_makeFunc<|WL.e e_assign<|WL.next<|WP.ret ?_
 exact PO.fin Tryz.results154 (rv_tmp rv_nil) (hK b1)
def recC (x:RecV):List Value:=[x.1.v]
theorem recCE:EncOk 1 recC:=⟨fun _=>rfl,fun _=>rfl⟩
def RecsR (l:List RecV):HP:=bun (l.map recR)
theorem RecsR_snoc {l:List RecV} {x:RecV}:∀ S,stars [RecsR l,recR x] S→RecsR (l++[x]) S:=fun S h=>by
 have:=stars_bun h
 unfold RecsR bun
 rwa [List.map_append]
theorem RecsR_nil {L:List HP} {S:Piece} (h:stars L S):stars (RecsR []::L) S:=bun_stars (L:=[]) h
def tot (l:List RecV):Nat:=(l.map (·.2.2)).sum
def OpJ (b2 bl b3 p:Nat) (pre:List RecV):HP:=fun S=>∃ sv:SV,stars [cl b2 166 [.pointer (some ⟨bl,0,none⟩)],cl bl 246 [.pointer (some ⟨p,0,none⟩),.int .i64 (tot pre)],cl b3 167 [sv.v],Sl 34 1 recC sv.v pre,RecsR pre] S
theorem tot_le {all:List UInt8} {pre:List RecV} (h:pre.map (·.2) <+: recs all):tot pre * 64≤all.length∧pre.length * 64≤all.length:=by
 obtain ⟨t,ht⟩:=h
 have h1:=recs_le _ all (Nat.le_refl _)
 rw [← ht] at h1
 simp only [List.map_append,List.sum_append,List.length_append,List.length_map,List.map_map] at h1
 have e:(pre.map ((fun x=>x.2)∘fun x=>x.2)).sum=tot pre:=rfl
 rw [e] at h1
 omega
theorem tot_snoc (pre:List RecV) (x:RecV):tot (pre++[x])=tot pre+x.2.2:=by simp [tot]
theorem Open_spec {g:World} {p:Nat} {d:DiskM} (hd:d.ok) (hw:d.waits.length < 4000000000):Spec Tryz.prog g 97 [.pointer (some ⟨p,0,none⟩)] [Dk p d] fun K R=>∀ (l:Nat) (sv:SV) (xs:List RecV),xs.map (·.2)=recs d.seen.flatten→K (.tuple #[.pointer (some ⟨l,0,none⟩),sv.v,.int .i64 0]) (cl l 246 [.pointer (some ⟨p,0,none⟩),.int .i64 (tot xs)]::Sl 34 1 recC sv.v xs::RecsR xs::Dk p (cleanTo d.seen.flatten d (tot xs) (d.sure.length - tot xs)).sync::R):=by
 refine Spec.intro Tryz.func97 rfl Tryz.ntmps97 rfl fun R K hK=>?_
 refine WP.seq<|WP.reg ?_
 refine WL.h (h_alloc z166 fun b1=>?_)
 refine WL.h (h_alloc z167 fun b2=>?_)
 refine WL.e e_assign<|WL.next<|WP.seq<|WP.seq<|WP.reg<|WL.e e_move ?_
 refine WL.h (h_call (Size_spec) k152 ?_)
 refine WL.e e_eql<|WL.next ?_
 refine WP.cond rfl (fun h=>?_) (fun h=>?_)
 ·rw [beq_iff_eq] at h;have:=hd.pos;omega
 ·have hle:=hd.le
  have hlen:=hd.len
  refine WP.skip<|PO.next<|WP.seq<|WP.reg<|WL.e e_assign<|WL.next<|WP.seq<|WP.seq<|WP.reg<|WL.e e_move ?_
  refine WL.h (h_call (Size_spec) k152 ?_)
  refine WL.e e_move<|WL.next<|WP.block<|WP.nils 5 1 eB none ?_
  refine WP.loopK (fun (x:Nat × Value)=>[(18,.int .i64 x.1),(5,x.2)]) (fun (x:Nat × Value)=>Sl 5 1 eB x.2 (d.seen.take x.1).flatten::cl b1 166 [.pointer none]::cl b2 167 [.slice none 0 0]::Dk p d::R) [(0,_),(2,_),(3,_),(4,_),(17,_)] (fun (x:Nat × Value)=>x.1≤d.sure.length) (fun (x:Nat × Value)=>d.sure.length - x.1) (0,.slice none 0 0) (Nat.zero_le _) ?_
  rintro ⟨i,u5⟩ hx1
  simp only at hx1
  dsimp only
  refine WP.seq<|WP.reg<|WL.e e_lss<|WL.next<|WP.seq ?_
  refine WP.cond rfl (fun h2=>?_) (fun h2=>?_)
  ·have hlt:i < d.sure.length:=by rw [decide_eq_true_eq] at h2;omega
   obtain ⟨q,hq⟩:∃ q,d.seen[i]?=some q:=⟨_,List.getElem?_eq_getElem (by omega)⟩
   have hq64:=hd.l2 q (List.mem_of_getElem? hq)
   have hfl:(d.seen.take i).flatten.length=i * 64:=by rw [flat_seen (fun p hp=>hd.l2 p (List.mem_of_mem_take hp))];simp;omega
   refine WP.skip<|PO.next<|WP.seq<|WP.block<|WP.seq<|WP.reg<|WL.e e_move<|WL.e e_assign<|WL.next<|WP.seq<|WP.reg<|WL.e e_move<|WL.e e_move ?_
   refine WL.h (h_call (Read_spec i q hlt hq hq64) k153 ?_)
   intro a4 n4 c4
   refine WL.e e_move<|WL.e e_extract<|WL.e e_extract<|WL.e e_assign<|WL.e e_assign<|WL.next<|WP.reg<|WL.e e_move<|WL.e e_move ?_
   refine WL.h (hl_append (xs:=(d.seen.take i).flatten) (ys:=q) sl34 eB_ok z5 sl_rl (by omega) (fun a6 n6 c6=>?_))
   rw [show (d.seen.take i).flatten++q=(d.seen.take (i+1)).flatten by rw [take_snoc hq];simp]
   refine WL.e e_assign<|WL.nil<|PO.blockN<|PO.next<|WP.reg<|WL.e (e_add rfl rfl (w_i64 (by omega) (by omega)))<|WL.e e_move<|WL.nil ?_
   exact PO.againK (i+1,.slice a6 n6 c6) (by simp only;omega) (by simp only;omega)
  ·rw [List.take_of_length_le (show d.seen.length≤i by rw [decide_eq_false_iff_not] at h2;omega)]
   have hall:d.seen.flatten.length=d.sure.length * 64:=by rw [flat_seen hd.l2,hlen]
   refine WP.sh (u:=u5) ?_
   rintro a5 n5 c5 rfl
   refine WP.exit<|PO.past nofun<|PO.round nofun<|PO.blockX<|PO.next<|WP.seq<|WP.reg<|WL.e e_move<|WL.e (e_build z244 p244 (.o (.tmp 31) rfl<|.z (.int .i64 0)<|.n))<|WL.e (e_build z246 p246 (.a2 (.tmp 32) rfl<|.n)) ?_
   refine WL.h (h_box fun b3=>?_)
   refine WL.h' (h_store s166 ?_)
   refine WL.next<|WP.seq<|WP.seq<|WP.reg<|WL.e e_move ?_
   refine WL.h (h_call (found_spec (w:=⟨a5,n5,c5⟩)) k154 ?_)
   intro c1
   refine WL.next<|WP.block<|WP.nils 34 1 recC none ?_
   refine WP.conv (fun S h=>RecsR_nil h) ?_
   refine WP.cls (A:=OpJ b1 b3 b2 p []) (B:=[cl b1 166 [.pointer (some ⟨b3,0,none⟩)],cl b3 246 [.pointer (some ⟨p,0,none⟩),.int .i64 (tot ([]))],cl b2 167 [.slice none 0 0],Sl 34 1 recC (.slice none 0 0) ([]),RecsR ([])]) (fun S h=>⟨⟨none,0,0⟩,h⟩) ?_
   refine WP.range (R:=?RR) (f:=208) (fs:=[]) (cs:=[.pointer (some ⟨c1,0,none⟩)]) (OpJ b1 b3 b2 p) (fun _ _ _=>pu True) (fun _ _=>True) (found_iter (A:=Sl 5 1 eB (.slice a5 n5 c5) d.seen.flatten) (w:=⟨a5,n5,c5⟩) (b:=d.seen.flatten) sl_rl (by omega)) k208 ?hLL ?_ ?_ ?_ (fun _=>rfl)
   case hLL=>repeat first | exact .nil | exact Pick.z | apply Pick.s | apply Split.cons
   ·rintro lb db fn tmps pre ⟨⟨a7,n7,c7⟩,r,m⟩ R2 hp hh
    have htl:=tot_le hp
    rw [tot_snoc,List.length_append] at htl
    simp only [List.length_cons,List.length_nil] at htl
    refine WP.opn (B:=fun sv:SV=>[cl b1 166 [.pointer (some ⟨b3,0,none⟩)],cl b3 246 [.pointer (some ⟨p,0,none⟩),.int .i64 (tot (pre))],cl b2 167 [sv.v],Sl 34 1 recC (sv.v) (pre),RecsR (pre)]) (fun _ h=>h) fun sv=>?_
    refine WP.seq<|WP.reg<|WL.e e_assign<|WL.next<|WP.reg<|WL.e e_assign<|WL.nil<|PO.asg rfl (by repeat first | exact .z | apply Put.s)<|WP.block<|WP.seq<|WP.reg<|WL.e (e_load a167)<|WL.e e_move ?_
    refine WL.h (h_bs sl167 z34 (.o (.tmp 40) rfl<|.n) fun b4=>?_)
    refine WL.h (hl_append (xs:=pre) (ys:=[((⟨a7,n7,c7⟩,r,m):RecV)]) sl167 recCE z34 (lit_rl recCE [((⟨a7,n7,c7⟩,r,m):RecV)] rfl) (by simp;omega) (fun a8 n8 c8=>?_))
    refine WL.h' (h_store s167 ?_)
    refine WL.next<|WP.reg<|WL.e (e_load a166)<|WL.e e_nil<|WL.e (e_fa f246_0)<|WL.e (e_fa f244_1)<|WL.e (e_load a3)<|WL.e e_move<|WL.e (e_add (c:=((tot (pre++[((⟨a7,n7,c7⟩,r,m):RecV)]):Nat):Int)) rfl rfl (by rw [tot_snoc];simp only;rw [w_i64 (by omega) (by omega)];omega))<|WL.e e_nil<|WL.e (e_fa f246_0)<|WL.e (e_fa f244_1) ?_
    refine WL.h' (h_store s3 ?_)
    refine WL.nil<|PO.blockN<|PO.cls (B:=[RecsR pre,recR (⟨a7,n7,c7⟩,r,m)]) RecsR_snoc ?_
    refine PO.cls (A:=OpJ b1 b3 b2 p (pre++[((⟨a7,n7,c7⟩,r,m):RecV)])) (B:=[cl b1 166 [.pointer (some ⟨b3,0,none⟩)],cl b3 246 [.pointer (some ⟨p,0,none⟩),.int .i64 (tot (pre++[((⟨a7,n7,c7⟩,r,m):RecV)]))],cl b2 167 [.slice a8 n8 c8],Sl 34 1 recC (.slice a8 n8 c8) (pre++[((⟨a7,n7,c7⟩,r,m):RecV)]),RecsR (pre++[((⟨a7,n7,c7⟩,r,m):RecV)])]) (fun S h=>⟨⟨a8,n8,c8⟩,h⟩) ?_
    exact PO.rnd trivial (by repeat first | exact .refl | exact Pick.z | apply Pick.s | apply Sub.cons | apply Sub.drop)
   ·intro db xs hx hh
    have htl:=tot_le (hx ▸ List.prefix_refl _:xs.map (·.2) <+: recs d.seen.flatten)
    refine PO.opn (B:=fun sv:SV=>[cl b1 166 [.pointer (some ⟨b3,0,none⟩)],cl b3 246 [.pointer (some ⟨p,0,none⟩),.int .i64 (tot (xs))],cl b2 167 [sv.v],Sl 34 1 recC (sv.v) (xs),RecsR (xs)]) (fun _ h=>h) fun sv=>?_
    refine PO.blockN<|PO.next<|WP.seq<|WP.reg ?_
    refine WL.h (hl_make (enc:=eB) (n:=64) (0:UInt8) sl34 z5 (by omega) (fun a9 n9 c9=>?_))
    refine WL.e e_assign<|WL.next<|WP.seq<|WP.seq<|WP.reg<|WL.e (e_load a166)<|WL.e e_nil<|WL.e (e_fa f246_0)<|WL.e (e_fa f244_1)<|WL.e (e_load a3)<|WL.e e_assign<|WL.next<|WP.block<|WP.loopK (fun (k:Nat)=>[(12,.int .i64 (tot xs+k:Nat))]) (fun (k:Nat)=>[cl b1 166 [.pointer (some ⟨b3,0,none⟩)],cl b3 246 [.pointer (some ⟨p,0,none⟩),.int .i64 (tot (xs))],cl b2 167 [sv.v],Sl 34 1 recC (sv.v) (xs),RecsR (xs)]++(Sl 5 1 eB (.slice a5 n5 c5) d.seen.flatten::Sl 5 1 eB (.slice a9 n9 c9) (List.replicate 64 0)::Dk p (cleanTo d.seen.flatten d (tot xs) k)::pt db (.deferred (some []))::R)) [(0,_),(2,_),(3,_),(4,_),(5,_),(11,_)] (fun (k:Nat)=>tot xs+k≤d.sure.length) (fun (k:Nat)=>d.sure.length - k) 0 (by omega) ?_
    intro k hk
    obtain ⟨hok,hsu,hwt⟩:=cleanTo_ok d.seen.flatten d (tot xs) k hd
    refine WP.seq<|WP.seq<|WP.reg<|WL.e e_move<|WL.e e_move ?_
    refine WL.h (h_call (Size_spec) k152 ?_)
    refine WL.e e_lss<|WL.next ?_
    refine WP.cond rfl (fun h4=>?_) (fun h4=>?_)
    ·have hlt:tot xs+k < d.sure.length:=by rw [decide_eq_true_eq,hsu] at h4;omega
     refine WP.skip<|PO.next<|WP.seq<|WP.block<|WP.seq<|WP.reg<|WL.e e_move<|WL.e e_move<|WL.e (e_mul (c:=(((tot xs+k) * 64:Nat):Int)) rfl rfl (by rw [w_i64 (by omega) (by omega)];omega))<|WL.e e_move<|WL.e (e_add (c:=((tot xs+k+1:Nat):Int)) rfl rfl (by rw [w_i64 (by omega) (by omega)];omega))<|WL.e (e_mul (c:=(((tot xs+k+1) * 64:Nat):Int)) rfl rfl (by rw [w_i64 (by omega) (by omega)];omega))<|WL.e (el_fromto (lo:=(tot xs+k) * 64) (hi:=(tot xs+k+1) * 64) (xs:=d.seen.flatten) sl34 sl_rl (by omega) (by omega))<|WL.e e_move ?_
     refine WL.h (h_call (BEqual_spec (xs:=(d.seen.flatten.drop ((tot xs+k) * 64)).take 64) (ys:=List.replicate 64 0) (by have:=RL.sub (lo:=(tot xs+k) * 64) (hi:=(tot xs+k+1) * 64) (mx:=none) eB_ok (sl_rl (E:=5) (z:=1) (enc:=eB) (u:=.slice a5 n5 c5) (xs:=d.seen.flatten)) (by omega) (by omega) (by simp);rwa [show (tot xs+k+1) * 64 - (tot xs+k) * 64=64 by omega] at this) sl_rl) k155 ?_)
     refine WL.e e_not<|WL.next ?_
     refine WP.cond rfl (fun h5=>?_) (fun h5=>?_)
     ·replace h5:¬ (d.seen.flatten.drop ((tot xs+k) * 64)).take 64=List.replicate 64 0:=by simpa using h5
      refine WP.reg<|WL.e e_move<|WL.e e_move<|WL.e e_move ?_
      refine WL.h (h_call (Write_spec (d:=(cleanTo d.seen.flatten d (tot xs) k)) (b:=List.replicate 64 0) (tot xs+k) sl_rl (by rw [hsu];exact hlt) hok.len hok.le (by simp) (by omega)) k156 ?_)
      refine WL.nil<|PO.blockN<|PO.next<|WP.reg<|WL.e e_move<|WL.e (e_add (c:=((tot xs+(k+1):Nat):Int)) rfl rfl (by rw [w_i64 (by omega) (by omega)];omega))<|WL.e e_assign<|WL.nil ?_
      rw [show (cleanTo d.seen.flatten d (tot xs) k).write (tot xs+k) (List.replicate 64 0)=cleanTo d.seen.flatten d (tot xs) (k+1) by rw [cleanTo,if_neg h5]]
      exact PO.againK (k+1) (by omega) (by omega)
     ·replace h5:(d.seen.flatten.drop ((tot xs+k) * 64)).take 64=List.replicate 64 0:=by simpa using h5
      refine WP.skip<|PO.blockN<|PO.next<|WP.reg<|WL.e e_move<|WL.e (e_add (c:=((tot xs+(k+1):Nat):Int)) rfl rfl (by rw [w_i64 (by omega) (by omega)];omega))<|WL.e e_assign<|WL.nil ?_
      rw [show (cleanTo d.seen.flatten d (tot xs) k)=cleanTo d.seen.flatten d (tot xs) (k+1) by rw [cleanTo,if_pos h5]]
      exact PO.againK (k+1) (by omega) (by omega)
    ·obtain rfl:k=d.sure.length - tot xs:=by rw [decide_eq_false_iff_not,hsu] at h4;omega
     refine WP.exit<|PO.past nofun<|PO.round nofun<|PO.blockX<|PO.next<|WP.seq<|WP.draws mixedOk 7<|RW.e 0 rfl (e_load a166)<|RW.e 1 rfl (e_load a167)<|RW.e 2 rfl e_move ?_
     refine RW.any (is:=[3]) rfl ⟨?_,trivial⟩
     refine RWat.h rfl rfl rfl ?_
     refine (h_call (Sync_spec hok.pos hok.len) k157 ?_)
     refine ⟨⟨⟨_,rfl,.inl ⟨rfl,(e_load a167)⟩⟩,⟨_,rfl,.inl ⟨rfl,(e_load a166)⟩⟩,trivial⟩,?_⟩
     refine RW.any (is:=[4]) rfl ⟨?_,trivial⟩
     refine RWat.h' rfl rfl rfl ?_
     refine (h_store s166 ?_)
     refine ⟨⟨⟨_,rfl,.inl ⟨rfl,(e_load a167)⟩⟩,trivial⟩,?_⟩
     refine RW.any (is:=[5]) rfl ⟨?_,trivial⟩
     refine RWat.h' rfl rfl rfl ?_
     refine (h_store s167 ?_)
     refine ⟨trivial,?_⟩
     refine RW.e 6 rfl e_assign<|RW.done<|PO.next<|WP.ret ?_
     exact PO.finM (by repeat first | exact .z | apply Put.s) Tryz.results97 (rv_cell a166 (rv_cell a167 (rv_tmp rv_nil))) (hK b3 sv xs hx)
   ·exact fun _ _ _ _ _ _ hc=>absurd trivial hc
end Go.SL
namespace Go.SL
open Go
def cmpS (a b:ByteArray):Int:=if sLt a b then -1 else if sLt b a || sEq a b then (if sEq a b then 0 else 1) else 1
theorem sEq_iff {a b:ByteArray}:sEq a b=true↔a=b:=by
  simp only [sEq,beq_iff_eq]
  constructor
  · intro h
    rw [ByteArray.ext_iff]
    apply Array.ext'
    simpa [ByteArray.toList_eq] using h
  · rintro rfl;rfl
theorem bl_irrefl:∀ l:List UInt8,Op.bytesLess l l=false
  | []=>rfl
  | a::l=>by simp [Op.bytesLess,bl_irrefl l]
theorem bl_trans:∀ {a b c:List UInt8},Op.bytesLess a b=true→Op.bytesLess b c=true→Op.bytesLess a c=true
  | [],[],_,h,_=>by simp [Op.bytesLess] at h
  | [],_::_,[],_,h=>by simp [Op.bytesLess] at h
  | [],_::_,_::_,_,_=>by simp [Op.bytesLess]
  | _::_,[],_,h,_=>by simp [Op.bytesLess] at h
  | _::_,_::_,[],_,h=>by simp [Op.bytesLess] at h
  | x::a,y::b,z::c,h,h'=>by
    simp only [Op.bytesLess,Bool.or_eq_true,Bool.and_eq_true,decide_eq_true_eq,beq_iff_eq] at h h' ⊢
    rcases h with h | ⟨rfl,h⟩ <;> rcases h' with h' | ⟨rfl,h'⟩
    · left;exact UInt8.lt_trans h h'
    · exact .inl h
    · exact .inl h'
    · exact .inr ⟨rfl,bl_trans h h'⟩
theorem bl_tri:∀ (a b:List UInt8),Op.bytesLess a b=true∨a=b∨Op.bytesLess b a=true
  | [],[]=>.inr (.inl rfl)
  | [],_::_=>.inl (by simp [Op.bytesLess])
  | _::_,[]=>.inr (.inr (by simp [Op.bytesLess]))
  | x::a,y::b=>by
    simp only [Op.bytesLess,Bool.or_eq_true,Bool.and_eq_true,decide_eq_true_eq,beq_iff_eq,List.cons.injEq]
    rcases UInt8.lt_or_lt_of_ne_or_eq x y with h | h | h
    · exact .inl (.inl h)
    · exact .inr (.inr (.inl h))
    · subst h
      rcases bl_tri a b with h | h | h
      · exact .inl (.inr ⟨rfl,h⟩)
      · exact .inr (.inl ⟨rfl,h⟩)
      · exact .inr (.inr (.inr ⟨rfl,h⟩))
where
  UInt8.lt_or_lt_of_ne_or_eq (x y:UInt8):x < y∨y < x∨x=y:=by
    rcases Nat.lt_trichotomy x.toNat y.toNat with h | h | h
    · exact .inl (UInt8.lt_iff_toNat_lt.2 h)
    · exact .inr (.inr (UInt8.toNat_inj.1 h))
    · exact .inr (.inl (UInt8.lt_iff_toNat_lt.2 h))
theorem sLt_irrefl (a:ByteArray):sLt a a=false:=bl_irrefl _
theorem sLt_trans {a b c:ByteArray} (h:sLt a b=true) (h':sLt b c=true):sLt a c=true:=bl_trans h h'
theorem sLt_tri (a b:ByteArray):sLt a b=true∨a=b∨sLt b a=true:=by
  rcases bl_tri a.toList b.toList with h | h | h
  · exact .inl h
  · refine .inr (.inl (sEq_iff.1 ?_));simp [sEq,h]
  · exact .inr (.inr h)
theorem sLt_asymm {a b:ByteArray} (h:sLt a b=true):sLt b a=false:=by
  cases e:sLt b a with
  | false=>rfl
  | true=>have:=sLt_trans h e;rw [sLt_irrefl] at this;cases this
def Rising (l:List RowM):Prop:=l.Pairwise fun a b=>sLt a.key b.key=true
def lowI (l:List RowM) (k:ByteArray):Nat:=(l.takeWhile fun r=>sLt r.key k).length
def hasI (l:List RowM) (k:ByteArray):Bool:=match l[lowI l k]? with
  | some r=>sEq r.key k
  | none=>false
theorem lowI_le (l:List RowM) (k:ByteArray):lowI l k≤l.length:=(List.takeWhile_sublist _).length_le
theorem low_le {l:List RowM} {k:ByteArray} {h:Nat} {x:RowM} (hx:l[h]?=some x) (hp:sLt x.key k=false):lowI l k≤h:=by
  induction l generalizing h with
  | nil=>simp at hx
  | cons a l ih=>
    unfold lowI at *
    rw [List.takeWhile_cons]
    cases h with
    | zero=>simp at hx;subst hx;simp [hp]
    | succ h=>
      simp at hx
      split
      · simp;exact ih hx
      · simp
theorem low_gt {l:List RowM} {k:ByteArray} (hl:Rising l) {h:Nat} {x:RowM} (hx:l[h]?=some x) (hp:sLt x.key k=true):h < lowI l k:=by
  induction l generalizing h with
  | nil=>simp at hx
  | cons a l ih=>
    have hr:=List.pairwise_cons.1 hl
    unfold lowI at *
    rw [List.takeWhile_cons]
    cases h with
    | zero=>simp at hx;subst hx;simp [hp]
    | succ h=>
      simp at hx
      have ha:sLt a.key k=true:=sLt_trans (hr.1 x (List.mem_of_getElem? hx)) hp
      simp [ha];exact ih hr.2 hx
theorem cmpS_lt (a b:ByteArray):decide (cmpS a b < 0)=sLt a b:=by
  unfold cmpS
  cases sLt a b <;> simp
  split <;> (try split) <;> simp
theorem cmpS_eq {a b:ByteArray}:(cmpS a b == 0)=sEq a b:=by
  unfold cmpS
  by_cases h:sEq a b=true
  · have:=sEq_iff.1 h;subst this;simp [sLt_irrefl,h]
  · simp only [Bool.not_eq_true] at h
    rw [h];split <;> (try split) <;> simp_all
end Go.SL
