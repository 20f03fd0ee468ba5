import Derived.Test.YtmeoolijekillaaGreatDoorQL14
import Derived.ProofKit
import Derived.Below
import Derived.Carry
import Derived.Lib.SmallJoins
import Derived.OpenShut
import Derived.ShutString
import Derived.ChangeOld
import Derived.Laws.StructEq
set_option linter.unusedSimpArgs false
set_option linter.unusedVariables false
namespace Go.SL.Fc
open Go Go.Proofs Go.SL
theorem a108:aggOf Tryz.prog 108=some none:=by kernel_rfl
theorem f59_1:fldOf Tryz.prog 59 1=some 1:=by kernel_rfl
theorem k105:callable Tryz.prog 105=true:=by kernel_rfl
theorem k107:callable Tryz.prog 107=true:=by kernel_rfl
theorem k169:callable Tryz.prog 169=true:=by kernel_rfl
theorem k222:callable Tryz.prog 222=true:=by kernel_rfl
theorem k231:callable Tryz.prog 231=true:=by kernel_rfl
theorem k283:callable Tryz.prog 283=true:=by kernel_rfl
theorem p59:placesOf Tryz.prog 59=some [(0,1),(1,1)]:=by kernel_rfl
theorem s24:szOf Tryz.prog 24=some 1:=by kernel_rfl
theorem s59:szOf Tryz.prog 59=some 2:=by kernel_rfl
theorem z24:zeroOf Tryz.prog 24=some [.slice none 0 0]:=by kernel_rfl
end Go.SL.Fc
namespace Go.SL
open Go Go.Proofs Fc
theorem Insert_at {g:World} {u:Value} {xs:List RowM} {i:Nat} {x:RowM} {bv:Nat} (hi:i≤xs.length) (hn:xs.length≤68719476000) :
  Spec Tryz.prog g 169 [u,.int .i64 i,.slice (some ⟨bv,0,none⟩) 1 1] [Sl 59 2 RowM.c u xs,cl bv 59 (RowM.c x)] fun K R=>∀ a m c,K (.slice a m c) (Sl 59 2 RowM.c (.slice a m c) (xs.take i++x::xs.drop i)::R):=by
 have h:=Insert_spec (g:=g) (u:=u) (A:=xs.take i) (D:=xs.drop i) (x:=x) (bv:=bv) (by rw [List.take_append_drop];exact hn)
 rw [List.take_append_drop,List.length_take_of_le hi] at h
 exact h
theorem set_spec {g:World} {p:Nat} {l:List RowM} (k:ByteArray) (v:UInt32) (hl:Rising l) (hn:l.length≤68719476000):Spec Tryz.prog g 107 [.pointer (some ⟨p,0,none⟩),.string k,.int .u32 v.toNat] [Mm p l] fun K R=>K (.tuple #[]) (Mm p (setR l k v)::R):=by
 refine Spec.intro Tryz.func107 rfl Tryz.ntmps107 rfl fun R K hK=>?_
 refine WP.seq<|WP.reg<|WL.e e_move<|WL.e e_move ?_
 refine WL.h (h_call (find_spec k hl (by omega)) k105 ?_)
 refine WL.e e_move<|WL.e e_extract<|WL.e e_extract<|WL.e e_assign<|WL.e e_assign<|WL.next<|WP.seq<|WP.seq<|WP.reg<|WL.e e_move<|WL.e e_not<|WL.next ?_
 refine WP.cond rfl (fun h1=>?_) (fun h1=>?_)
 ·replace h1:hasI l k=false:=by simpa using h1
  have hle:=lowI_le l k
  refine WP.opn (Mm_op (p:=p) (l:=l)) fun s=>?_
  refine WP.reg<|WL.e e_move<|WL.e e_move<|WL.e e_nil<|WL.e (e_fa f188_0)<|WL.e (e_load a24)<|WL.e e_move<|WL.e e_move<|WL.e (e_build z59 p59 (.o (.tmp 22) rfl<|.z (.int .u32 0)<|.n)) ?_
  refine WL.h (h_bs sl24 z59 (.a2 (.tmp 23) rfl<|.n) fun b1=>?_)
  refine WL.h (h_call (Insert_at (i:=lowI l k) (xs:=l) (x:=⟨k,0⟩) hle hn) k169 ?_)
  intro a m c
  refine WL.e e_nil<|WL.e (e_fa f188_0) ?_
  refine WL.h' (h_store s24 ?_)
  refine WL.next<|WP.reg<|WL.e e_move<|WL.e e_nil<|WL.e (e_fa f188_0)<|WL.e (e_load a24)<|WL.e e_move<|WL.e e_move<|WL.e (el_ia (j:=lowI l k) (xs:=l.take (lowI l k)++⟨k,0⟩::l.drop (lowI l k)) sl24 sl_rl (by simp;omega))<|WL.e (el_fa (z:=2) (j:=lowI l k) (xs:=l.take (lowI l k)++⟨k,0⟩::l.drop (lowI l k)) f59_1 sl_rl (by simp;omega)) ?_
  refine WL.h' (hl_set (y:=0) (j:=0) (f:=lowI l k * 2+1) (n:=(l.take (lowI l k)++⟨k,0⟩::l.drop (lowI l k)).length) (z:=2) (E:=59) (cs:=(l.take (lowI l k)++⟨k,0⟩::l.drop (lowI l k)).flatMap RowM.c) s35 (by simp;omega) ?_ rfl)
  rw [flat_setF (xs:=l.take (lowI l k)++⟨k,0⟩::l.drop (lowI l k)) (a:=⟨k,0⟩) (a':=⟨k,v⟩) rowE (by rw [List.getElem?_append_right (by simp;omega)];simp [Nat.min_eq_left hle]) (by decide) rfl]
  refine WL.nil ?_
  rw [set_app (by simp;omega),show l.take (lowI l k)++⟨k,v⟩::l.drop (lowI l k)=setR l k v by rw [setR,if_neg (by simp [h1])]]
  refine PO.cls (A:=Mm p (setR l k v)) (B:=[cl p 188 [.slice a m c,.bool true],Own 59 2 (.slice a m c) _ _]) (fun S h=>⟨⟨a,m,c⟩,by unfold Sl;rwa [show (setR l k v).length=(l.take (lowI l k)++⟨k,0⟩::l.drop (lowI l k)).length by rw [setR,if_neg (by simp [h1])];simp]⟩) ?_
  exact PO.fin Tryz.results107 rv_nil hK
 ·replace h1:hasI l k=true:=by simpa using h1
  refine WP.opn (Mm_op (p:=p) (l:=l)) fun s=>?_
  refine WP.skip<|PO.next<|WP.reg<|WL.e e_move<|WL.e e_nil<|WL.e (e_fa f188_0)<|WL.e (e_load a24)<|WL.e e_move<|WL.e e_move<|WL.e (el_ia (j:=lowI l k) (xs:=l) sl24 sl_rl (has_lt h1))<|WL.e (el_fa (z:=2) (j:=lowI l k) (xs:=l) f59_1 sl_rl (has_lt h1)) ?_
  obtain ⟨u,hu⟩:=has_at h1
  refine WL.h' (hl_set (y:=0) (j:=0) (f:=lowI l k * 2+1) (n:=l.length) (z:=2) (E:=59) (cs:=l.flatMap RowM.c) s35 (by have:=has_lt h1;omega) ?_ rfl)
  rw [flat_setF (xs:=l) (a:=⟨k,u⟩) (a':=⟨k,v⟩) rowE hu (by decide) rfl]
  refine WL.nil ?_
  rw [show l.set (lowI l k) ⟨k,v⟩=setR l k v by rw [setR,if_pos h1]]
  refine PO.cls (A:=Mm p (setR l k v)) (B:=[cl p 188 [s.v,.bool true],Own 59 2 s.v _ _]) (fun S h=>⟨s,by unfold Sl;rwa [show (setR l k v).length=l.length by rw [setR,if_pos h1];simp]⟩) ?_
  exact PO.fin Tryz.results107 rv_nil hK
def rowV (r:RowM):List Value:=[r.v]
theorem in_iter {g:World} {c1 c2 p:Nat} {s:SpanM} {l:List RowM} (hl:Rising l) (hn:l.length≤68719476000) :
  Iter Tryz.prog g 283 (fun y=>[]++[y]++[.pointer (some ⟨c1,0,none⟩),.pointer (some ⟨c2,0,none⟩)]) [cl c1 108 [.pointer (some ⟨p,0,none⟩)],cl c2 132 [.string s.a,.string s.b],Mm p l] rowV (fun _=>pu True) (fun xs=>xs=(l.filter fun r=>inSpan s r.key)) (fun pre=>pre <+: (l.filter fun r=>inSpan s r.key)) [Mm p l]:=by
 intro y J X cont hy
 refine Spec.intro Tryz.func283 rfl Tryz.ntmps283 rfl fun R K hK=>?_
 refine WP.seq<|WP.seq<|WP.reg<|WL.e (e_load a108) ?_
 refine WL.h (h_call (Mthere_spec) k104 ?_)
 refine WL.e e_not<|WL.e e_move ?_
 refine WL.bool 11 rfl (fun h=>?_) (fun h=>?_)
 ·cases h 
 ·skip
  refine WL.e (e_loadN a132)<|WL.e (e_loadN a132) ?_
  refine WL.h (h_call (Meet_spec ⟨_,_⟩ ⟨_,_⟩) k222 ?_)
  refine WL.e e_not<|WL.e e_pick_f<|WL.next ?_
  refine WP.cond rfl (fun h1=>?_) (fun h1=>?_)
  ·replace h1:meet s s=false:=by simpa using h1
   refine WP.ret<|PO.past nofun ?_
   exact PO.fin Tryz.results283 rv_nil (hK.1 [] (meet_self h1).symm Hist.nil)
  ·replace h1:meet s s=true:=by simpa using h1
   refine WP.skip<|PO.next<|WP.seq<|WP.reg<|WL.e (e_load a108)<|WL.e (e_fa f132_0)<|WL.e (e_load a9) ?_
   refine WL.h (h_call (find_spec s.a hl (by omega)) k105 ?_)
   refine WL.opn (Mm_op (p:=p) (l:=l)) fun sv=>?_
   have hD:RL (Sl 59 2 RowM.c sv.v l) 2 RowM.c (subV sv.v (lowI l s.a) l.length none 2) (l.drop (lowI l s.a)):=RL.from_ rowE sl_rl (lowI_le l s.a)
   have hDl:(l.drop (lowI l s.a)).length≤l.length:=by simp
   refine WL.e e_move<|WL.e e_extract<|WL.e e_extract<|WL.e e_assign<|WL.e e_assign<|WL.next<|WP.seq<|WP.reg<|WL.e (e_load a108)<|WL.e e_nil<|WL.e (e_fa f188_0)<|WL.e (e_load a24)<|WL.e e_move<|WL.e (el_from (lo:=lowI l s.a) (xs:=l) sl24 sl_rl (lowI_le l s.a))<|WL.e (el_len (xs:=(l.drop (lowI l s.a))) sl24 hD)<|WL.e e_move<|WL.next<|WP.block<|WP.loopK (fun (k:Nat)=>[(31,.int .i64 k)]) (fun (k:Nat)=>J ((l.drop (lowI l s.a)).take k)::cl p 188 [sv.v,.bool true]::Sl 59 2 RowM.c sv.v l::cl c1 108 [.pointer (some ⟨p,0,none⟩)]::cl c2 132 [.string s.a,.string s.b]::R) [(0,_),(2,_),(29,_),(30,_)] (fun (k:Nat)=>k≤(l.drop (lowI l s.a)).length∧(∀ r ∈ (l.drop (lowI l s.a)).take k,(!sLt s.b r.key)=true)∧Hist cont ((l.drop (lowI l s.a)).take k)) (fun (k:Nat)=>(l.drop (lowI l s.a)).length - k) 0 (⟨Nat.zero_le _,by simp,by simpa using Hist.nil⟩) ?_
   rintro k ⟨hk1,hk2,hk3⟩
   refine WP.seq<|WP.reg<|WL.e e_lss<|WL.next<|WP.seq ?_
   refine WP.cond rfl (fun h2=>?_) (fun h2=>?_)
   ·have hlt:k < (l.drop (lowI l s.a)).length:=by rw [decide_eq_true_eq] at h2;omega
    obtain ⟨x,hx⟩:∃ x,(l.drop (lowI l s.a))[k]?=some x:=⟨_,List.getElem?_eq_getElem hlt⟩
    refine WP.skip<|PO.next<|WP.seq<|WP.block<|WP.seq<|WP.reg<|WL.e (el_ia (j:=k) (xs:=(l.drop (lowI l s.a))) sl24 hD hlt)<|WL.e (el_loadN (a:=x) a59 rowE hD hx) ?_
    refine WL.h (h_alloc z59 fun b1=>?_)
    refine WL.h' (h_store s59 ?_)
    refine WL.next<|WP.seq<|WP.reg<|WL.e (e_fa f59_0)<|WL.e (e_load a9)<|WL.e (e_fa f132_1)<|WL.e (e_load a9)<|WL.e e_sgt<|WL.e e_move ?_
    refine WL.bool 40 rfl (fun h3=>?_) (fun h3=>?_)
    ·rw [sgt_eq] at h3
     refine WL.skip<|WL.skip<|WL.skip<|WL.skip<|WL.e e_pick_t<|WL.next<|WP.cond_t rfl<|WP.ret<|PO.blockR<|PO.past nofun<|PO.round nofun<|PO.blockR<|PO.cls (A:=Mm p l) (B:=[cl p 188 [sv.v,.bool true],Sl 59 2 RowM.c (sv.v) l]) (fun S h=>⟨sv,h⟩) ?_
     exact PO.fin Tryz.results283 rv_nil (hK.1 _ (by rw [← scan_eq hl];exact (tw_stop hk2 hx (by simp [h3])).symm) hk3)
    ·rw [sgt_eq] at h3
     have hpf:(l.drop (lowI l s.a)).take k++[x] <+: (l.filter fun r=>inSpan s r.key):=by rw [← scan_eq hl];exact tw_more hk2 hx (by simp [h3])
     refine WL.e e_move<|WL.e (e_loadN a59) ?_
     refine WL.h (HO.conv (fun S h=>pu_stars trivial h) (h_cally (hy ((l.drop (lowI l s.a)).take k) x hpf hk3) ?_))
     refine ⟨fun hc=>?_,fun hc=>?_⟩
     ·skip
      refine WL.e e_not<|WL.e e_pick_f<|WL.next<|WP.cond_f rfl<|WP.skip<|PO.blockN<|PO.next<|WP.reg<|WL.e (e_add rfl rfl (w_i64 (by omega) (by omega)))<|WL.e e_move<|WL.nil ?_
      rw [← take_snoc hx]
      exact PO.againK (k+1) ⟨by omega,by rw [take_snoc hx];intro r hr;rcases List.mem_append.1 hr with h | h;exact hk2 r h;simp at h;subst h;simpa using h3,by rw [take_snoc hx];exact hk3.snoc hc⟩ (by omega)
     ·skip
      refine WL.e e_not<|WL.e e_pick_f<|WL.next<|WP.cond_t rfl<|WP.ret<|PO.blockR<|PO.past nofun<|PO.round nofun<|PO.blockR<|PO.cls (A:=Mm p l) (B:=[cl p 188 [sv.v,.bool true],Sl 59 2 RowM.c (sv.v) l]) (fun S h=>⟨sv,h⟩) ?_
      exact PO.fin Tryz.results283 rv_nil (hK.2 _ x hpf hk3 hc)
   ·have hall:(l.drop (lowI l s.a)).take k=(l.filter fun r=>inSpan s r.key):=by rw [← scan_eq hl,List.take_of_length_le (by rw [decide_eq_false_iff_not] at h2;omega),tw_all];intro r hr;exact hk2 r (by rw [List.take_of_length_le (by rw [decide_eq_false_iff_not] at h2;omega)];exact hr)
    refine WP.exit<|PO.past nofun<|PO.round nofun<|PO.blockX<|PO.cls (A:=Mm p l) (B:=[cl p 188 [sv.v,.bool true],Sl 59 2 RowM.c (sv.v) l]) (fun S h=>⟨sv,h⟩) ?_
    exact PO.fin Tryz.results283 rv_nil (hK.1 _ hall hk3)
theorem in_spec {g:World} {p:Nat} (s:SpanM):Spec Tryz.prog g 231 [.pointer (some ⟨p,0,none⟩),s.v] [] fun K R=>∀ c1 c2,K (.func (.func 283) #[] #[.pointer (some ⟨c1,0,none⟩),.pointer (some ⟨c2,0,none⟩)]) (cl c1 108 [.pointer (some ⟨p,0,none⟩)]::cl c2 132 [.string s.a,.string s.b]::R):=by
 refine Spec.intro Tryz.func231 rfl Tryz.ntmps231 rfl fun R K hK=>?_
 refine WP.seq<|WP.reg ?_
 refine WL.h (h_box fun b1=>?_)
 refine WL.h (h_box fun b2=>?_)
 refine WL.e e_assign<|WL.next<|WP.seq<|WP.reg<|WL.e e_makeFunc<|WL.e e_assign<|WL.next<|WP.ret ?_
 exact PO.fin Tryz.results231 (rv_tmp rv_nil) (hK b1 b2)
def ScJ (b b2 most:Nat) (pre:List RowM):HP:=fun S=>∃ sv:SV,stars [cl b2 3 [.int .i64 most],cl b 24 [sv.v],Sl 59 2 RowM.c sv.v pre] S
def ScX (b b2 most:Nat) (pre:List RowM) (x:RowM) (j:Code):HP:=fun S=>∃ sv:{ sv:SV // j=.exit 0 },stars [cl b2 3 [.int .i64 most],cl b 24 [sv.1.v],Sl 59 2 RowM.c sv.1.v pre] S
theorem hist_len {α:Type} {most:Nat} {xs:List α} (h:Hist (fun (pre:List α) _=>pre.length < most) xs):xs.length≤most:=by
 rcases List.eq_nil_or_concat xs with rfl | ⟨l,x,rfl⟩
 ·simp
 ·have:=h l x [] (by simp);simp;omega
theorem Scan_spec {g:World} {p:Nat} {l:List RowM} (s:SpanM) (most:Nat) (hl:Rising l) (hn:l.length≤68719476000) (hm:most≤68719476000):Spec Tryz.prog g 172 [.pointer (some ⟨p,0,none⟩),s.v,.int .i64 most] [Mm p l] fun K R=>∀ a m c,K (.slice a m c) (Sl 59 2 RowM.c (.slice a m c) (scanR l s most)::Mm p l::R):=by
 refine Spec.intro Tryz.func172 rfl Tryz.ntmps172 rfl fun R K hK=>?_
 refine WP.seq<|WP.reg ?_
 refine WL.h (h_box fun b1=>?_)
 refine WL.h (h_box fun b2=>?_)
 refine WL.h (h_alloc z24 fun b3=>?_)
 refine WL.next<|WP.seq<|WP.seq<|WP.reg<|WL.e e_move<|WL.e (e_loadN a132) ?_
 refine WL.h (h_call (in_spec ⟨_,_⟩) k231 ?_)
 intro c1 c2
 refine WL.next<|WP.block<|WP.nils 59 2 RowM.c none ?_
 refine WP.cls (A:=ScJ b3 b2 most []) (B:=[cl b2 3 [.int .i64 most],cl b3 24 [.slice none 0 0],Sl 59 2 RowM.c (.slice none 0 0) ([])]) (fun S h=>⟨⟨none,0,0⟩,h⟩) ?_
 refine WP.range (R:=?RR) (f:=283) (fs:=[]) (cs:=[.pointer (some ⟨c1,0,none⟩),.pointer (some ⟨c2,0,none⟩)]) (ScJ b3 b2 most) (ScX b3 b2 most) (fun pre _=>pre.length < most) (in_iter (c1:=c1) (c2:=c2) (p:=p) (s:=s) hl hn) k283 ?hLL ?_ ?_ ?_ (fun _=>rfl)
 case hLL=>repeat first | exact .nil | exact Pick.z | apply Pick.s | apply Split.cons
 ·rintro lb db fn tmps pre x R2 hp hh
  have hlen:=hist_len hh
  refine WP.opn (B:=fun sv:SV=>[cl b2 3 [.int .i64 most],cl b3 24 [sv.v],Sl 59 2 RowM.c (sv.v) (pre)]) (fun _ h=>h) fun sv=>?_
  refine WP.reg ?_
  refine WL.h (h_alloc z59 fun b4=>?_)
  refine WL.h' (h_store s59 ?_)
  refine WL.nil<|PO.asg rfl (by repeat first | exact .z | apply Put.s)<|WP.block<|WP.seq<|WP.seq<|WP.reg<|WL.e (e_load a24)<|WL.e (el_len (xs:=pre) sl24 sl_rl)<|WL.e (e_load a3)<|WL.e e_geq<|WL.next ?_
  refine WP.cond rfl (fun h1=>?_) (fun h1=>?_)
  ·skip
   refine WP.exit<|PO.past nofun<|PO.blockY rfl<|PO.cls (A:=ScX b3 b2 most pre x (.exit 0)) (B:=[cl b2 3 [.int .i64 most],cl b3 24 [sv.v],Sl 59 2 RowM.c (sv.v) (pre)]) (fun S h=>⟨⟨sv,rfl⟩,h⟩) ?_
   exact PO.rnd_exit (by rw [decide_eq_true_eq] at h1;omega) (by repeat first | exact .refl | exact Pick.z | apply Pick.s | apply Sub.cons | apply Sub.drop)
  ·skip
   refine WP.skip<|PO.next<|WP.reg<|WL.e (e_load a24)<|WL.e (e_loadN a59) ?_
   refine WL.h (h_bs sl24 z59 (.a2 (.tmp 17) rfl<|.n) fun b5=>?_)
   refine WL.h (hl_append (xs:=pre) (ys:=[x]) sl24 rowE z59 (lit_rl rowE [x] rfl) (by simp;omega) (fun a2 n2 m2=>?_))
   refine WL.h' (h_store s24 ?_)
   refine WL.nil<|PO.blockN<|PO.cls (A:=ScJ b3 b2 most (pre++[x])) (B:=[cl b2 3 [.int .i64 most],cl b3 24 [.slice a2 n2 m2],Sl 59 2 RowM.c (.slice a2 n2 m2) (pre++[x])]) (fun S h=>⟨⟨a2,n2,m2⟩,h⟩) ?_
   exact PO.rnd (by rw [decide_eq_false_iff_not] at h1;omega) (by repeat first | exact .refl | exact Pick.z | apply Pick.s | apply Sub.cons | apply Sub.drop)
 ·intro db xs hx hh
  subst hx
  have hlen:=hist_len hh
  rw [← show scanR l s most=l.filter fun r=>inSpan s r.key from List.take_of_length_le hlen]
  refine PO.opn (B:=fun sv:SV=>[cl b2 3 [.int .i64 most],cl b3 24 [sv.v],Sl 59 2 RowM.c (sv.v) (scanR l s most)]) (fun _ h=>h) fun sv=>?_
  refine PO.blockN<|PO.next<|WP.seq<|WP.reg<|WL.e (e_load a24) ?_
  refine WL.h' (h_store s24 ?_)
  refine WL.next<|WP.ret<|PO.sh (u:=sv.v) ?_
  intro a n c he
  rw [he]
  exact PO.finM (by repeat first | exact .z | apply Put.s) Tryz.results172 (rv_cell a24 rv_nil) (hK a n c)
 ·intro db pre x j hp hh hc
  have hlen:=hist_len hh
  refine WP.opn (B:=fun sv:{ sv:SV // j=.exit 0 }=>[cl b2 3 [.int .i64 most],cl b3 24 [sv.1.v],Sl 59 2 RowM.c (sv.1.v) (pre)]) (fun _ h=>h) fun sv=>?_
  obtain ⟨sv,rfl⟩:=sv
  obtain rfl:pre=scanR l s most:=by
   obtain ⟨t,ht⟩:=hp
   rw [scanR,← ht,show most=pre.length by omega];simp
  refine WP.exit<|PO.blockX<|PO.next<|WP.seq<|WP.reg<|WL.e (e_load a24) ?_
  refine WL.h' (h_store s24 ?_)
  refine WL.next<|WP.ret<|PO.sh (u:=sv.v) ?_
  intro a n c he
  rw [he]
  exact PO.finM (by repeat first | exact .z | apply Put.s) Tryz.results172 (rv_cell a24 rv_nil) (hK a n c)
end Go.SL
set_option linter.unusedSectionVars false
namespace Go.SL
open Go
def Old (w:World):HP:=fun S=>le (heapOf w) S
theorem sat_old (w:World):Sat w [Old w] w:=⟨rfl,rfl,rfl,Nat.le_refl _,heapOf w,fun _=>none,fun _=>.inr rfl,le_refl _,(fun _ _ h=>by cases h),le_refl _,trivial⟩
theorem old_below {w w':World} (h:Sat w [Old w] w'):Go.RowKit.Below w.heap.size w w':=by
  refine ⟨h.os,h.tape,h.output,h.size,fun k hk=>?_⟩
  obtain ⟨S1,S2,_,h1,_,h2,_⟩:=h.heap
  have e:w.heap[k]?=some w.heap[k]:=Array.getElem?_eq_getElem hk
  rw [e]
  exact h1 _ _ (h2 _ _ e)
theorem u32_wf {n:Int} (h:(Lit.int .u32 n).wf=true):n=((UInt32.ofNat n.toNat).toNat:Int):=by
  simp only [Lit.wf,Bool.and_eq_true,decide_eq_true_eq] at h
  rw [show IntKind.u32.min=0 from rfl,show IntKind.u32.max=4294967295 from rfl] at h
  have:(UInt32.ofNat n.toNat).toNat=n.toNat:=by simp;omega
  omega
end Go.SL
namespace Go.SL
open Go
instance:DecidableEq RowM:=fun a b=>decidable_of_iff (a.key=b.key∧a.val=b.val) ⟨fun ⟨h1,h2⟩=>by cases a;cases b;simp_all,fun h=>by subst h;exact ⟨rfl,rfl⟩⟩
end Go.SL
namespace Go.SL
open Go
def numsLate (nums:List (ByteArray × UInt32)) (num:UInt32) (p:SpanM):Bool:=nums.any fun x=>decide (num < x.2) && meet (one x.1) p
def setN (l:List (ByteArray × UInt32)) (k:ByteArray) (num:UInt32):List (ByteArray × UInt32):=match l.findIdx? (fun p=>decide (p.1=k)) with
 | some i=>l.set i (k,num)
 | none=>l++[(k,num)]
def keptG (nums:List (ByteArray × UInt32)) (num:UInt32) (cs:List ChgM):List (ByteArray × UInt32):=cs.foldl (fun l c=>setN l c.key num) nums
def numC (x:ByteArray × UInt32):ByteArray × Value:=(x.1,.int .u32 x.2.toNat)
def lookC (x:UInt32 × SpanM):List Value:=[.int .u32 x.1.toNat,.string x.2.a,.string x.2.b]
theorem map_mid {α β:Type} {f:α→β} {l:List α} {a b:List β} {y:β} (h:l.map f=a++y::b):∃ A t B,l=A++t::B∧a=A.map f∧y=f t∧b=B.map f:=by
 obtain ⟨A,C,rfl,h1,h2⟩:=List.map_eq_append_iff.1 h
 obtain ⟨t,B,rfl,h3,h4⟩:=List.map_eq_cons_iff.1 h2
 exact ⟨A,t,B,rfl,h1.symm,h3.symm,h4.symm⟩
theorem mem_mid {α:Type} {l:List α} {x:α} (h:x ∈ l):∃ A B,l=A++x::B:=List.append_of_mem h
def chgOf (x:OpM):ChgM:=if x.kind=2 then ⟨x.key,x.val,false⟩ else ⟨x.key,0,true⟩
theorem chgB_len (c:ChgM):6≤(chgB c).length∧(keyOk c.key=true→(chgB c).length≤22):=by
 simp only [chgB,textB,List.length_append,List.length_cons,List.length_nil,bytesOf_len,numB_len]
 refine ⟨by omega,fun h=>?_⟩
 have:c.key.size≤16:=by
  unfold keyOk at h;simp at h;omega
 omega
theorem chgs_len:∀ (l:List ChgM),6 * l.length≤(l.flatMap chgB).length∧((∀ c ∈ l,chgOk c=true)→(l.flatMap chgB).length≤22 * l.length)
 | []=>⟨by simp,by simp⟩
 | c::l=>by
  have h1:=chgB_len c
  have h2:=chgs_len l
  simp only [List.flatMap_cons,List.length_append,List.length_cons]
  refine ⟨by omega,fun h=>?_⟩
  have h3:=h1.2 (by have:=h c (by simp);unfold chgOk at this;simp at this;exact this.1)
  have h4:=h2.2 fun c hc=>h c (by simp [hc])
  omega
structure Quiet (d:DiskM):Prop where
 ok:d.ok
 len:d.sure.length=4096
 waits:d.waits=[]
theorem Quiet.add {d:DiskM} (h:Quiet d) (i:Nat) (b:List UInt8) (k:Nat):Quiet (addW d i b k).sync:=by
 have h1:=addW_ok k d i b h.ok
 have h2:=addW_len k d i b
 exact ⟨h1.sync,by show (addW d i b k).seen.length=4096;rw [h1.len,h2.1,h.len],rfl⟩
theorem newDisk_quiet:Quiet (newDisk 4096):=⟨newDisk_ok (by decide) (by decide),List.length_replicate,rfl⟩
theorem chgOf_ok {x:OpM} (h:opOk x=true) (hw:writes x=true):chgOk (chgOf x)=true:=by
 unfold opOk at h
 simp only [Bool.and_eq_true] at h
 unfold chgOf
 split <;> simp [chgOk,h.1.1.2]
theorem getF_zero (n:Nat) (h:64≤n):getF (List.replicate n 0)=none:=by
 unfold getF
 rw [if_neg (by simp;omega)]
 have e1:(beN ((List.replicate n (0:UInt8)).take 4)).toNat=0:=by
  rw [List.take_replicate,Nat.min_eq_left (by omega)];rfl
 simp only [e1]
 rw [if_neg (by decide),if_neg (by simp [secs];omega),if_neg]
 rw [List.take_zero,List.take_replicate,show secs 0 * 64=64 from rfl,Nat.min_eq_left h]
 decide
theorem recs_zero (n:Nat) (h:64≤n):recs (List.replicate n 0)=[]:=recs_none (getF_zero n h)
theorem cleanTo_same (all:List UInt8) (d:DiskM) (lo:Nat):∀ k,(∀ j,j < k→(all.drop ((lo+j) * 64)).take 64=List.replicate 64 0)→cleanTo all d lo k=d
 | 0,_=>rfl
 | k+1,h=>by
  rw [cleanTo,if_pos (h k (by omega))]
  exact cleanTo_same all d lo k fun j hj=>h j (by omega)
theorem new_flat (n:Nat):(newDisk n).seen.flatten=List.replicate (n * 64) 0:=by
 show (List.replicate n (List.replicate 64 (0:UInt8))).flatten=_
 rw [List.flatten_replicate_replicate]
theorem new_clean:cleanTo (newDisk 4096).seen.flatten (newDisk 4096) 0 4096=newDisk 4096:=cleanTo_same _ _ _ _ fun j hj=>by
 rw [new_flat,List.drop_replicate,List.take_replicate,Nat.min_eq_left (by omega)]
theorem meet_comm (a b:SpanM):meet a b=meet b a:=by
 rw [Bool.eq_iff_iff,meet_iff,meet_iff]
 exact ⟨fun ⟨k,h1,h2⟩=>⟨k,h2,h1⟩,fun ⟨k,h1,h2⟩=>⟨k,h2,h1⟩⟩
def opPut (k:ByteArray) (v:UInt32):OpM:=⟨2,k,.empty,v⟩
def opGet (k:ByteArray):OpM:=⟨1,k,.empty,0⟩
theorem sEq_empty:sEq .empty ⟨#[]⟩=true:=by rw [sEq_iff];rfl
theorem put_ok (k:ByteArray) (v:UInt32):opOk (opPut k v)=keyOk k:=by simp [opOk,opPut,sEq_empty]
theorem get_ok (k:ByteArray):opOk (opGet k)=keyOk k:=by simp [opOk,opGet,sEq_empty]
theorem span_get (k:ByteArray):spanOf (opGet k)=one k:=rfl
theorem w_put (k:ByteArray) (v:UInt32):writes (opPut k v)=true:=rfl
theorem w_get (k:ByteArray):writes (opGet k)=false:=rfl
def doneO (rows:List RowM) (x:OpM):List RowM × List RowM:=
 if x.kind=1 then (scanR rows (one x.key) 1,rows) else if x.kind=4 then (scanR rows ⟨x.key,x.to⟩ 256,rows) else if x.kind=2 then ([],setR rows x.key x.val) else ([],dropR rows x.key)
def runS (s:List (List RowM) × List RowM) (l:List OpM):List (List RowM) × List RowM:=l.foldl (fun s x=>(s.1++[(doneO s.2 x).1],(doneO s.2 x).2)) s
def runM (rows:List RowM) (l:List OpM):List (List RowM) × List RowM:=runS ([],rows) l
theorem runM_nil (rows:List RowM):runM rows []=([],rows):=rfl
theorem runM_snoc (rows:List RowM) (l:List OpM) (x:OpM):runM rows (l++[x])=((runM rows l).1++[(doneO (runM rows l).2 x).1],(doneO (runM rows l).2 x).2):=by simp [runM,runS]
def KeysOk (l:List RowM):Prop:=∀ r ∈ l,keyOk r.key=true
theorem doneO_rows {rows:List RowM} (h:Rising rows) (x:OpM):Rising (doneO rows x).2∧(doneO rows x).2.length≤rows.length+1:=by
 unfold doneO
 split
 ·exact ⟨h,Nat.le_succ _⟩
 ·split
  ·exact ⟨h,Nat.le_succ _⟩
  ·split
   ·exact ⟨(setR_spec h _ _).1,(setR_spec h _ _).2.2⟩
   ·exact ⟨(dropR_spec h _).1,Nat.le_succ_of_le (dropR_spec h _).2.2⟩
theorem snoc_ind {α:Type} {p:List α→Prop} (h0:p []) (h1:∀ l x,p l→p (l++[x])):∀ l,p l:=fun l=>by
 have:∀ n,p (l.take n):=fun n=>by
  induction n with
  | zero=>simpa using h0
  | succ n ih=>
   rcases Nat.lt_or_ge n l.length with h | h
   ·rw [take_snoc (List.getElem?_eq_getElem h)];exact h1 _ _ ih
   ·rw [List.take_of_length_le (by omega)];rwa [List.take_of_length_le h] at ih
 have h:=this l.length
 rwa [List.take_length] at h
theorem runM_rows {rows:List RowM} (h:Rising rows):∀ l:List OpM,Rising (runM rows l).2∧(runM rows l).2.length≤rows.length+l.length∧(runM rows l).1.length=l.length:=by
 refine snoc_ind ⟨h,by simp [runM_nil],rfl⟩ fun l x ⟨h1,h2,h3⟩=>?_
 rw [runM_snoc]
 have:=doneO_rows h1 x
 exact ⟨this.1,by simp only [List.length_append,List.length_cons,List.length_nil];omega,by simp [h3]⟩
theorem scan_one {l:List RowM} (h:Rising l) (k:ByteArray):scanR l (one k) 256=scanR l (one k) 1:=by
 unfold scanR
 have:(l.filter fun r=>inSpan (one k) r.key).length≤1:=by
  have hk:∀ r:RowM,inSpan (one k) r.key=true→r.key=k:=fun r hr=>by
   unfold inSpan one at hr
   rw [sIn_iff] at hr
   rcases sLt_tri r.key k with h | h | h
   ·rw [hr.1] at h;cases h
   ·exact h
   ·rw [hr.2] at h;cases h
  cases e:l.filter fun r=>inSpan (one k) r.key with
  | nil=>simp
  | cons a m=>
   cases m with
   | nil=>simp
   | cons b m=>
    have hs:Rising (a::b::m):=e ▸ h.sublist List.filter_sublist
    have ha:=hk a (List.mem_filter.1 (e ▸ List.mem_cons_self:a ∈ l.filter fun r=>inSpan (one k) r.key)).2
    have hb:=hk b (List.mem_filter.1 (e ▸ (by simp):b ∈ l.filter fun r=>inSpan (one k) r.key)).2
    have:=(List.pairwise_cons.1 hs).1 b (by simp)
    rw [ha,hb,sLt_irrefl] at this;cases this
 rw [List.take_of_length_le (by omega),List.take_of_length_le this]
theorem kinds {x:OpM} (h:opOk x=true):(writes x=true∧(x.kind=2∨x.kind=3))∨(writes x=false∧(x.kind=1∨x.kind=4)):=by
 unfold opOk at h
 simp only [Bool.and_eq_true,decide_eq_true_eq] at h
 have h1:=h.1.1.1.1;have h2:=h.1.1.1.2
 have h3:x.kind=1∨x.kind=2∨x.kind=3∨x.kind=4:=by
  have:x.kind.toNat=1∨x.kind.toNat=2∨x.kind.toNat=3∨x.kind.toNat=4:=by omega
  rcases this with e | e | e | e
  ·exact .inl (UInt8.toNat_inj.1 e)
  ·exact .inr (.inl (UInt8.toNat_inj.1 e))
  ·exact .inr (.inr (.inl (UInt8.toNat_inj.1 e)))
  ·exact .inr (.inr (.inr (UInt8.toNat_inj.1 e)))
 rcases h3 with e | e | e | e <;> simp [writes,e]
theorem done_write {rows:List RowM} {x:OpM} (h:opOk x=true) (hw:writes x=true):doneO rows x=([],applyC rows (chgOf x)):=by
 rcases kinds h with ⟨_,e | e⟩ | ⟨hn,_⟩
 ·simp [doneO,e,chgOf,applyC]
 ·simp [doneO,e,chgOf,applyC]
 ·rw [hw] at hn;cases hn
theorem done_read {rows:List RowM} (hr:Rising rows) {x:OpM} (h:opOk x=true) (hw:writes x=false):doneO rows x=(scanR rows (spanOf x) 256,rows):=by
 rcases kinds h with ⟨hn,_⟩ | ⟨_,e | e⟩
 ·rw [hw] at hn;cases hn
 ·simp only [doneO,e,if_true,spanOf,if_neg (show ¬ (1:UInt8)=4 by decide)]
  rw [show (⟨x.key,x.key⟩:SpanM)=one x.key from rfl,scan_one hr]
 ·simp only [doneO,e,if_neg (show ¬ (4:UInt8)=1 by decide),if_true,spanOf]
structure Does (rows:List RowM) (own:List ChgM) (done:List OpM) (told:List (List RowM)):Prop where
 left:changeR rows own=(runM rows done).2
 told:told=(runM rows done).1
 ok:∀ x ∈ done,opOk x=true
 own_le:own.length≤done.length
theorem Does.nil (rows:List RowM):Does rows [] [] []:=⟨rfl,rfl,by simp,Nat.le_refl _⟩
theorem Does.write {rows:List RowM} {own:List ChgM} {done:List OpM} {told:List (List RowM)} (h:Does rows own done told) {x:OpM} (hx:opOk x=true) (hw:writes x=true):Does rows (own++[chgOf x]) (done++[x]) (told++[[]]):=
 ⟨by rw [changeR_snoc,runM_snoc,h.left,done_write hx hw],by rw [runM_snoc,done_write hx hw,h.told],fun y hy=>by rcases List.mem_append.1 hy with hy | hy;exact h.ok y hy;simp at hy;subst hy;exact hx,by have:=h.own_le;simp;omega⟩
theorem Does.read {rows:List RowM} (hr:Rising rows) {own:List ChgM} {done:List OpM} {told:List (List RowM)} (h:Does rows own done told) {x:OpM} (hx:opOk x=true) (hw:writes x=false):Does rows own (done++[x]) (told++[scanR (changeR rows own) (spanOf x) 256]):=by
 have h1:=(runM_rows hr done).1
 exact ⟨by rw [runM_snoc,done_read h1 hx hw,h.left],by rw [runM_snoc,done_read h1 hx hw,h.told,h.left],fun y hy=>by rcases List.mem_append.1 hy with hy | hy;exact h.ok y hy;simp at hy;subst hy;exact hx,by have:=h.own_le;simp;omega⟩
theorem changeR_keys {rows:List RowM} (hr:Rising rows) (h:KeysOk rows) {cs:List ChgM} (hc:∀ c ∈ cs,chgOk c=true):KeysOk (changeR rows cs):=by
 revert hc
 refine snoc_ind (p:=fun cs=>(∀ c ∈ cs,chgOk c=true)→KeysOk (changeR rows cs)) (fun _=>h) (fun cs c ih hc=>?_) cs
 rw [changeR_snoc]
 intro r hm
 rcases (mem_applyC (changeR_rising cs hr).1 c r).1 hm with ⟨_,rfl⟩ | ⟨hm,_⟩
 ·have:=hc c (by simp);unfold chgOk at this;simp at this;exact this.1
 ·exact ih (fun c hc'=>hc c (by simp [hc'])) r hm
theorem mem_change {r:RowM}:∀ (cs:List ChgM) {V V':List RowM},Rising V→Rising V'→(r ∈ V↔r ∈ V')→(r ∈ changeR V cs↔r ∈ changeR V' cs)
 | [],_,_,_,_,h=>h
 | c::cs,V,V',h1,h2,h=>by
  refine mem_change cs (applyC_rising h1 c).1 (applyC_rising h2 c).1 ?_
  rw [mem_applyC h1,mem_applyC h2,h]
theorem mem_change_skip {r:RowM} (cs:List ChgM) {V:List RowM} (h:Rising V) (hk:∀ c ∈ cs,c.key≠r.key):r ∈ changeR V cs↔r ∈ V:=by
 induction cs generalizing V with
 | nil=>exact Iff.rfl
 | cons c cs ih=>
  show r ∈ changeR (applyC V c) cs↔_
  rw [ih (applyC_rising h c).1 (fun c' hc'=>hk c' (by simp [hc'])),mem_applyC h]
  have:=hk c (by simp)
  constructor
  ·rintro (⟨_,e⟩ | ⟨h,_⟩)
   ·subst e;exact absurd rfl this
   ·exact h
  ·intro h;exact .inr ⟨h,fun e=>this e.symm⟩
theorem scan_agree {V V':List RowM} (h:Rising V) (h':Rising V') (p:SpanM) (n:Nat) (hm:∀ r:RowM,inSpan p r.key=true→(r ∈ V↔r ∈ V')):scanR V p n=scanR V' p n:=by
 unfold scanR
 congr 1
 refine rising_ext (h.sublist List.filter_sublist) (h'.sublist List.filter_sublist) fun r=>?_
 rw [List.mem_filter,List.mem_filter]
 constructor
 ·rintro ⟨h1,h2⟩;exact ⟨(hm r h2).1 h1,h2⟩
 ·rintro ⟨h1,h2⟩;exact ⟨(hm r h2).2 h1,h2⟩
def chs (ops:List OpM):List ChgM:=(ops.filter writes).map chgOf
theorem chs_snoc_w (ops:List OpM) {x:OpM} (h:writes x=true):chs (ops++[x])=chs ops++[chgOf x]:=by simp [chs,h]
theorem chs_snoc_r (ops:List OpM) {x:OpM} (h:writes x=false):chs (ops++[x])=chs ops:=by simp [chs,h]
theorem run_left {V:List RowM} (hV:Rising V):∀ ops:List OpM,(∀ x ∈ ops,opOk x=true)→(runM V ops).2=changeR V (chs ops):=by
 refine snoc_ind (fun _=>rfl) fun l x ih h=>?_
 have hx:=h x (by simp)
 rw [runM_snoc,ih fun y hy=>h y (by simp [hy])]
 cases hw:writes x with
 | true=>rw [done_write hx hw,chs_snoc_w l hw,changeR_snoc]
 | false=>rw [done_read (changeR_rising _ hV).1 hx hw,chs_snoc_r l hw]
theorem run_agree {V V':List RowM} (h:Rising V) (h':Rising V'):∀ ops:List OpM,(∀ x ∈ ops,opOk x=true)→(∀ x ∈ ops,writes x=false→∀ r:RowM,inSpan (spanOf x) r.key=true→(r ∈ V↔r ∈ V'))→(runM V ops).1=(runM V' ops).1:=by
 refine snoc_ind (fun _ _=>rfl) fun l x ih hok hm=>?_
 have hx:=hok x (by simp)
 have hl:∀ y ∈ l,opOk y=true:=fun y hy=>hok y (by simp [hy])
 rw [runM_snoc,runM_snoc]
 show (runM V l).1++[(doneO (runM V l).2 x).1]=(runM V' l).1++[(doneO (runM V' l).2 x).1]
 rw [ih hl fun y hy=>hm y (by simp [hy])]
 suffices e:(doneO (runM V l).2 x).1=(doneO (runM V' l).2 x).1 by rw [e]
 rw [run_left h l hl,run_left h' l hl]
 cases hw:writes x with
 | true=>rw [done_write hx hw,done_write hx hw]
 | false=>
  rw [done_read (changeR_rising _ h).1 hx hw,done_read (changeR_rising _ h').1 hx hw]
  exact scan_agree (changeR_rising _ h).1 (changeR_rising _ h').1 _ _ fun r hr=>mem_change _ h h' (hm x (by simp) hw r hr)
abbrev Og:=UInt32→List OpM × List (List RowM)
def setO (o:Og) (n:UInt32) (v:List OpM × List (List RowM)):Og:=fun m=>if m=n then v else o m
theorem setO_same (o:Og) (n:UInt32) (v:List OpM × List (List RowM)):setO o n v n=v:=by simp [setO]
theorem setO_other (o:Og) {n m:UInt32} (v:List OpM × List (List RowM)) (h:m≠n):setO o n v m=o m:=by simp [setO,h]
structure DidV where
 id:UInt32
 p:Nat
 num:UInt32
 os:SV
 ops:List OpM
 ls:SV
 l:List (SV × List RowM)
structure ActM where
 kind:UInt8
 tx:UInt32
 op:OpM
 keep:Int
 torn:Int
def ActM.c (x:ActM):List Value:=[.int .u8 x.kind.toNat,.int .u32 x.tx.toNat,.int .u8 x.op.kind.toNat,.string x.op.key,.string x.op.to,.int .u32 x.op.val.toNat,.int .u64 x.keep,.int .i64 x.torn]
section
variable {κ : Type} [DecidableEq κ]
theorem mset_cons (p:κ × Value) (kvs:List (κ × Value)) (k:κ) (v:Value):mset (p::kvs) k v=if p.1=k then (k,v)::kvs else p::mset kvs k v:=by
 unfold mset midx
 rw [List.findIdx?_cons]
 by_cases h:p.1=k
 ·simp [h]
 ·simp only [h,decide_false]
  cases List.findIdx? (fun p:κ × Value=>decide (p.1=k)) kvs <;> simp
theorem mget_mset (kvs:List (κ × Value)) (k n:κ) (v:Value):mget (mset kvs k v) n=if n=k then some v else mget kvs n:=by
 induction kvs with
 | nil=>unfold mset midx mget;by_cases h:k=n <;> simp [h,eq_comm]
 | cons p kvs ih=>
  rw [mset_cons]
  by_cases h:p.1=k
  ·rw [if_pos h]
   unfold mget
   rw [List.find?_cons,List.find?_cons]
   by_cases h2:n=k
   ·subst h2;simp
   ·have h3:k≠n:=fun e=>h2 e.symm
    simp [h,h2,h3]
  ·rw [if_neg h]
   unfold mget at ih ⊢
   rw [List.find?_cons,List.find?_cons]
   by_cases h4:p.1=n
   ·have h2:n≠k:=fun e=>h (h4.trans e)
    simp [h4,h2]
   ·simp only [h4,decide_false];exact ih
end
def findD (F:List DidV) (n:UInt32):Option DidV:=F.find? fun d=>decide (d.id=n)
def delD (F:List DidV) (n:UInt32):List DidV:=F.filter fun d=>!decide (d.id=n)
theorem findD_cons (d:DidV) (F:List DidV) (m:UInt32):findD (d::F) m=if d.id=m then some d else findD F m:=by
 unfold findD;rw [List.find?_cons]
 by_cases h:d.id=m <;> simp [h]
theorem findD_del (F:List DidV) (n m:UInt32):findD (delD F n) m=if m=n then none else findD F m:=by
 induction F with
 | nil=>simp [findD,delD]
 | cons d F ih=>
  unfold delD at ih ⊢
  rw [List.filter_cons]
  by_cases h:d.id=n
  ·simp only [h,decide_true,Bool.not_true,Bool.false_eq_true,if_false]
   rw [ih,findD_cons]
   by_cases h2:m=n
   ·simp [h2]
   ·have:d.id≠m:=fun e=>h2 (e.symm.trans h)
    simp [h2,this]
  ·simp only [h,decide_false,Bool.not_false,if_true]
   rw [findD_cons,findD_cons,ih]
   by_cases h2:d.id=m
   ·have:m≠n:=fun e=>h (h2.trans e)
    simp [h2,this]
   ·simp [h2]
theorem findD_id {F:List DidV} {n:UInt32} {d:DidV} (h:findD F n=some d):d ∈ F∧d.id=n:=by
 unfold findD at h
 exact ⟨List.mem_of_find?_eq_some h,by have:=List.find?_some h;simpa using this⟩
theorem delD_mem {F:List DidV} {n:UInt32} {d:DidV} (h:d ∈ delD F n):d ∈ F:=(List.mem_filter.1 h).1
def OpenOk (kvs:List (UInt32 × Value)) (F:List DidV):Prop:=∀ n,(mget kvs n).getD (.pointer none)=.pointer ((findD F n).map fun d=>⟨d.p,0,none⟩)
theorem OpenOk.nil {kvs:List (UInt32 × Value)} {F:List DidV} (h:OpenOk kvs F) (n:UInt32):OpenOk (mset kvs n (.pointer none)) (delD F n):=fun m=>by
 rw [mget_mset,findD_del]
 by_cases e:m=n
 ·simp [e]
 ·rw [if_neg e,if_neg e];exact h m
theorem OpenOk.new {kvs:List (UInt32 × Value)} {F:List DidV} (h:OpenOk kvs F) (d:DidV):OpenOk (mset kvs d.id (.pointer (some ⟨d.p,0,none⟩))) (d::delD F d.id):=fun m=>by
 rw [mget_mset,findD_cons,findD_del]
 by_cases e:m=d.id
 ·simp [e]
 ·rw [if_neg e,if_neg e,if_neg (fun e2=>e e2.symm)];exact h m
theorem OpenOk.upd {kvs:List (UInt32 × Value)} {F:List DidV} (h:OpenOk kvs F) {n:UInt32} {d d':DidV} (hf:findD F n=some d) (hi:d'.id=n) (hp:d'.p=d.p):OpenOk kvs (d'::delD F n):=fun m=>by
 rw [findD_cons,findD_del,hi]
 by_cases e:n=m
 ·subst e;rw [if_pos rfl,h,hf];simp [hp]
 ·rw [if_neg e,if_neg (fun e2=>e e2.symm)];exact h m
def ogD (F:List DidV):Og:=fun n=>match findD F n with
 | some d=>(d.ops,d.l.map (·.2))
 | none=>([],[])
theorem ogD_some {F:List DidV} {n:UInt32} {d:DidV} (h:findD F n=some d):ogD F n=(d.ops,d.l.map (·.2)):=by unfold ogD;rw [h]
theorem ogD_set (F:List DidV) {n:UInt32} {d:DidV} (h:d.id=n):ogD (d::delD F n)=setO (ogD F) n (d.ops,d.l.map (·.2)):=by
 funext m
 unfold setO ogD
 rw [findD_cons,findD_del,h]
 by_cases e:n=m
 ·simp [e]
 ·have:m≠n:=fun e2=>e e2.symm
  simp [e,this]
theorem be_step (m:UInt32) (c:UInt8) (h:m.toNat < 16777216):((m <<< 8) ||| c.toUInt32).toNat=m.toNat * 256+c.toNat:=by
 have hc:=c.toNat_lt
 have e1:(m <<< 8).toNat=m.toNat <<< 8:=by
  rw [UInt32.toNat_shiftLeft,Nat.mod_eq_of_lt]
  ·rfl
  ·show m.toNat <<< 8 < _
   rw [Nat.shiftLeft_eq];omega
 rw [UInt32.toNat_or,e1,UInt8.toNat_toUInt32,← Nat.shiftLeft_add_eq_or_of_lt (by omega),Nat.shiftLeft_eq]
theorem beN_one (c:UInt8):(beN [c]).toNat=c.toNat:=by
 have:=be_step 0 c (by decide)
 simp [beN]
theorem beN_snoc (l:List UInt8) (c:UInt8):beN (l++[c])=(beN l <<< 8) ||| c.toUInt32:=by simp [beN]
theorem beN_two (a b:UInt8):(beN [a,b]).toNat=a.toNat * 256+b.toNat:=by
 rw [show [a,b]=[a]++[b] from rfl,beN_snoc,be_step _ _ (by rw [beN_one];have:=a.toNat_lt;omega),beN_one]
theorem beN_three (a b c:UInt8):(beN [a,b,c]).toNat=(a.toNat * 256+b.toNat) * 256+c.toNat:=by
 have:=a.toNat_lt;have:=b.toNat_lt
 rw [show [a,b,c]=[a,b]++[c] from rfl,beN_snoc,be_step _ _ (by rw [beN_two];omega),beN_two]
theorem beN_four (a b c d:UInt8):(beN [a,b,c,d]).toNat=((a.toNat * 256+b.toNat) * 256+c.toNat) * 256+d.toNat:=by
 have:=a.toNat_lt;have:=b.toNat_lt;have:=c.toNat_lt
 rw [show [a,b,c,d]=[a,b,c]++[d] from rfl,beN_snoc,be_step _ _ (by rw [beN_three];omega),beN_three]
theorem beN_num4 (n:UInt32):beN (numB n 4)=n:=by
 apply UInt32.toNat_inj.1
 have:=n.toNat_lt
 show (beN [_,_,_,_]).toNat=_
 rw [beN_four,UInt8.toNat_ofNat',UInt8.toNat_ofNat',UInt8.toNat_ofNat',UInt8.toNat_ofNat']
 simp only [Nat.reduceMul,Nat.reducePow,Nat.pow_zero,Nat.div_one]
 omega
abbrev RecG:=UInt32 × List ChgM
def recB (y:RecG):List UInt8:=numB y.1 4++chgsB y.2
def recOk (y:RecG):Prop:=y.2.length≤4096∧∀ c ∈ y.2,chgOk c=true
section
variable {P : Program} {g : World} {Γ : Env} {L : List HP}
theorem e_max32 {dst:Option Tmp} {t:TypeId} {pos:String} {aft:Array Edge} {gd:Option (Nat × Bool)} {x y:Operand} {T U:TypeId} {a b:UInt32} (hx:ev Γ x=some (.int .u32 a.toNat):=by rfl) (hy:ev Γ y=some (.int .u32 b.toNat):=by rfl):EO P g ⟨dst,.call ⟨.builtin .max,#[x,y],#[T,U]⟩,t,pos,aft,gd⟩ Γ L (.int .u32 (if a < b then b else a).toNat):=by
 have h:=e_maxI (P:=P) (g:=g) (L:=L) (dst:=dst) (t:=t) (pos:=pos) (aft:=aft) (gd:=gd) (T:=T) (U:=U) hx hy
 have e:(if (a.toNat:Int) < b.toNat then (b.toNat:Int) else a.toNat)=((if a < b then b else a).toNat:Nat):=by
  by_cases h:a < b
  ·rw [if_pos h,if_pos (by have:=UInt32.lt_iff_toNat_lt.1 h;omega)]
  ·rw [if_neg h,if_neg (by intro h';exact h (UInt32.lt_iff_toNat_lt.2 (by omega)))]
 rw [← e];exact h
end
section
variable {P : Program} {g : World} {Γ : Env} {L : List HP} {dst : Option Tmp} {t : TypeId} {pos : String} {aft : Array Edge} {gd : Option (Nat × Bool)}
theorem e_idxS {x i:Operand} {T:TypeId} {s:ByteArray} {k:IntKind} {b:UInt8} {n:Nat} (ht:P.underlying T=some .string) (hi:ev Γ i=some (.int k n):=by rfl) (hx:ev Γ x=some (.string s):=by rfl) (hb:s[n]?=some b:=by rfl):EO P g ⟨dst,.index T x i,t,pos,aft,gd⟩ Γ L (.int .u8 b.toNat):=
 .of (by simp) fun ρ hρ w hw=>by
  simp [execOp,hρ x _ (by simp [Op.operands]) hx,hρ i _ (by simp [Op.operands]) hi,Instr.index,asIntOf,run_underlying ht,hb]
end
theorem getF_frame {r:List UInt8} (h:r.length≤16384) (rest:List UInt8):getF (frame r++rest)=some (r,secs r.length):=by
 have hs:=secs_le r.length
 have hl:=frame_len r
 have hn:(UInt32.ofNat r.length).toNat=r.length:=by rw [UInt32.toNat_ofNat'];exact Nat.mod_eq_of_lt (by omega)
 have e4:(frame r++rest).take 4=numB (UInt32.ofNat r.length) 4:=by
  unfold frame
  rw [List.append_assoc,List.append_assoc,List.append_assoc]
  exact List.take_left' (numB_len _ _)
 have e8:(frame r++rest).drop 8=r++(List.replicate (secs r.length * 64 - 8 - r.length) 0++rest):=by
  unfold frame
  rw [List.append_assoc,List.append_assoc]
  exact List.drop_left' (by simp [numB_len])
 have er:((frame r++rest).drop 8).take r.length=r:=by rw [e8];exact List.take_left' rfl
 have ef:(frame r++rest).take (secs r.length * 64)=frame r:=List.take_left' hl
 unfold getF
 rw [if_neg (by rw [List.length_append,hl];omega)]
 simp only [e4,beN_num4,hn,er,ef]
 rw [if_neg (by omega),if_neg (by rw [List.length_append,hl];omega),if_pos trivial]
theorem recs_frames:∀ (ys:List RecG) (rest:List UInt8),(∀ y ∈ ys,(recB y).length≤16384)→recs rest=[]→recs ((ys.flatMap fun y=>frame (recB y))++rest)=ys.map fun y=>(recB y,secs (recB y).length)
 | [],rest,_,h=>by simpa using h
 | y::ys,rest,hy,h=>by
  have ih:=recs_frames ys rest (fun z hz=>hy z (by simp [hz])) h
  rw [List.flatMap_cons,List.append_assoc,recs_some (getF_frame (hy y (by simp)) _),List.drop_left' (frame_len _),ih]
  rfl
theorem flat_take64:∀ (l:List (List UInt8)) (i:Nat),(∀ p ∈ l,p.length=64)→(l.take i).flatten=l.flatten.take (i * 64)
 | l,0,_=>by simp
 | [],i+1,_=>by simp
 | p::l,i+1,h=>by
  have hp:=h p (by simp)
  rw [List.take_succ_cons,List.flatten_cons,List.flatten_cons,flat_take64 l i (fun q hq=>h q (by simp [hq])),List.take_append,hp,show (i+1) * 64 - 64=i * 64 by omega,List.take_of_length_le (l:=p) (by omega)]
theorem flat_drop64:∀ (l:List (List UInt8)) (i:Nat),(∀ p ∈ l,p.length=64)→(l.drop i).flatten=l.flatten.drop (i * 64)
 | l,0,_=>by simp
 | [],i+1,_=>by simp
 | p::l,i+1,h=>by
  have hp:=h p (by simp)
  rw [List.drop_succ_cons,List.flatten_cons,flat_drop64 l i (fun q hq=>h q (by simp [hq])),List.drop_append,hp,show (i+1) * 64 - 64=i * 64 by omega,List.drop_of_length_le (l:=p) (by omega),List.nil_append]
theorem addW_flat:∀ (k:Nat) (d:DiskM) (i:Nat) (b:List UInt8),b.length=k * 64→i+k≤d.seen.length→(addW d i b k).seen.flatten=(d.seen.take i).flatten++b++(d.seen.drop (i+k)).flatten∧(addW d i b k).seen.length=d.seen.length
 | 0,d,i,b,hb,hi=>by
  have:b=[]:=by simpa using hb
  subst this
  refine ⟨?_,rfl⟩
  show d.seen.flatten=_
  rw [List.append_nil,← List.flatten_append,Nat.add_zero,List.take_append_drop]
 | k+1,d,i,b,hb,hi=>by
  have h1:(b.take 64).length=64:=by simp;omega
  have hw:(d.write i (b.take 64)).seen=d.seen.set i (b.take 64):=by simp [DiskM.write,pad_id h1]
  obtain ⟨e1,e2⟩:=addW_flat k (d.write i (b.take 64)) (i+1) (b.drop 64) (by simp;omega) (by rw [hw,List.length_set];omega)
  rw [hw] at e1 e2
  refine ⟨?_,by rw [addW,e2,List.length_set]⟩
  rw [addW,e1,List.drop_set_of_lt (by omega),show i+1+k=i+(k+1) by omega]
  congr 1
  have e3:(d.seen.set i (b.take 64)).take (i+1)=d.seen.take i++[b.take 64]:=by
   rw [take_snoc (List.getElem?_set_self (by omega)),List.take_set_of_le (Nat.le_refl i)]
  rw [e3,List.flatten_append,List.append_assoc]
  congr 1
  simp
theorem recs_zeros (n:Nat):recs (List.replicate (n * 64) 0)=[]:=by
 cases n with
 | zero=>rfl
 | succ n=>exact recs_zero _ (by omega)
structure DiskLog (d:DiskM) (at0:Nat) (ys:List RecG):Prop where
 ok:d.ok
 waits:d.waits=[]
 same:d.sure=d.seen
 len:d.sure.length=4096
 flat:d.seen.flatten=(ys.flatMap fun y=>frame (recB y))++List.replicate ((4096 - at0) * 64) 0
 hat:(ys.map fun y=>secs (recB y).length).sum=at0
 le:at0≤4096
 yok:∀ y ∈ ys,recOk y∧(recB y).length≤16384
theorem frames_len:∀ (ys:List RecG),(ys.flatMap fun y=>frame (recB y)).length=(ys.map fun y=>secs (recB y).length).sum * 64
 | []=>rfl
 | y::ys=>by rw [List.flatMap_cons,List.length_append,frames_len ys,frame_len];simp;omega
theorem clean_id (all:List UInt8) (d:DiskM) (lo:Nat):∀ k,(∀ j,j < k→(all.drop ((lo+j) * 64)).take 64=List.replicate 64 0)→cleanTo all d lo k=d
 | 0,_=>rfl
 | k+1,h=>by rw [cleanTo,if_pos (h k (by omega))];exact clean_id all d lo k fun j hj=>h j (by omega)
theorem DiskLog.recs {d:DiskM} {at0:Nat} {ys:List RecG} (h:DiskLog d at0 ys):(SL.recs d.seen.flatten).map (·.1)=ys.map recB∧((SL.recs d.seen.flatten).map (·.2)).sum=at0∧cleanTo d.seen.flatten d at0 (d.sure.length - at0)=d:=by
 have hr:SL.recs d.seen.flatten=ys.map fun y=>(recB y,secs (recB y).length):=by
  rw [h.flat]
  exact recs_frames ys _ (fun y hy=>(h.yok y hy).2) (recs_zeros _)
 refine ⟨by rw [hr];simp,by rw [hr,← h.hat];simp [Function.comp_def],clean_id _ _ _ _ fun j hj=>?_⟩
 have hl:=h.len
 rw [h.flat,List.drop_append,frames_len,h.hat,List.drop_of_length_le (by rw [frames_len,h.hat];omega),List.nil_append,List.drop_replicate,List.take_replicate]
 congr 1
 omega
theorem DiskLog.sync {d:DiskM} {at0:Nat} {ys:List RecG} (h:DiskLog d at0 ys):d.sync=d:=by
 have h1:=h.same;have h2:=h.waits
 cases d;simp only [DiskM.sync] at h1 h2 ⊢;subst h1 h2;rfl
theorem DiskLog.first:DiskLog (newDisk 4096).sync 0 []:=
 ⟨newDisk_quiet.ok.sync,rfl,rfl,List.length_replicate,by show (newDisk 4096).seen.flatten=_;rw [new_flat];rfl,rfl,Nat.zero_le _,by simp⟩
theorem DiskLog.add {d:DiskM} {at0:Nat} {ys:List RecG} (h:DiskLog d at0 ys) {y:RecG} (hy:recOk y) (hl:(recB y).length≤16384) (hfit:at0+secs (recB y).length≤d.sure.length):DiskLog (addW d at0 (frame (recB y)) (secs (recB y).length)).sync (at0+secs (recB y).length) (ys++[y]):=by
 have hlen:=h.len
 have hsl:=h.ok.len
 obtain ⟨e1,e2⟩:=addW_flat (secs (recB y).length) d at0 (frame (recB y)) (frame_len _) (by omega)
 have hfr:(ys.flatMap fun y=>frame (recB y)).length=at0 * 64:=by rw [frames_len,h.hat]
 refine ⟨(addW_ok _ _ _ _ h.ok).sync,rfl,rfl,by show (addW _ _ _ _).seen.length=_;rw [e2];omega,?_,by rw [List.map_append,List.sum_append,h.hat];simp,by omega,fun z hz=>?_⟩
 ·show (addW _ _ _ _).seen.flatten=_
  rw [e1,flat_take64 _ _ h.ok.l2,flat_drop64 _ _ h.ok.l2,h.flat,List.take_left' hfr,List.drop_append,List.drop_of_length_le (by rw [hfr];omega),List.nil_append,hfr,List.drop_replicate,List.flatMap_append]
  simp only [List.flatMap_cons,List.flatMap_nil,List.append_nil]
  congr 2
  omega
 ·rcases List.mem_append.1 hz with hz | hz
  ·exact h.yok z hz
  ·simp at hz;subst hz;exact ⟨hy,hl⟩
end Go.SL
