/- TF SLv: rules and walks, several texts in one. -/
import Derived.Test.YtegjbklnhiionaaGreatQT23
import Derived.Test.YtegjbklnhiionaaGreatProg
import Derived.KernelRfl
import Derived.Deep.Slices
import Derived.ChangeSame
import Derived.SizedLaws
set_option linter.unusedSimpArgs false
set_option linter.unusedVariables false
namespace Go.SL.Fc
open Go Go.Proofs Go.SL
theorem a50:ZM' Tryz.prog 50=some none:=by kernel_rfl
theorem Zod_:ZO' Tryz.prog 52 0=some 0:=by kernel_rfl
theorem Zoe_:ZO' Tryz.prog 52 1=some 1:=by kernel_rfl
theorem Zof_:ZO' Tryz.prog 52 2=some 2:=by kernel_rfl
theorem Zog_:ZO' Tryz.prog 52 3=some 3:=by kernel_rfl
theorem k11:Zh' Tryz.prog 11=true:=by kernel_rfl
theorem k18:Zh' Tryz.prog 18=true:=by kernel_rfl
theorem k8:Zh' Tryz.prog 8=true:=by kernel_rfl
theorem sl50:slOf Tryz.prog 50=some (26,4,48):=by kernel_rfl
end Go.SL.Fc
namespace Go.SL
open Go Go.Proofs Fc
set_option maxHeartbeats 4000000 in
theorem Zfp_ {g:World} {A:HP} {u:Value} {a2:Option Addr} {m2 c2:Nat} {ops:List OpM} {l:List SpanM} (en:UInt8) (com:Bool) (hO:RL A 4 OpM.c u ops) (hA:RL A 2 SpanM.c (.slice a2 m2 c2) l):Spec Tryz.prog g 4 [.agg #[.int .u8 en.toNat,u,.slice a2 m2 c2,.bool com]] [A] fun K R=>K (.bool true) (A::R):=by
 refine Spec.intro Tryz.func4 rfl Tryz.ntmps4 rfl fun R K hK=>?_
 refine WP.seq<|WP.reg ?_
 refine WL.h (ZL' fun b1=>?_)
 refine WL.e Zb'<|WL.next<|WP.seq<|WP.reg<|WL.e (e_fa Zod_)<|WL.e (Zc' a5)<|WL.e Zb'<|WL.next<|WP.seq<|WP.reg<|WL.e (e_fa Zoe_)<|WL.e (Zc' a50)<|WL.e Zb'<|WL.next<|WP.seq<|WP.reg<|WL.e (e_fa Zof_)<|WL.e (Zc' a22)<|WL.e Zb'<|WL.next<|WP.seq<|WP.reg<|WL.e (e_fa Zog_)<|WL.e (Zc' a4) ?_
 refine WL.e Zb'<|WL.next<|WP.seq<|WP.reg<|WL.e Za'<|WL.e (ZnK_ (c:=((en.toNat % 3:Nat):Int)) rfl rfl (by decide) (by rw [Int.tmod_eq_emod_of_nonneg (by omega)];omega))<|WL.e (ZK' (c:=((1+en.toNat % 3:Nat):Int)) rfl rfl (by rw [w_u8 (by omega) (by omega)];omega)) ?_
 refine WL.h (Zg' (Zf7_ (1+en.toNat % 3) (by omega)) k7 ?_)
 intro sp dp M E hE
 have h0:=M.frFirst
 refine WL.e Zb'<|WL.next<|WP.seq<|WP.seq<|WP.reg<|WL.e Za'<|WL.e (JM' pt29)<|WL.e Za' ?_
 refine WL.bool 27 rfl (fun g0=>?_) (fun g0=>?_)
 ·cases g0 
 ·skip
  refine WL.e Za'<|WL.e (Zz' (xs:=ops) sl50 hO)<|WL.e YV'<|WL.e Zl'<|WL.e Za' ?_
  refine WL.bool 32 rfl (fun hl1=>?_) (fun hl1=>?_)
  ·skip
   refine WL.skip<|WL.skip<|WL.skip<|WL.e Zm'<|WL.e Za'<|WL.skip<|WL.skip<|WL.skip<|WL.e Zm'<|WL.e Za'<|WL.skip<|WL.skip<|WL.skip<|WL.e Zm'<|WL.next<|WP.cond_t rfl<|WP.seq<|WP.reg<|WL.e Za'<|WL.e (X8' pt29)<|WL.e Za' ?_
   refine WL.bool 49 rfl (fun g1=>?_) (fun g1=>?_)
   ·skip
    refine WL.h (Zg' (JG') k8 ?_)
    refine WL.e Zm'<|WL.e Zb'<|WL.next<|WP.ret<|PO.past nofun ?_
    exact PO.finE Tryz.results4 (Zd' Ze') rfl hK
   ·cases g1 
  ·replace hl1:ops.length≤40:=by simp at hl1;omega
   refine WL.e Za'<|WL.e (Zz' (xs:=l) sl22 hA)<|WL.e YV'<|WL.e Zl'<|WL.e Za' ?_
   refine WL.bool 37 rfl (fun hl2=>?_) (fun hl2=>?_)
   ·skip
    refine WL.skip<|WL.skip<|WL.skip<|WL.e Zm'<|WL.e Za'<|WL.skip<|WL.skip<|WL.skip<|WL.e Zm'<|WL.next<|WP.cond_t rfl<|WP.seq<|WP.reg<|WL.e Za'<|WL.e (X8' pt29)<|WL.e Za' ?_
    refine WL.bool 49 rfl (fun g1=>?_) (fun g1=>?_)
    ·skip
     refine WL.h (Zg' (JG') k8 ?_)
     refine WL.e Zm'<|WL.e Zb'<|WL.next<|WP.ret<|PO.past nofun ?_
     exact PO.finE Tryz.results4 (Zd' Ze') rfl hK
    ·cases g1 
   ·replace hl2:l.length≤40:=by simp at hl2;omega
    refine WL.e Za' ?_
    refine WL.h (Zg' (Kq' (E:=E) (v:=(⟨M.first,[],[]⟩:SiteV M.St)) 1 false) k9 ?_)
    intro q1 r1
    dsimp only
    obtain ⟨e0,st1,e1,h1⟩:=ZgP_ (l:=[]) (bs:=[]) h0 (by decide) 1 false (by decide) (by simp) (by simp) q1 r1 rfl
    rw [e0,e1]
    simp only [List.nil_append,List.cons_append] at h1 ⊢
    refine WL.e Z8'<|WL.e Zl'<|WL.e Za' ?_
    refine WL.bool 42 rfl (fun g2=>?_) (fun g2=>?_)
    ·exact absurd g2 (by decide) 
    ·skip
     refine WL.e Za' ?_
     refine WL.h (Zg' (Kq' (E:=E) (v:=(⟨st1,[⟨1,r1,⟨false,[]⟩⟩],[]⟩:SiteV M.St)) 2 false) k9 ?_)
     intro q2 r2
     dsimp only
     obtain ⟨e0,st2,e1,h2⟩:=ZgP_ (l:=[⟨1,r1,⟨false,[]⟩⟩]) (bs:=[]) h1 (by decide) 2 false (by decide) (by simp) (by simp) q2 r2 rfl
     rw [e0,e1]
     simp only [List.nil_append,List.cons_append] at h2 ⊢
     refine WL.e Z8'<|WL.e Zl'<|WL.next<|WP.cond_f rfl<|WP.skip<|PO.next<|WP.seq<|WP.reg<|WL.e Zb'<|WL.next<|WP.seq<|WP.seq<|WP.reg<|WL.e Zb'<|WL.next<|WP.block<|WP.loopK (fun (x:Nat × M.St × List SpanM × Bool)=>[(9,.int .i64 x.1),(8,.bool x.2.2.2)]) (fun (x:Nat × M.St × List SpanM × Bool)=>Si E sp dp ⟨x.2.1,[⟨1,r1,⟨false,x.2.2.1⟩⟩,⟨2,r2,⟨false,[]⟩⟩],[]⟩::A::R) [(2,_),(4,_),(5,_),(6,_),(7,_)] (fun (x:Nat × M.St × List SpanM × Bool)=>x.1≤ops.length∧x.2.2.2=Z1' x.2.2.1 l∧∃ own b,own.length≤x.1∧x.2.2.1.length+2≤b∧b≤x.1+2∧M.Fr x.2.1 [1,2] 1 own [] 0 0 b) (fun (x:Nat × M.St × List SpanM × Bool)=>ops.length - x.1) (0,st2,[],false) (⟨Nat.zero_le _,rfl,[],2,Nat.zero_le _,Nat.le_refl _,Nat.le_refl _,h2 1⟩) ?_
     rintro ⟨i,st,sp1,tb⟩ ⟨hi,htb,own,b,hol,hsl,hb,hI⟩
     simp only at hi htb hol hsl hb hI
     dsimp only
     refine WP.seq<|WP.seq<|WP.reg<|WL.e Za'<|WL.e Za'<|WL.e (Zz' (xs:=ops) sl50 hO)<|WL.e Z3'<|WL.next ?_
     refine WP.cond rfl (fun h3=>?_) (fun h3=>?_)
     ·have hlt:i < ops.length:=by rw [decide_eq_true_eq] at h3;omega
      obtain ⟨x,hx⟩:∃ x,ops[i]?=some x:=⟨_,List.getElem?_eq_getElem hlt⟩
      refine WP.skip<|PO.next<|WP.seq<|WP.block<|WP.seq<|WP.reg<|WL.e Za'<|WL.e Za'<|WL.e Za'<|WL.e (ZZ' (j:=i) (xs:=ops) sl50 hO hlt)<|WL.e (Yz' (a:=x) a26 opE hO hx) ?_
      refine WL.h (Zg' (Qi' (E:=E) (v:=(⟨st,[⟨1,r1,⟨false,sp1⟩⟩,⟨2,r2,⟨false,[]⟩⟩],[]⟩:SiteV M.St)) 1 x (Zj7_ hI (by simp) (by intro t ht;rcases List.mem_cons.1 ht with rfl | ht;exact (by omega:sp1.length≤b);obtain rfl:=List.mem_singleton.1 ht;exact Nat.zero_le _) (by show 2≤b;omega) (Nat.zero_le _) (by simp))) k12 ?_)
      have hcs:opOk x=false∨(∃ f:SV→M.St,doSi (⟨st,[⟨1,r1,⟨false,sp1⟩⟩,⟨2,r2,⟨false,[]⟩⟩],[]⟩:SiteV M.St) 1 x=.put (fun sv2=>(⟨f sv2,[⟨1,r1,⟨false,sp1++[Zi' x]⟩⟩,⟨2,r2,⟨false,[]⟩⟩],[]⟩:SiteV M.St))∧∀ sv2,M.Fr (f sv2) [1,2] 1 (own++[ZX' x]) [] 0 0 (b+1))∨(∃ s':M.St,doSi (⟨st,[⟨1,r1,⟨false,sp1⟩⟩,⟨2,r2,⟨false,[]⟩⟩],[]⟩:SiteV M.St) 1 x=.look (⟨s',[⟨1,r1,⟨false,sp1++[Zi' x]⟩⟩,⟨2,r2,⟨false,[]⟩⟩],[]⟩:SiteV M.St) (ZS' (Zv' [] own) (Zi' x) 256)∧M.Fr s' [1,2] 1 own [] 0 0 (b+1)):=by
       cases hxk:opOk x with
       | false=>exact .inl rfl
       | true=>
        right
        rcases ZmQ_ (v:=(⟨st,[⟨1,r1,⟨false,sp1⟩⟩,⟨2,r2,⟨false,[]⟩⟩],[]⟩:SiteV M.St)) (n:=1) (t:=⟨1,r1,⟨false,sp1⟩⟩) (x:=x) rfl hI (by simp) hxk (by omega) with ⟨hq,_⟩ | ⟨_,_,f,e5,h5⟩ | ⟨_,_,s5,e5,h5⟩
        ·exact absurd (ZlB_ _) hq
        ·exact .inl ⟨f,e5,h5⟩
        ·exact .inr ⟨s5,e5,h5⟩
      rcases hcs with hxk | ⟨f,e5,h5⟩ | ⟨s5,e5,h5⟩
      ·rw [Zbz_ hxk]
       dsimp only
       refine WL.e Za'<|WL.e Zf'<|WL.e Zf' ?_
       refine WL.h (Zw' z40 fun b2=>?_)
       refine WL.h' (Zk' s40 ?_)
       refine WL.e Zb'<|WL.next<|WP.seq<|WP.reg<|WL.e Za'<|WL.e ZG'<|WL.next<|WP.cond_f rfl<|WP.skip<|PO.blockN<|PO.next<|WP.reg<|WL.e Za'<|WL.e (ZK' (c:=((i+1:Nat):Int)) rfl rfl (by rw [Zt' (by omega) (by omega)];omega))<|WL.e Zb'<|WL.nil ?_
       exact PO.againK (i+1,st,sp1,tb) ⟨by simp only;omega,htb,own,b,by simp only;omega,hsl,by simp only;omega,hI⟩ (by simp only;omega)
      ·rw [e5]
       dsimp only
       intro sv5
       replace h5:=h5 sv5
       refine WL.e Za'<|WL.e Zf'<|WL.e Zf' ?_
       refine WL.h (Zw' z40 fun b3=>?_)
       refine WL.h' (Zk' s40 ?_)
       refine WL.e Zb'<|WL.next<|WP.seq<|WP.reg<|WL.e Za'<|WL.e ZG'<|WL.next<|WP.cond_t rfl<|WP.reg<|WL.e Za'<|WL.e Za' ?_
       refine WL.bool 70 rfl (fun g6=>?_) (fun g6=>?_)
       ·skip
        refine WL.skip<|WL.skip<|WL.skip<|WL.skip<|WL.skip<|WL.skip<|WL.skip<|WL.e Zm'<|WL.e Zb'<|WL.nil<|PO.blockN<|PO.next<|WP.reg<|WL.e Za'<|WL.e (ZK' (c:=((i+1:Nat):Int)) rfl rfl (by rw [Zt' (by omega) (by omega)];omega))<|WL.e Zb'<|WL.nil ?_
        exact PO.againK (i+1,f sv5,sp1++[Zi' x],true) ⟨by simp only;omega,by rw [Qw',← htb,g6];rfl,own++[ZX' x],b+1,by first | (simp;omega) | (simp only;omega),by simp;omega,by simp only;omega,h5⟩ (by simp only;omega)
       ·skip
        refine WL.e Za'<|WL.e Za'<|WL.e (ZZ' (j:=i) (xs:=ops) sl50 hO hlt)<|WL.e (Yz' (a:=x) a26 opE hO hx) ?_
        refine WL.h (Zg' (Jk' _) k14 ?_)
        refine WL.e Za' ?_
        refine WL.h (Zg' (UN' (Zi' x) hA (by omega)) k13 ?_)
        refine WL.e Zl'<|WL.e Zb'<|WL.nil<|PO.blockN<|PO.next<|WP.reg<|WL.e Za'<|WL.e (ZK' (c:=((i+1:Nat):Int)) rfl rfl (by rw [Zt' (by omega) (by omega)];omega))<|WL.e Zb'<|WL.nil ?_
        exact PO.againK (i+1,f sv5,sp1++[Zi' x],anyS (Zi' x) l) ⟨by simp only;omega,by rw [Qw',← htb,g6];rfl,own++[ZX' x],b+1,by first | (simp;omega) | (simp only;omega),by simp;omega,by simp only;omega,h5⟩ (by simp only;omega)
      ·rw [e5]
       dsimp only
       intro a7 m7 c7
       refine WL.e Za'<|WL.e Zf'<|WL.e Zf' ?_
       refine WL.h (Zw' z40 fun b4=>?_)
       refine WL.h' (Zk' s40 ?_)
       refine WL.e Zb'<|WL.next<|WP.seq<|WP.reg<|WL.e Za'<|WL.e ZG'<|WL.next<|WP.cond_t rfl<|WP.reg<|WL.e Za'<|WL.e Za' ?_
       refine WL.bool 70 rfl (fun g6=>?_) (fun g6=>?_)
       ·skip
        refine WL.skip<|WL.skip<|WL.skip<|WL.skip<|WL.skip<|WL.skip<|WL.skip<|WL.e Zm'<|WL.e Zb'<|WL.nil<|PO.blockN<|PO.next<|WP.reg<|WL.e Za'<|WL.e (ZK' (c:=((i+1:Nat):Int)) rfl rfl (by rw [Zt' (by omega) (by omega)];omega))<|WL.e Zb'<|WL.nil ?_
        exact PO.againK (i+1,s5,sp1++[Zi' x],true) ⟨by simp only;omega,by rw [Qw',← htb,g6];rfl,own,b+1,by first | (simp;omega) | (simp only;omega),by simp;omega,by simp only;omega,h5⟩ (by simp only;omega)
       ·skip
        refine WL.e Za'<|WL.e Za'<|WL.e (ZZ' (j:=i) (xs:=ops) sl50 hO hlt)<|WL.e (Yz' (a:=x) a26 opE hO hx) ?_
        refine WL.h (Zg' (Jk' _) k14 ?_)
        refine WL.e Za' ?_
        refine WL.h (Zg' (UN' (Zi' x) hA (by omega)) k13 ?_)
        refine WL.e Zl'<|WL.e Zb'<|WL.nil<|PO.blockN<|PO.next<|WP.reg<|WL.e Za'<|WL.e (ZK' (c:=((i+1:Nat):Int)) rfl rfl (by rw [Zt' (by omega) (by omega)];omega))<|WL.e Zb'<|WL.nil ?_
        exact PO.againK (i+1,s5,sp1++[Zi' x],anyS (Zi' x) l) ⟨by simp only;omega,by rw [Qw',← htb,g6];rfl,own,b+1,by first | (simp;omega) | (simp only;omega),by simp;omega,by simp only;omega,h5⟩ (by simp only;omega)
     ·skip
      refine WP.exit<|PO.past nofun<|PO.round nofun<|PO.blockX<|PO.next<|WP.seq<|WP.reg<|WL.e Za'<|WL.e Za' ?_
      refine WL.h (Zg' (JF' (E:=E) (v:=(⟨st,[⟨1,r1,⟨false,sp1⟩⟩,⟨2,r2,⟨false,[]⟩⟩],[]⟩:SiteV M.St)) (l:=l) 2 5 (Zj7_ hI (by simp) (by intro t ht;rcases List.mem_cons.1 ht with rfl | ht;exact (by omega:sp1.length≤b);obtain rfl:=List.mem_singleton.1 ht;exact Nat.zero_le _) (by show 2≤b;omega) (Nat.zero_le _) (by simp)) hA (by omega)) k10 ?_)
      intro sv
      have eB:Yt' (⟨st,[⟨1,r1,⟨false,sp1⟩⟩,⟨2,r2,⟨false,[]⟩⟩],[]⟩:SiteV M.St) 2 5 l=if badS 5 l then 1 else if tb then 11 else 0:=by rw [ZbA_ rfl (fun _=>rfl),htb];simp [Zia_]
      rcases (show badS 5 l=true∨(badS 5 l=false∧tb=true)∨(badS 5 l=false∧tb=false) by cases badS 5 l <;> cases tb <;> simp) with hbad | ⟨hbad,rfl⟩ | ⟨hbad,rfl⟩
      ·replace eB:Yt' (⟨st,[⟨1,r1,⟨false,sp1⟩⟩,⟨2,r2,⟨false,[]⟩⟩],[]⟩:SiteV M.St) 2 5 l=1:=by rw [eB,hbad];rfl
       rw [eB,show YC' (⟨st,[⟨1,r1,⟨false,sp1⟩⟩,⟨2,r2,⟨false,[]⟩⟩],[]⟩:SiteV M.St) 2 5 sv l=(⟨st,[⟨1,r1,⟨false,sp1⟩⟩,⟨2,r2,⟨false,[]⟩⟩],[]⟩:SiteV M.St) by rw [YC',eB];rfl]
       refine WL.e Zb'<|WL.next<|WP.seq<|WP.seq<|WP.reg<|WL.e Za'<|WL.e ZG'<|WL.next<|WP.cond_t rfl<|WP.seq<|WP.reg<|WL.e Za' ?_
       refine WL.h (Zg' (Kr' (E:=E) (v:=(⟨st,[⟨1,r1,⟨false,sp1⟩⟩,⟨2,r2,⟨false,[]⟩⟩],[]⟩:SiteV M.St)) (by simp)) k11 ?_)
       intro a5 n5 c5 ys yp
       obtain rfl:ys=[]:=List.perm_nil.1 yp
       refine WL.e (Zz' (xs:=([]:List UInt32)) sl36 Zs')<|WL.e ZG'<|WL.e Za' ?_
       refine WL.bool 88 rfl (fun y2=>?_) (fun y2=>?_)
       ·skip
        refine WL.h (Zg' (JG') k8 ?_)
        refine WL.e Zm'<|WL.e Zb'<|WL.next<|WP.ret<|PO.past nofun ?_
        exact PO.finE Tryz.results4 (Zd' Ze') rfl hK
       ·exact absurd y2 (by decide) 
      ·replace eB:Yt' (⟨st,[⟨1,r1,⟨false,sp1⟩⟩,⟨2,r2,⟨false,[]⟩⟩],[]⟩:SiteV M.St) 2 5 l=11:=by rw [eB,hbad];rfl
       rw [eB,show YC' (⟨st,[⟨1,r1,⟨false,sp1⟩⟩,⟨2,r2,⟨false,[]⟩⟩],[]⟩:SiteV M.St) 2 5 sv l=(⟨st,[⟨1,r1,⟨false,sp1⟩⟩,⟨2,r2,⟨false,[]⟩⟩],[]⟩:SiteV M.St) by rw [YC',eB];rfl]
       refine WL.e Zb'<|WL.next<|WP.seq<|WP.seq<|WP.reg<|WL.e Za'<|WL.e ZG'<|WL.next<|WP.cond_f rfl<|WP.skip<|PO.next<|WP.seq<|WP.seq<|WP.reg<|WL.e Za'<|WL.e ZG'<|WL.e Za'<|WL.e (Zil_ Tryz.underlying4)<|WL.e Za' ?_
       refine WL.bool 95 rfl (fun y3=>?_) (fun y3=>?_)
       ·exact absurd y3 (by decide) 
       ·skip
        refine WL.e Za'<|WL.e ZG'<|WL.e Za'<|WL.e (Zik_ Tryz.underlying4)<|WL.e Zl'<|WL.next<|WP.cond_f rfl<|WP.skip<|PO.next<|WP.seq<|WP.seq<|WP.reg<|WL.e Za'<|WL.next ?_
        refine WP.cond rfl (fun c1=>?_) (fun c1=>?_)
        ·skip
         refine WP.reg<|WL.e Za' ?_
         refine WL.h (Zg' (Zav_ (E:=E) (v:=(⟨st,[⟨1,r1,⟨false,sp1⟩⟩,⟨2,r2,⟨false,[]⟩⟩],[]⟩:SiteV M.St)) 1 (M.frOk hI) (by omega)) k18 ?_)
         dsimp only
         rw [(M.frCom hI (by omega) (by simp) (by omega) (by decide)).1,show ZdO_ (⟨st,[⟨1,r1,⟨false,sp1⟩⟩,⟨2,r2,⟨false,[]⟩⟩],[]⟩:SiteV M.St) 1=(⟨M.comS st 1,[⟨2,r2,⟨false,[]⟩⟩],[]⟩:SiteV M.St) from rfl]
         refine WL.e Za'<|WL.e Zf'<|WL.e Zf'<|WL.e Zb'<|WL.next<|WP.seq<|WP.reg<|WL.e Za'<|WL.e ZG'<|WL.e Za' ?_
         refine WL.bool 111 rfl (fun y0=>?_) (fun y0=>?_)
         ·skip
          refine WL.e Za'<|WL.e Za' ?_
          refine WL.h (Zg' (JF' (E:=E) (v:=(⟨M.comS st 1,[⟨2,r2,⟨false,[]⟩⟩],[]⟩:SiteV M.St)) (l:=l) 2 5 ⟨M.okCom (M.frOk hI) (by omega) 1,by simp,(by intro t ht;obtain rfl:=List.mem_singleton.1 ht;exact Nat.zero_le _),(by show 1≤_;omega),(by show 0≤_;omega),(by simp)⟩ hA (by omega)) k10 ?_)
          intro sv2
          have eC:Yt' (⟨M.comS st 1,[⟨2,r2,⟨false,[]⟩⟩],[]⟩:SiteV M.St) 2 5 l=0:=by rw [ZcD_ (v:=(⟨M.comS st 1,[⟨2,r2,⟨false,[]⟩⟩],[]⟩:SiteV M.St)) (n:=2) (g:=5) (l:=l) (t:=⟨2,r2,⟨false,[]⟩⟩) rfl rfl rfl,hbad];rfl
          rw [eC,show YC' (⟨M.comS st 1,[⟨2,r2,⟨false,[]⟩⟩],[]⟩:SiteV M.St) 2 5 sv2 l=(⟨M.comS st 1,[⟨2,r2,⟨false,[]⟩⟩],[⟨5,2,sv2,l⟩]⟩:SiteV M.St) by rw [YC',if_pos eC];rfl]
          refine WL.e ZG'<|WL.e Zm'<|WL.e Za' ?_
          refine WL.bool 117 rfl (fun y1=>?_) (fun y1=>?_)
          ·skip
           refine WL.e Za' ?_
           refine WL.h (Zg' (Kr' (E:=E) (v:=(⟨M.comS st 1,[⟨2,r2,⟨false,[]⟩⟩],[⟨5,2,sv2,l⟩]⟩:SiteV M.St)) (by simp)) k11 ?_)
           intro a5 n5 c5 ys yp
           obtain rfl:ys=[5]:=List.perm_singleton.1 yp
           refine WL.e (Zz' (xs:=([5]:List UInt32)) sl36 Zs')<|WL.e ZG'<|WL.e Zm'<|WL.e Za' ?_
           refine WL.bool 123 rfl (fun y2=>?_) (fun y2=>?_)
           ·skip
            refine WL.h (Zg' (JG') k8 ?_)
            refine WL.e Zm'<|WL.e Zb'<|WL.next<|WP.ret ?_
            exact PO.finE Tryz.results4 (Zd' Ze') rfl hK
           ·exact absurd y2 (by decide) 
          ·exact absurd y1 (by decide) 
         ·exact absurd y0 (by decide) 
        ·skip
         refine WP.reg<|WL.e Za' ?_
         refine WL.h (Zg' (VY' (E:=E) (v:=(⟨st,[⟨1,r1,⟨false,sp1⟩⟩,⟨2,r2,⟨false,[]⟩⟩],[]⟩:SiteV M.St)) 1 (M.frOk hI)) k15 ?_)
         dsimp only
         rw [M.frAbE hI (by simp),show ZcB_ (⟨st,[⟨1,r1,⟨false,sp1⟩⟩,⟨2,r2,⟨false,[]⟩⟩],[]⟩:SiteV M.St) 1=(⟨M.aboS st 1,[⟨2,r2,⟨false,[]⟩⟩],[]⟩:SiteV M.St) from rfl]
         refine WL.e Zb'<|WL.next<|WP.seq<|WP.reg<|WL.e Za'<|WL.e ZG'<|WL.e Za' ?_
         refine WL.bool 111 rfl (fun y0=>?_) (fun y0=>?_)
         ·skip
          refine WL.e Za'<|WL.e Za' ?_
          refine WL.h (Zg' (JF' (E:=E) (v:=(⟨M.aboS st 1,[⟨2,r2,⟨false,[]⟩⟩],[]⟩:SiteV M.St)) (l:=l) 2 5 ⟨M.okAbo (M.frOk hI) 1,by simp,(by intro t ht;obtain rfl:=List.mem_singleton.1 ht;exact Nat.zero_le _),(by show 1≤_;omega),(by show 0≤_;omega),(by simp)⟩ hA (by omega)) k10 ?_)
          intro sv2
          have eC:Yt' (⟨M.aboS st 1,[⟨2,r2,⟨false,[]⟩⟩],[]⟩:SiteV M.St) 2 5 l=0:=by rw [ZcD_ (v:=(⟨M.aboS st 1,[⟨2,r2,⟨false,[]⟩⟩],[]⟩:SiteV M.St)) (n:=2) (g:=5) (l:=l) (t:=⟨2,r2,⟨false,[]⟩⟩) rfl rfl rfl,hbad];rfl
          rw [eC,show YC' (⟨M.aboS st 1,[⟨2,r2,⟨false,[]⟩⟩],[]⟩:SiteV M.St) 2 5 sv2 l=(⟨M.aboS st 1,[⟨2,r2,⟨false,[]⟩⟩],[⟨5,2,sv2,l⟩]⟩:SiteV M.St) by rw [YC',if_pos eC];rfl]
          refine WL.e ZG'<|WL.e Zm'<|WL.e Za' ?_
          refine WL.bool 117 rfl (fun y1=>?_) (fun y1=>?_)
          ·skip
           refine WL.e Za' ?_
           refine WL.h (Zg' (Kr' (E:=E) (v:=(⟨M.aboS st 1,[⟨2,r2,⟨false,[]⟩⟩],[⟨5,2,sv2,l⟩]⟩:SiteV M.St)) (by simp)) k11 ?_)
           intro a5 n5 c5 ys yp
           obtain rfl:ys=[5]:=List.perm_singleton.1 yp
           refine WL.e (Zz' (xs:=([5]:List UInt32)) sl36 Zs')<|WL.e ZG'<|WL.e Zm'<|WL.e Za' ?_
           refine WL.bool 123 rfl (fun y2=>?_) (fun y2=>?_)
           ·skip
            refine WL.h (Zg' (JG') k8 ?_)
            refine WL.e Zm'<|WL.e Zb'<|WL.next<|WP.ret ?_
            exact PO.finE Tryz.results4 (Zd' Ze') rfl hK
           ·exact absurd y2 (by decide) 
          ·exact absurd y1 (by decide) 
         ·exact absurd y0 (by decide) 
      ·replace eB:Yt' (⟨st,[⟨1,r1,⟨false,sp1⟩⟩,⟨2,r2,⟨false,[]⟩⟩],[]⟩:SiteV M.St) 2 5 l=0:=by rw [eB,hbad];rfl
       rw [eB,show YC' (⟨st,[⟨1,r1,⟨false,sp1⟩⟩,⟨2,r2,⟨false,[]⟩⟩],[]⟩:SiteV M.St) 2 5 sv l=(⟨st,[⟨1,r1,⟨false,sp1⟩⟩,⟨2,r2,⟨false,[]⟩⟩],[⟨5,2,sv,l⟩]⟩:SiteV M.St) by rw [YC',if_pos eB];rfl]
       refine WL.e Zb'<|WL.next<|WP.seq<|WP.seq<|WP.reg<|WL.e Za'<|WL.e ZG'<|WL.next<|WP.cond_f rfl<|WP.skip<|PO.next<|WP.seq<|WP.seq<|WP.reg<|WL.e Za'<|WL.e ZG'<|WL.e Za'<|WL.e (Zil_ Tryz.underlying4)<|WL.e Za' ?_
       refine WL.bool 95 rfl (fun y3=>?_) (fun y3=>?_)
       ·exact absurd y3 (by decide) 
       ·skip
        refine WL.e Za'<|WL.e ZG'<|WL.e Za'<|WL.e (Zik_ Tryz.underlying4)<|WL.e Zl'<|WL.next<|WP.cond_f rfl<|WP.skip<|PO.next<|WP.seq<|WP.seq<|WP.reg<|WL.e Za'<|WL.next ?_
        refine WP.cond rfl (fun c1=>?_) (fun c1=>?_)
        ·skip
         refine WP.reg<|WL.e Za' ?_
         refine WL.h (Zg' (Zav_ (E:=E) (v:=(⟨st,[⟨1,r1,⟨false,sp1⟩⟩,⟨2,r2,⟨false,[]⟩⟩],[⟨5,2,sv,l⟩]⟩:SiteV M.St)) 1 (M.frOk hI) (by omega)) k18 ?_)
         dsimp only
         rw [(M.frCom hI (by omega) (by simp) (by omega) (by decide)).1,show ZdO_ (⟨st,[⟨1,r1,⟨false,sp1⟩⟩,⟨2,r2,⟨false,[]⟩⟩],[⟨5,2,sv,l⟩]⟩:SiteV M.St) 1=(⟨M.comS st 1,[⟨2,r2,⟨false,[]⟩⟩],[⟨5,2,sv,l⟩]⟩:SiteV M.St) from rfl]
         refine WL.e Za'<|WL.e Zf'<|WL.e Zf'<|WL.e Zb'<|WL.next<|WP.seq<|WP.reg<|WL.e Za'<|WL.e ZG'<|WL.e Za' ?_
         refine WL.bool 111 rfl (fun y0=>?_) (fun y0=>?_)
         ·skip
          refine WL.e Za'<|WL.e Za' ?_
          refine WL.h (Zg' (JF' (E:=E) (v:=(⟨M.comS st 1,[⟨2,r2,⟨false,[]⟩⟩],[⟨5,2,sv,l⟩]⟩:SiteV M.St)) (l:=l) 2 5 ⟨M.okCom (M.frOk hI) (by omega) 1,by simp,(by intro t ht;obtain rfl:=List.mem_singleton.1 ht;exact Nat.zero_le _),(by show 1≤_;omega),(by show 1≤_;omega),(fun y hy=>by obtain rfl:=List.mem_singleton.1 hy;show l.length≤_;omega)⟩ hA (by omega)) k10 ?_)
          intro sv2
          have eC:Yt' (⟨M.comS st 1,[⟨2,r2,⟨false,[]⟩⟩],[⟨5,2,sv,l⟩]⟩:SiteV M.St) 2 5 l=0:=by rw [ZcC_ (v:=(⟨M.comS st 1,[⟨2,r2,⟨false,[]⟩⟩],[⟨5,2,sv,l⟩]⟩:SiteV M.St)) (n:=2) (g:=5) (l:=l) (t:=⟨2,r2,⟨false,[]⟩⟩) (x:=(⟨5,2,sv,l⟩:BndV)) rfl rfl rfl rfl,hbad];rfl
          rw [eC,show YC' (⟨M.comS st 1,[⟨2,r2,⟨false,[]⟩⟩],[⟨5,2,sv,l⟩]⟩:SiteV M.St) 2 5 sv2 l=(⟨M.comS st 1,[⟨2,r2,⟨false,[]⟩⟩],[⟨5,2,sv2,l⟩]⟩:SiteV M.St) by rw [YC',if_pos eC];rfl]
          refine WL.e ZG'<|WL.e Zm'<|WL.e Za' ?_
          refine WL.bool 117 rfl (fun y1=>?_) (fun y1=>?_)
          ·skip
           refine WL.e Za' ?_
           refine WL.h (Zg' (Kr' (E:=E) (v:=(⟨M.comS st 1,[⟨2,r2,⟨false,[]⟩⟩],[⟨5,2,sv2,l⟩]⟩:SiteV M.St)) (by simp)) k11 ?_)
           intro a5 n5 c5 ys yp
           obtain rfl:ys=[5]:=List.perm_singleton.1 yp
           refine WL.e (Zz' (xs:=([5]:List UInt32)) sl36 Zs')<|WL.e ZG'<|WL.e Zm'<|WL.e Za' ?_
           refine WL.bool 123 rfl (fun y2=>?_) (fun y2=>?_)
           ·skip
            refine WL.h (Zg' (JG') k8 ?_)
            refine WL.e Zm'<|WL.e Zb'<|WL.next<|WP.ret ?_
            exact PO.finE Tryz.results4 (Zd' Ze') rfl hK
           ·exact absurd y2 (by decide) 
          ·exact absurd y1 (by decide) 
         ·exact absurd y0 (by decide) 
        ·skip
         refine WP.reg<|WL.e Za' ?_
         refine WL.h (Zg' (VY' (E:=E) (v:=(⟨st,[⟨1,r1,⟨false,sp1⟩⟩,⟨2,r2,⟨false,[]⟩⟩],[⟨5,2,sv,l⟩]⟩:SiteV M.St)) 1 (M.frOk hI)) k15 ?_)
         dsimp only
         rw [M.frAbE hI (by simp),show ZcB_ (⟨st,[⟨1,r1,⟨false,sp1⟩⟩,⟨2,r2,⟨false,[]⟩⟩],[⟨5,2,sv,l⟩]⟩:SiteV M.St) 1=(⟨M.aboS st 1,[⟨2,r2,⟨false,[]⟩⟩],[⟨5,2,sv,l⟩]⟩:SiteV M.St) from rfl]
         refine WL.e Zb'<|WL.next<|WP.seq<|WP.reg<|WL.e Za'<|WL.e ZG'<|WL.e Za' ?_
         refine WL.bool 111 rfl (fun y0=>?_) (fun y0=>?_)
         ·skip
          refine WL.e Za'<|WL.e Za' ?_
          refine WL.h (Zg' (JF' (E:=E) (v:=(⟨M.aboS st 1,[⟨2,r2,⟨false,[]⟩⟩],[⟨5,2,sv,l⟩]⟩:SiteV M.St)) (l:=l) 2 5 ⟨M.okAbo (M.frOk hI) 1,by simp,(by intro t ht;obtain rfl:=List.mem_singleton.1 ht;exact Nat.zero_le _),(by show 1≤_;omega),(by show 1≤_;omega),(fun y hy=>by obtain rfl:=List.mem_singleton.1 hy;show l.length≤_;omega)⟩ hA (by omega)) k10 ?_)
          intro sv2
          have eC:Yt' (⟨M.aboS st 1,[⟨2,r2,⟨false,[]⟩⟩],[⟨5,2,sv,l⟩]⟩:SiteV M.St) 2 5 l=0:=by rw [ZcC_ (v:=(⟨M.aboS st 1,[⟨2,r2,⟨false,[]⟩⟩],[⟨5,2,sv,l⟩]⟩:SiteV M.St)) (n:=2) (g:=5) (l:=l) (t:=⟨2,r2,⟨false,[]⟩⟩) (x:=(⟨5,2,sv,l⟩:BndV)) rfl rfl rfl rfl,hbad];rfl
          rw [eC,show YC' (⟨M.aboS st 1,[⟨2,r2,⟨false,[]⟩⟩],[⟨5,2,sv,l⟩]⟩:SiteV M.St) 2 5 sv2 l=(⟨M.aboS st 1,[⟨2,r2,⟨false,[]⟩⟩],[⟨5,2,sv2,l⟩]⟩:SiteV M.St) by rw [YC',if_pos eC];rfl]
          refine WL.e ZG'<|WL.e Zm'<|WL.e Za' ?_
          refine WL.bool 117 rfl (fun y1=>?_) (fun y1=>?_)
          ·skip
           refine WL.e Za' ?_
           refine WL.h (Zg' (Kr' (E:=E) (v:=(⟨M.aboS st 1,[⟨2,r2,⟨false,[]⟩⟩],[⟨5,2,sv2,l⟩]⟩:SiteV M.St)) (by simp)) k11 ?_)
           intro a5 n5 c5 ys yp
           obtain rfl:ys=[5]:=List.perm_singleton.1 yp
           refine WL.e (Zz' (xs:=([5]:List UInt32)) sl36 Zs')<|WL.e ZG'<|WL.e Zm'<|WL.e Za' ?_
           refine WL.bool 123 rfl (fun y2=>?_) (fun y2=>?_)
           ·skip
            refine WL.h (Zg' (JG') k8 ?_)
            refine WL.e Zm'<|WL.e Zb'<|WL.next<|WP.ret ?_
            exact PO.finE Tryz.results4 (Zd' Ze') rfl hK
           ·exact absurd y2 (by decide) 
          ·exact absurd y1 (by decide) 
         ·exact absurd y0 (by decide) 
end Go.SL
set_option linter.unusedSectionVars false
namespace Go.SL
open Go Go.ChangeShapes Go.Deep
section
variable {H : Type} {enc : TypeId × Value → H} {P : Program} {W : World} {held : Bool}
theorem ZmV_ (a:Addr) (n:Nat) (h:a.spot=none):a.add n=⟨a.block,a.off+n,none⟩:=by
  obtain ⟨b,o,s⟩:=a
  simp at h;subst h
  exact YN' b o n
theorem Zfq_ {α:Type} {t e:TypeId} {fuel z:Nat} {cs:List Value} {x:DataW H × List MemPlace} {c:α→List Value} (ht:P.underlying t=some (.slice e)) (hz:P.cellsOf e=z) (h0:0 < z) (he:EncOk z c)
    (hel:∀ n cs' y,DataW.trod enc P W 0 (fun _=>true) held n e cs'=some y→∃ a:α,cs'=c a) (h:DataW.trod enc P W 0 (fun _=>true) held fuel t cs=some x) :
    ∃ (v:SV) (xs:List α),cs=[v.v]∧RL (Old W) z c v.v xs∧(xs=[]∨∃ el sp,x.1=.slice el sp∧el.length=xs.length):=by
  rcases open_slice ht h with ⟨hcs,_⟩ | ⟨a,len,cap,m,n,D,Pl,hcs,_,hl,hm,hmm,hxx,hi⟩
  · exact ⟨⟨none,0,0⟩,[],hcs,V3',.inl rfl⟩
  simp only [if_true] at hmm
  subst hmm
  rw [hz] at hi
  have hi':∀ i:Fin m,∃ y:α,∀ j,j < z→W.cell? ((a.add (i * z)).add j)=(c y)[j]?:=fun i=>by
    obtain ⟨cs',h1,h2⟩:=hi i i.2
    obtain ⟨y,rfl⟩:=hel _ _ _ h2
    exact ⟨y,(World.cells?_some h1).2.2⟩
  by_cases hc0:m=0
  · have:len=0:=by omega
    subst this
    exact ⟨⟨some a,0,m⟩,[],hcs,V3',.inl rfl⟩
  let Y:Fin m→α:=fun i=>Classical.choose (hi' i)
  have hY:∀ i:Fin m,∀ j,j < z→W.cell? ((a.add (i * z)).add j)=(c (Y i))[j]?:=fun i=>Classical.choose_spec (hi' i)
  have hsp:a.spot=none:=by
    have:=hY ⟨0,by omega⟩ 0 h0
    have hlt:0 < (c (Y ⟨0,by omega⟩)).length:=by rw [he.len];exact h0
    rw [List.getElem?_eq_getElem hlt] at this
    have h2:=World.cell?_spot this
    cases hs:a.spot with
    | none=>rfl
    | some s=>simp [Addr.add,hs] at h2
  have hcell:∀ k (hk:k < m * z),W.cell? ⟨a.block,a.off+k,none⟩=(c (Y ⟨k / z,(Nat.div_lt_iff_lt_mul h0).2 hk⟩))[k % z]?:=fun k hk=>by
    have:=hY ⟨k / z,(Nat.div_lt_iff_lt_mul h0).2 hk⟩ (k % z) (Nat.mod_lt _ h0)
    rw [ZmV_ a _ hsp,YN'] at this
    have e:a.off+k / z * z+k % z=a.off+k:=by have:=Nat.div_add_mod k z;rw [Nat.mul_comm] at this;omega
    simp only [e] at this
    exact this
  have hmz:0 < m * z:=Nat.mul_pos (by omega) h0
  obtain ⟨arr,t',fr,hb⟩:∃ arr t' fr,W.heap[a.block]?=some (.cells arr t' fr):=by
    have:=hcell 0 hmz
    rw [List.getElem?_eq_getElem (by rw [he.len];exact Nat.mod_lt _ h0)] at this
    unfold World.cell? at this
    cases hh:W.heap[a.block]? with
    | none=>rw [hh] at this;cases this
    | some o=>rw [hh] at this;cases o <;> first | exact ⟨_,_,_,rfl⟩ | cases this
  have hval:∀ k (hk:k < m * z),arr.toList[a.off+k]?=(c (Y ⟨k / z,(Nat.div_lt_iff_lt_mul h0).2 hk⟩))[k % z]?:=fun k hk=>by
    have:=hcell k hk
    unfold World.cell? at this
    rw [hb] at this
    simpa using this
  have hlen:a.off+m * z≤arr.toList.length:=by
    have:=hval (m * z - 1) (by omega)
    have hlt:(m * z - 1) % z < (c (Y ⟨(m * z - 1) / z,(Nat.div_lt_iff_lt_mul h0).2 (by omega)⟩)).length:=by rw [he.len];exact Nat.mod_lt _ h0
    rw [List.getElem?_eq_getElem hlt] at this
    have:=Ye' this
    omega
  refine ⟨⟨some a,len,m⟩,List.ofFn fun i:Fin len=>Y ⟨i,by omega⟩,hcs,fun S hS=>?_,.inr ⟨_,_,by rw [hxx],by simp⟩⟩
  refine .inr ⟨a.block,a.off,m,arr.toList,(t',fr),?_,by simpa using hl,?_,hlen,?_⟩
  · obtain ⟨b,o,s⟩:=a
    simp at hsp;subst hsp
    simp
  · exact hS _ _ (by simpa [Yc'] using hb)
  · apply List.ext_getElem?
    intro k
    rw [Qz',List.length_ofFn]
    by_cases hk:k < len * z
    · rw [if_pos hk]
      have hkm:k < m * z:=Nat.lt_of_lt_of_le hk (Nat.mul_le_mul_right _ hl)
      rw [hval k hkm]
      have hd:k / z < len:=(Nat.div_lt_iff_lt_mul h0).2 hk
      have hx:(List.ofFn fun i:Fin len=>Y ⟨i,by omega⟩)[k / z]?=some (Y ⟨k / z,by omega⟩):=by simp [hd]
      have:=V2' he hx (k % z) (Nat.mod_lt _ h0)
      rw [show k / z * z+k % z=k by have:=Nat.div_add_mod k z;rw [Nat.mul_comm] at this;omega] at this
      exact this
    · rw [if_neg hk]
      apply List.getElem?_eq_none
      rw [Yf' he,List.length_ofFn];omega
theorem Zc2_ {P:Program} {w:World} {f:FuncId} {args:List Value} (h:Spec P w f args [Old w] fun K R=>K (.bool true) (Old w::R)):Calls P f args.toArray w fun e w'=>e=.returned (.bool true)∧Go.RowKit.Below w.heap.size w w':=by
  refine (h [] (fun v M=>v=.bool true∧M=[Old w]) w (Zmn_ w) ⟨rfl,rfl⟩).mono ?_
  rintro e w' ⟨v,M,rfl,⟨rfl,rfl⟩,hs⟩
  exact ⟨rfl,Zi1_ hs⟩
theorem ZlD_ {t k s u:TypeId} {b0 b1 b2 b3:Nat} {n0 n1 n2 n3:String} {fuel:Nat} {cs:List Value} {y:DataW H × List MemPlace} (ht:P.underlying t=some (.struct #[⟨n0,k,0,false, "", "",b0⟩,⟨n1,s,1,false, "", "",b1⟩,⟨n2,s,2,false, "", "",b2⟩,⟨n3,u,3,false, "", "",b3⟩]))
    (hk:P.underlying k=some (.int .u8)) (hs:P.underlying s=some .string) (hu:P.underlying u=some (.int .u32)) (ct:P.cellsOf t=4) (ck:P.cellsOf k=1) (c1:P.cellsOf s=1) (cu:P.cellsOf u=1)
    (h:DataW.trod enc P W 0 (fun _=>true) held fuel t cs=some y):∃ x:OpM,cs=x.c:=by
  obtain ⟨y0,y1,y2,y3,m,hx,hl,h0,h1,h2,h3⟩:=Go.Joins.trod_struct4 ht h
  rw [ct] at hl
  match cs,hl with
  | [a,b,c,d],_=>
    simp only [ck,c1,cu] at h0 h1 h2 h3
    obtain ⟨n,e0,_,w0⟩:=DataW.trod_int hk h0
    obtain ⟨s1,e1,_,_⟩:=DataW.trod_string hs h1
    obtain ⟨s2,e2,_,_⟩:=DataW.trod_string hs h2
    obtain ⟨v,e3,_,w3⟩:=DataW.trod_int hu h3
    simp at e0 e1 e2 e3
    subst e0 e1 e2 e3
    refine ⟨⟨UInt8.ofNat n.toNat,s1,s2,UInt32.ofNat v.toNat⟩,?_⟩
    simp only [OpM.c]
    rw [← ZlS_ w0,← Zng_ w3]
end
end Go.SL
