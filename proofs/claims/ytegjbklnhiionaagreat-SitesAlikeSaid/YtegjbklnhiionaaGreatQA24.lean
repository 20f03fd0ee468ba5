/- TG SLv: rules and walks, several texts in one. -/
import Derived.Test.YtegjbklnhiionaaGreatQA23
import Derived.Test.YtegjbklnhiionaaGreatProg
import Derived.KernelRfl
import Derived.Deep.Slices
import Derived.ChangeSame
import Derived.SizedLaws
set_option linter.unusedSimpArgs false
set_option linter.unusedVariables false
namespace Go.SL.Fc
open Go Go.Proofs Go.SL
theorem a50:ZJ' Tryz.prog 50=some none:=by kernel_rfl
theorem k18:Zh' Tryz.prog 18=true:=by kernel_rfl
theorem k19:Zh' Tryz.prog 19=true:=by kernel_rfl
theorem k21:Zh' Tryz.prog 21=true:=by kernel_rfl
theorem k8:Zh' Tryz.prog 8=true:=by kernel_rfl
theorem sl50:slOf Tryz.prog 50=some (26,4,48):=by kernel_rfl
theorem sl56:slOf Tryz.prog 56=some (50,1,24):=by kernel_rfl
theorem sl57:slOf Tryz.prog 57=some (4,1,1):=by kernel_rfl
end Go.SL.Fc
namespace Go.SL
open Go Go.Proofs Fc
set_option maxHeartbeats 4000000 in
theorem Zig_ {g:World} {A:HP} {u v:Value} {xs:List (Zfp_ A)} {cs:List Bool} (hA:RL A 1 opsC u xs) (hC:RL A 1 Zif_ v cs):Spec Tryz.prog g 5 [u,v] [A] fun K R=>K (.bool true) (A::R):=by
 refine Spec.intro Tryz.func5 rfl Tryz.ntmps5 rfl fun R K hK=>?_
 refine WP.seq<|WP.reg<|WL.e Zb'<|WL.next<|WP.seq<|WP.seq<|WP.reg<|WL.e Za'<|WL.e (ZC' (xs:=xs) sl56 hA)<|WL.e YT'<|WL.next ?_
 refine WP.cond rfl (fun h0=>?_) (fun h0=>?_)
 ·skip
  refine WP.seq<|WP.reg ?_
  refine WL.h (Zg' (UP') k8 ?_)
  refine WL.e Zb'<|WL.next<|WP.ret<|PO.past nofun ?_
  exact PO.finE Tryz.results5 (Zd' Ze') rfl hK
 ·replace h0:xs.length≤30:=by simp at h0;omega
  refine WP.skip<|PO.next<|WP.seq<|WP.reg ?_
  refine WL.h (Zg' (V2' 1 (by omega)) k7 ?_)
  intro p1 d1 M1 E1 hE1
  refine WL.e Zb'<|WL.next<|WP.seq<|WP.reg ?_
  refine WL.h (Zg' (V2' 2 (by omega)) k7 ?_)
  intro p2 d2 M2 E2 hE2
  refine WL.e Zb'<|WL.next<|WP.seq<|WP.reg ?_
  refine WL.h (Zg' (V2' 3 (by omega)) k7 ?_)
  intro p3 d3 M3 E3 hE3
  refine WL.e Zb'<|WL.next<|WP.seq<|WP.seq<|WP.reg<|WL.e Za'<|WL.e (Jb' pt29)<|WL.e Za' ?_
  refine WL.bool 32 rfl (fun n1=>?_) (fun n1=>?_)
  ·cases n1 
  ·skip
   refine WL.e Za'<|WL.e (Jb' pt29)<|WL.e Zl'<|WL.e Za' ?_
   refine WL.bool 36 rfl (fun n2=>?_) (fun n2=>?_)
   ·cases n2 
   ·skip
    refine WL.e Za'<|WL.e (Jb' pt29)<|WL.e Zl'<|WL.next ?_
    refine WP.cond rfl (fun n3=>?_) (fun n3=>?_)
    ·cases n3
    ·skip
     refine WP.skip<|PO.next<|WP.seq<|WP.reg<|WL.e Zb'<|WL.next<|WP.seq<|WP.seq<|WP.reg<|WL.e Zb'<|WL.next<|WP.block<|WP.loopK (fun (x:Nat × M1.St × M2.St × M3.St × UInt32)=>[(9,.int .i64 x.1),(8,.int .u32 x.2.2.2.2.toNat)]) (fun (x:Nat × M1.St × M2.St × M3.St × UInt32)=>Si E1 p1 d1 (⟨x.2.1,[],[]⟩:SiteV M1.St)::Si E2 p2 d2 (⟨x.2.2.1,[],[]⟩:SiteV M2.St)::Si E3 p3 d3 (⟨x.2.2.2.1,[],[]⟩:SiteV M3.St)::A::R) [(0,_),(1,_),(5,_),(6,_),(7,_)] (fun (x:Nat × M1.St × M2.St × M3.St × UInt32)=>x.1≤xs.length∧∃ rs c k b,c≤x.1∧b≤x.1 * 32∧x.2.2.2.2.toNat≤k∧Fr3 x.2.1 x.2.2.1 x.2.2.2.1 [] [] rs c k b) (fun (x:Nat × M1.St × M2.St × M3.St × UInt32)=>xs.length - x.1) (0,M1.first,M2.first,M3.first,0) (⟨Nat.zero_le _,[],0,0,0,Nat.le_refl _,Nat.le_refl _,Nat.le_refl _,Fr3.first⟩) ?_
     rintro ⟨i,s1,s2,s3,last⟩ ⟨hi,rs,c,kk,b,hc,hb,hl,hI⟩
     simp only at hi hc hb hl hI
     dsimp only
     refine WP.seq<|WP.seq<|WP.reg<|WL.e Za'<|WL.e Za'<|WL.e (ZC' (xs:=xs) sl56 hA)<|WL.e ZZ'<|WL.next ?_
     refine WP.cond rfl (fun h1=>?_) (fun h1=>?_)
     ·have hlt:i < xs.length:=by rw [decide_eq_true_eq] at h1;omega
      obtain ⟨⟨⟨sv0,ops⟩,hO⟩,hx⟩:∃ x,xs[i]?=some x:=⟨_,List.getElem?_eq_getElem hlt⟩
      refine WP.skip<|PO.next<|WP.seq<|WP.block<|WP.seq<|WP.seq<|WP.reg<|WL.e Za'<|WL.e Za'<|WL.e (ZM' (j:=i) (xs:=xs) sl56 hA hlt)<|WL.e (Z2' (j:=i) (a:=⟨(sv0,ops),hO⟩) a50 opsE hA hx)<|WL.e (ZC' (xs:=ops) sl50 hO)<|WL.e YT'<|WL.next ?_
      refine WP.cond rfl (fun h2=>?_) (fun h2=>?_)
      ·skip
       refine WP.seq<|WP.reg ?_
       refine WL.h (Zg' (UP') k8 ?_)
       refine WL.e Zb'<|WL.next<|WP.ret<|PO.past nofun<|PO.blockR<|PO.past nofun<|PO.round nofun<|PO.blockR<|PO.past nofun ?_
       exact PO.finE Tryz.results5 (Zd' Ze') rfl hK
      ·replace h2:ops.length≤30:=by simp at h2;omega
       refine WP.skip<|PO.next<|WP.seq<|WP.seq<|WP.reg<|WL.e Za' ?_
       refine WL.h (Zg' (JN' (E:=E1) (v:=(⟨s1,[],[]⟩:SiteV M1.St)) 1 true) k9 ?_)
       intro q1 r1
       dsimp only
       obtain ⟨eb1,eb2,eb3,hB⟩:=hI.beg (by omega)
       rw [eb1,Zaz_ eb1]
       refine WL.e ZT'<|WL.e Za' ?_
       refine WL.bool 56 rfl (fun g1=>?_) (fun g1=>?_)
       ·exact absurd g1 (by decide) 
       ·skip
        refine WL.e Za' ?_
        refine WL.h (Zg' (JN' (E:=E2) (v:=(⟨s2,[],[]⟩:SiteV M2.St)) 1 true) k9 ?_)
        intro q2 r2
        dsimp only
        rw [eb2,Zaz_ eb2]
        refine WL.e ZT'<|WL.e Zl'<|WL.e Za' ?_
        refine WL.bool 61 rfl (fun g2=>?_) (fun g2=>?_)
        ·exact absurd g2 (by decide) 
        ·skip
         refine WL.e Za' ?_
         refine WL.h (Zg' (JN' (E:=E3) (v:=(⟨s3,[],[]⟩:SiteV M3.St)) 1 true) k9 ?_)
         intro q3 r3
         dsimp only
         rw [eb3,Zaz_ eb3]
         replace hB:=hB q1 q2 q3
         refine WL.e ZT'<|WL.e Zl'<|WL.next<|WP.cond_f rfl<|WP.skip<|PO.next<|WP.seq<|WP.seq<|WP.reg<|WL.e Zb'<|WL.next<|WP.block<|WP.loopK (fun (x:Nat × M1.St × M2.St × M3.St × List SpanM)=>[(10,.int .i64 x.1)]) (fun (x:Nat × M1.St × M2.St × M3.St × List SpanM)=>Si E1 p1 d1 (⟨x.2.1,[⟨1,r1,⟨true,x.2.2.2.2⟩⟩],[]⟩:SiteV M1.St)::Si E2 p2 d2 (⟨x.2.2.1,[⟨1,r2,⟨true,x.2.2.2.2⟩⟩],[]⟩:SiteV M2.St)::Si E3 p3 d3 (⟨x.2.2.2.1,[⟨1,r3,⟨true,x.2.2.2.2⟩⟩],[]⟩:SiteV M3.St)::A::R) [(0,_),(1,_),(5,_),(6,_),(7,_),(8,_),(9,_),(40,_),(41,_),(42,_),(43,_),(46,_),(47,_),(48,_),(49,_),(50,_),(51,_),(53,_),(54,_),(55,_),(56,_),(57,_),(58,_),(59,_),(60,_),(61,_),(62,_),(63,_),(64,_),(65,_)] (fun (x:Nat × M1.St × M2.St × M3.St × List SpanM)=>x.1≤ops.length∧∃ own bq,own.length≤x.1∧x.2.2.2.2.length+1≤bq∧bq≤b+1+x.1∧Fr3 x.2.1 x.2.2.1 x.2.2.2.1 [1] own rs c kk bq) (fun (x:Nat × M1.St × M2.St × M3.St × List SpanM)=>ops.length - x.1) (0,M1.begS s1 1 q1,M2.begS s2 1 q2,M3.begS s3 1 q3,[]) (⟨Nat.zero_le _,[],b+1,Nat.zero_le _,by simp,Nat.le_refl _,hB⟩) ?_
         clear hB hI eb1 eb2 eb3
         rintro ⟨k,s1,s2,s3,ss⟩ ⟨hk,own,bq,hol,hsl,hb1,hI⟩
         simp only at hk hol hsl hb1 hI
         dsimp only
         refine WP.seq<|WP.seq<|WP.reg<|WL.e Za'<|WL.e Za'<|WL.e Za'<|WL.e (ZM' (j:=i) (xs:=xs) sl56 hA hlt)<|WL.e (Z2' (j:=i) (a:=⟨(sv0,ops),hO⟩) a50 opsE hA hx)<|WL.e (ZC' (xs:=ops) sl50 hO)<|WL.e ZZ'<|WL.next ?_
         refine WP.cond rfl (fun h3=>?_) (fun h3=>?_)
         ·have hlk:k < ops.length:=by rw [decide_eq_true_eq] at h3;omega
          obtain ⟨x,hxk⟩:∃ x,ops[k]?=some x:=⟨_,List.getElem?_eq_getElem hlk⟩
          refine WP.skip<|PO.next<|WP.seq<|WP.block<|WP.seq<|WP.reg<|WL.e Za'<|WL.e Za'<|WL.e Za'<|WL.e (ZM' (j:=i) (xs:=xs) sl56 hA hlt)<|WL.e (Z2' (j:=i) (a:=⟨(sv0,ops),hO⟩) a50 opsE hA hx)<|WL.e Za'<|WL.e (ZM' (j:=k) (xs:=ops) sl50 hO hlk)<|WL.e (Yh' (a:=x) a26 opE hO hxk) ?_
          refine WL.h (Zg' (Xz' (E:=E1) (v:=(⟨s1,[⟨1,r1,⟨true,ss⟩⟩],[]⟩:SiteV M1.St)) 1 x (UQ' hI.ok1 hsl)) k12 ?_)
          rcases hI.do_ (r1:=r1) (r2:=r2) (r3:=r3) (ss:=ss) (by omega) x with ⟨m,hm,e1,e2,e3⟩ | ⟨f1,f2,f3,e1,e2,e3,h5⟩ | ⟨t1,t2,t3,rw,e1,e2,e3,hrl,h5⟩
          ·rw [e1]
           dsimp only
           refine WL.e Za'<|WL.e Zf'<|WL.e Zf' ?_
           refine WL.h (Zu' z40 fun b1=>?_)
           refine WL.h' (Zk' s40 ?_)
           refine WL.e Zb'<|WL.next<|WP.seq<|WP.reg<|WL.e Za'<|WL.e Za'<|WL.e Za'<|WL.e (ZM' (j:=i) (xs:=xs) sl56 hA hlt)<|WL.e (Z2' (j:=i) (a:=⟨(sv0,ops),hO⟩) a50 opsE hA hx)<|WL.e Za'<|WL.e (ZM' (j:=k) (xs:=ops) sl50 hO hlk)<|WL.e (Yh' (a:=x) a26 opE hO hxk) ?_
           refine WL.h (Zg' (Xz' (E:=E2) (v:=(⟨s2,[⟨1,r2,⟨true,ss⟩⟩],[]⟩:SiteV M2.St)) 1 x (UQ' hI.ok2 hsl)) k12 ?_)
           rw [e2]
           dsimp only
           refine WL.e Za'<|WL.e Zf'<|WL.e Zf' ?_
           refine WL.h (Zu' z40 fun b2=>?_)
           refine WL.h' (Zk' s40 ?_)
           refine WL.e Zb'<|WL.next<|WP.seq<|WP.reg<|WL.e Za'<|WL.e Za'<|WL.e Za'<|WL.e (ZM' (j:=i) (xs:=xs) sl56 hA hlt)<|WL.e (Z2' (j:=i) (a:=⟨(sv0,ops),hO⟩) a50 opsE hA hx)<|WL.e Za'<|WL.e (ZM' (j:=k) (xs:=ops) sl50 hO hlk)<|WL.e (Yh' (a:=x) a26 opE hO hxk) ?_
           refine WL.h (Zg' (Xz' (E:=E3) (v:=(⟨s3,[⟨1,r3,⟨true,ss⟩⟩],[]⟩:SiteV M3.St)) 1 x (UQ' hI.ok3 hsl)) k12 ?_)
           rw [e3]
           dsimp only
           refine WL.e Za'<|WL.e Zf'<|WL.e Zf' ?_
           refine WL.h (Zu' z40 fun b3=>?_)
           refine WL.h' (Zk' s40 ?_)
           refine WL.e Zb'<|WL.next<|WP.seq<|WP.reg<|WL.e Za'<|WL.e Za'<|WL.e ZT'<|WL.e Za' ?_
           refine WL.bool 114 rfl (fun g1=>?_) (fun g1=>?_)
           ·exact absurd g1 (by simp) 
           ·skip
            refine WL.e Za'<|WL.e Za'<|WL.e ZT'<|WL.e Zl'<|WL.e Za' ?_
            refine WL.bool 119 rfl (fun g2=>?_) (fun g2=>?_)
            ·exact absurd g2 (by simp) 
            ·skip
             refine WL.e (Zo' a40)<|WL.e (Zo' a40) ?_
             refine WL.h (Zg' (Xu' (u:=⟨none,0,0⟩) (v:=⟨none,0,0⟩) (xs:=[]) (ys:=[]) (A:=Si E1 p1 d1 (⟨s1,[⟨1,r1,⟨true,ss⟩⟩],[]⟩:SiteV M1.St)) (B:=Si E2 p2 d2 (⟨s2,[⟨1,r2,⟨true,ss⟩⟩],[]⟩:SiteV M2.St)) XX' XX' (by simp)) k19 ?_)
             rw [decide_eq_true rfl]
             refine WL.e Zz'<|WL.e Zl'<|WL.e Za' ?_
             refine WL.bool 125 rfl (fun g3=>?_) (fun g3=>?_)
             ·exact absurd g3 (by decide) 
             ·skip
              refine WL.e (Zo' a40)<|WL.e (Zo' a40) ?_
              refine WL.h (Zg' (Xu' (u:=⟨none,0,0⟩) (v:=⟨none,0,0⟩) (xs:=[]) (ys:=[]) (A:=Si E2 p2 d2 (⟨s2,[⟨1,r2,⟨true,ss⟩⟩],[]⟩:SiteV M2.St)) (B:=Si E3 p3 d3 (⟨s3,[⟨1,r3,⟨true,ss⟩⟩],[]⟩:SiteV M3.St)) XX' XX' (by simp)) k19 ?_)
              rw [decide_eq_true rfl]
              refine WL.e Zz'<|WL.e Zl'<|WL.next<|WP.cond_f rfl<|WP.skip<|PO.blockN<|PO.next<|WP.reg<|WL.e Za'<|WL.e (ZK' (c:=((k+1:Nat):Int)) rfl rfl (by rw [Zt' (by omega) (by omega)];omega))<|WL.e Zb'<|WL.nil ?_
              exact PO.againK (k+1,s1,s2,s3,ss) ⟨by simp only;omega,own,bq,by simp only;omega,hsl,by simp only;omega,hI⟩ (by simp only;omega)
          ·rw [e1]
           dsimp only
           intro w1
           refine WL.e Za'<|WL.e Zf'<|WL.e Zf' ?_
           refine WL.h (Zu' z40 fun b4=>?_)
           refine WL.h' (Zk' s40 ?_)
           refine WL.e Zb'<|WL.next<|WP.seq<|WP.reg<|WL.e Za'<|WL.e Za'<|WL.e Za'<|WL.e (ZM' (j:=i) (xs:=xs) sl56 hA hlt)<|WL.e (Z2' (j:=i) (a:=⟨(sv0,ops),hO⟩) a50 opsE hA hx)<|WL.e Za'<|WL.e (ZM' (j:=k) (xs:=ops) sl50 hO hlk)<|WL.e (Yh' (a:=x) a26 opE hO hxk) ?_
           refine WL.h (Zg' (Xz' (E:=E2) (v:=(⟨s2,[⟨1,r2,⟨true,ss⟩⟩],[]⟩:SiteV M2.St)) 1 x (UQ' hI.ok2 hsl)) k12 ?_)
           rw [e2]
           dsimp only
           intro w2
           refine WL.e Za'<|WL.e Zf'<|WL.e Zf' ?_
           refine WL.h (Zu' z40 fun b5=>?_)
           refine WL.h' (Zk' s40 ?_)
           refine WL.e Zb'<|WL.next<|WP.seq<|WP.reg<|WL.e Za'<|WL.e Za'<|WL.e Za'<|WL.e (ZM' (j:=i) (xs:=xs) sl56 hA hlt)<|WL.e (Z2' (j:=i) (a:=⟨(sv0,ops),hO⟩) a50 opsE hA hx)<|WL.e Za'<|WL.e (ZM' (j:=k) (xs:=ops) sl50 hO hlk)<|WL.e (Yh' (a:=x) a26 opE hO hxk) ?_
           refine WL.h (Zg' (Xz' (E:=E3) (v:=(⟨s3,[⟨1,r3,⟨true,ss⟩⟩],[]⟩:SiteV M3.St)) 1 x (UQ' hI.ok3 hsl)) k12 ?_)
           rw [e3]
           dsimp only
           intro w3
           refine WL.e Za'<|WL.e Zf'<|WL.e Zf' ?_
           refine WL.h (Zu' z40 fun b6=>?_)
           refine WL.h' (Zk' s40 ?_)
           refine WL.e Zb'<|WL.next<|WP.seq<|WP.reg<|WL.e Za'<|WL.e Za'<|WL.e ZT'<|WL.e Za' ?_
           refine WL.bool 114 rfl (fun g1=>?_) (fun g1=>?_)
           ·exact absurd g1 (by decide) 
           ·skip
            refine WL.e Za'<|WL.e Za'<|WL.e ZT'<|WL.e Zl'<|WL.e Za' ?_
            refine WL.bool 119 rfl (fun g2=>?_) (fun g2=>?_)
            ·exact absurd g2 (by decide) 
            ·skip
             refine WL.e (Zo' a40)<|WL.e (Zo' a40) ?_
             refine WL.h (Zg' (Xu' (u:=⟨none,0,0⟩) (v:=⟨none,0,0⟩) (xs:=[]) (ys:=[]) (A:=Si E1 p1 d1 (⟨f1 w1,[⟨1,r1,⟨true,ss++[Zi' x]⟩⟩],[]⟩:SiteV M1.St)) (B:=Si E2 p2 d2 (⟨f2 w2,[⟨1,r2,⟨true,ss++[Zi' x]⟩⟩],[]⟩:SiteV M2.St)) XX' XX' (by simp)) k19 ?_)
             rw [decide_eq_true rfl]
             refine WL.e Zz'<|WL.e Zl'<|WL.e Za' ?_
             refine WL.bool 125 rfl (fun g3=>?_) (fun g3=>?_)
             ·exact absurd g3 (by decide) 
             ·skip
              refine WL.e (Zo' a40)<|WL.e (Zo' a40) ?_
              refine WL.h (Zg' (Xu' (u:=⟨none,0,0⟩) (v:=⟨none,0,0⟩) (xs:=[]) (ys:=[]) (A:=Si E2 p2 d2 (⟨f2 w2,[⟨1,r2,⟨true,ss++[Zi' x]⟩⟩],[]⟩:SiteV M2.St)) (B:=Si E3 p3 d3 (⟨f3 w3,[⟨1,r3,⟨true,ss++[Zi' x]⟩⟩],[]⟩:SiteV M3.St)) XX' XX' (by simp)) k19 ?_)
              rw [decide_eq_true rfl]
              refine WL.e Zz'<|WL.e Zl'<|WL.next<|WP.cond_f rfl<|WP.skip<|PO.blockN<|PO.next<|WP.reg<|WL.e Za'<|WL.e (ZK' (c:=((k+1:Nat):Int)) rfl rfl (by rw [Zt' (by omega) (by omega)];omega))<|WL.e Zb'<|WL.nil ?_
              exact PO.againK (k+1,f1 w1,f2 w2,f3 w3,ss++[Zi' x]) ⟨by simp only;omega,own++[Z1' x],bq+1,by simp;omega,by simp;omega,by simp only;omega,h5 w1 w2 w3⟩ (by simp only;omega)
          ·rw [e1]
           dsimp only
           intro a1 m1 c1
           refine WL.e Za'<|WL.e Zf'<|WL.e Zf' ?_
           refine WL.h (Zu' z40 fun b7=>?_)
           refine WL.h' (Zk' s40 ?_)
           refine WL.e Zb'<|WL.next<|WP.seq<|WP.reg<|WL.e Za'<|WL.e Za'<|WL.e Za'<|WL.e (ZM' (j:=i) (xs:=xs) sl56 hA hlt)<|WL.e (Z2' (j:=i) (a:=⟨(sv0,ops),hO⟩) a50 opsE hA hx)<|WL.e Za'<|WL.e (ZM' (j:=k) (xs:=ops) sl50 hO hlk)<|WL.e (Yh' (a:=x) a26 opE hO hxk) ?_
           refine WL.h (Zg' (Xz' (E:=E2) (v:=(⟨s2,[⟨1,r2,⟨true,ss⟩⟩],[]⟩:SiteV M2.St)) 1 x (UQ' hI.ok2 hsl)) k12 ?_)
           rw [e2]
           dsimp only
           intro a2 m2 c2
           refine WL.e Za'<|WL.e Zf'<|WL.e Zf' ?_
           refine WL.h (Zu' z40 fun b8=>?_)
           refine WL.h' (Zk' s40 ?_)
           refine WL.e Zb'<|WL.next<|WP.seq<|WP.reg<|WL.e Za'<|WL.e Za'<|WL.e Za'<|WL.e (ZM' (j:=i) (xs:=xs) sl56 hA hlt)<|WL.e (Z2' (j:=i) (a:=⟨(sv0,ops),hO⟩) a50 opsE hA hx)<|WL.e Za'<|WL.e (ZM' (j:=k) (xs:=ops) sl50 hO hlk)<|WL.e (Yh' (a:=x) a26 opE hO hxk) ?_
           refine WL.h (Zg' (Xz' (E:=E3) (v:=(⟨s3,[⟨1,r3,⟨true,ss⟩⟩],[]⟩:SiteV M3.St)) 1 x (UQ' hI.ok3 hsl)) k12 ?_)
           rw [e3]
           dsimp only
           intro a3 m3 c3
           refine WL.e Za'<|WL.e Zf'<|WL.e Zf' ?_
           refine WL.h (Zu' z40 fun b9=>?_)
           refine WL.h' (Zk' s40 ?_)
           refine WL.e Zb'<|WL.next<|WP.seq<|WP.reg<|WL.e Za'<|WL.e Za'<|WL.e ZT'<|WL.e Za' ?_
           refine WL.bool 114 rfl (fun g1=>?_) (fun g1=>?_)
           ·exact absurd g1 (by decide) 
           ·skip
            refine WL.e Za'<|WL.e Za'<|WL.e ZT'<|WL.e Zl'<|WL.e Za' ?_
            refine WL.bool 119 rfl (fun g2=>?_) (fun g2=>?_)
            ·exact absurd g2 (by decide) 
            ·skip
             refine WL.e (Zo' a40)<|WL.e (Zo' a40) ?_
             refine WL.h (Zg' (Xu' (u:=⟨a1,m1,c1⟩) (v:=⟨a2,m2,c2⟩) (Zr' (E:=105) (xs:=rw)) (Zr' (E:=105) (xs:=rw)) (by omega)) k19 ?_)
             rw [decide_eq_true rfl]
             refine WL.e Zz'<|WL.e Zl'<|WL.e Za' ?_
             refine WL.bool 125 rfl (fun g3=>?_) (fun g3=>?_)
             ·exact absurd g3 (by decide) 
             ·skip
              refine WL.e (Zo' a40)<|WL.e (Zo' a40) ?_
              refine WL.h (Zg' (Xu' (u:=⟨a2,m2,c2⟩) (v:=⟨a3,m3,c3⟩) (Zr' (E:=105) (xs:=rw)) (Zr' (E:=105) (xs:=rw)) (by omega)) k19 ?_)
              rw [decide_eq_true rfl]
              refine WL.e Zz'<|WL.e Zl'<|WL.next<|WP.cond_f rfl<|WP.skip<|PO.blockN<|PO.next<|WP.reg<|WL.e Za'<|WL.e (ZK' (c:=((k+1:Nat):Int)) rfl rfl (by rw [Zt' (by omega) (by omega)];omega))<|WL.e Zb'<|WL.nil ?_
              exact PO.againK (k+1,t1,t2,t3,ss++[Zi' x]) ⟨by simp only;omega,own,bq+1,by simp only;omega,by simp;omega,by simp only;omega,h5⟩ (by simp only;omega)
         ·skip
          refine WP.exit<|PO.past nofun<|PO.round nofun<|PO.blockX<|PO.next<|WP.seq<|WP.seq<|WP.reg<|WL.e Za'<|WL.e Za'<|WL.e (ZC' (xs:=cs) sl57 hC)<|WL.e ZZ'<|WL.e Za' ?_
          refine WL.join 141 (.bool (decide (cs[i]?=some false))) (.c (.c (.c (.c (.c (.c .n)))))) ?_ ?_
          ·refine WL.bool 135 rfl (fun hg=>?_) (fun hg=>?_)
           ·skip
            refine WL.e Za'<|WL.e Za'<|WL.e (ZM' (j:=i) (xs:=cs) sl57 hC (show i < cs.length by simpa using hg)) ?_
            refine WL.e (Z2' (j:=i) a4 ZlX_ hC (List.getElem?_eq_getElem (show i < cs.length by simpa using hg)))<|WL.e Zz'<|WL.e Zn' ?_
            exact WL.nil (PO.joined rfl (by simp [List.getElem?_eq_getElem (show i < cs.length by simpa using hg)]))
           ·skip
            refine WL.skip<|WL.skip<|WL.skip<|WL.skip<|WL.skip<|WL.e Zl' ?_
            exact WL.nil (PO.joined rfl (by simp [List.getElem?_eq_none (show cs.length≤i by simpa using hg)]))
          refine WL.next ?_
          refine WP.cond rfl (fun c1=>?_) (fun c1=>?_)
          ·skip
           refine WP.seq<|WP.seq<|WP.reg<|WL.e Za' ?_
           refine WL.h (Zg' (Qx' (E:=E1) (v:=(⟨s1,[⟨1,r1,⟨true,ss⟩⟩],[]⟩:SiteV M1.St)) 1 hI.ok1) k15 ?_)
           obtain ⟨ea1,ea2,ea3,k9,hk9,hI2⟩:=hI.abo
           dsimp only
           rw [ea1,show ZaW_ (⟨s1,[⟨1,r1,⟨true,ss⟩⟩],[]⟩:SiteV M1.St) 1=(⟨M1.aboS s1 1,[],[]⟩:SiteV M1.St) from rfl]
           refine WL.e ZT'<|WL.e Za' ?_
           refine WL.bool 145 rfl (fun g1=>?_) (fun g1=>?_)
           ·exact absurd g1 (by decide) 
           ·skip
            refine WL.e Za' ?_
            refine WL.h (Zg' (Qx' (E:=E2) (v:=(⟨s2,[⟨1,r2,⟨true,ss⟩⟩],[]⟩:SiteV M2.St)) 1 hI.ok2) k15 ?_)
            dsimp only
            rw [ea2,show ZaW_ (⟨s2,[⟨1,r2,⟨true,ss⟩⟩],[]⟩:SiteV M2.St) 1=(⟨M2.aboS s2 1,[],[]⟩:SiteV M2.St) from rfl]
            refine WL.e ZT'<|WL.e Zl'<|WL.e Za' ?_
            refine WL.bool 150 rfl (fun g2=>?_) (fun g2=>?_)
            ·exact absurd g2 (by decide) 
            ·skip
             refine WL.e Za' ?_
             refine WL.h (Zg' (Qx' (E:=E3) (v:=(⟨s3,[⟨1,r3,⟨true,ss⟩⟩],[]⟩:SiteV M3.St)) 1 hI.ok3) k15 ?_)
             dsimp only
             rw [ea3,show ZaW_ (⟨s3,[⟨1,r3,⟨true,ss⟩⟩],[]⟩:SiteV M3.St) 1=(⟨M3.aboS s3 1,[],[]⟩:SiteV M3.St) from rfl]
             refine WL.e ZT'<|WL.e Zl'<|WL.next<|WP.cond_f rfl<|WP.skip<|PO.next<|WP.exit<|PO.past nofun<|PO.blockX<|PO.next<|WP.reg<|WL.e Za'<|WL.e (ZK' (c:=((i+1:Nat):Int)) rfl rfl (by rw [Zt' (by omega) (by omega)];omega))<|WL.e Zb'<|WL.nil ?_
             exact PO.againK (i+1,M1.aboS s1 1,M2.aboS s2 1,M3.aboS s3 1,last) ⟨by simp only;omega,rs,c,k9,bq,by simp only;omega,by simp only;omega,by simp only;omega,hI2⟩ (by simp only;omega)
          ·skip
           refine WP.skip<|PO.next<|WP.seq<|WP.reg<|WL.e Za' ?_
           refine WL.h (Zg' (Vw' (E:=E1) (v:=(⟨s1,[⟨1,r1,⟨true,ss⟩⟩],[]⟩:SiteV M1.St)) 1 hI.ok1 (by omega)) k18 ?_)
           obtain ⟨ec1,ec2,ec3,hk9,hI2⟩:=hI.com (by omega) (by omega) (by omega)
           dsimp only
           rw [ec1,show ZcC_ (⟨s1,[⟨1,r1,⟨true,ss⟩⟩],[]⟩:SiteV M1.St) 1=(⟨M1.comS s1 1,[],[]⟩:SiteV M1.St) from rfl]
           refine WL.e Za'<|WL.e Zf'<|WL.e Zf'<|WL.e Zb'<|WL.e Zb'<|WL.next<|WP.seq<|WP.reg<|WL.e Za' ?_
           refine WL.h (Zg' (Vw' (E:=E2) (v:=(⟨s2,[⟨1,r2,⟨true,ss⟩⟩],[]⟩:SiteV M2.St)) 1 hI.ok2 (by omega)) k18 ?_)
           dsimp only
           rw [ec2,show ZcC_ (⟨s2,[⟨1,r2,⟨true,ss⟩⟩],[]⟩:SiteV M2.St) 1=(⟨M2.comS s2 1,[],[]⟩:SiteV M2.St) from rfl]
           refine WL.e Za'<|WL.e Zf'<|WL.e Zf'<|WL.e Zb'<|WL.e Zb'<|WL.next<|WP.seq<|WP.reg<|WL.e Za' ?_
           refine WL.h (Zg' (Vw' (E:=E3) (v:=(⟨s3,[⟨1,r3,⟨true,ss⟩⟩],[]⟩:SiteV M3.St)) 1 hI.ok3 (by omega)) k18 ?_)
           dsimp only
           rw [ec3,show ZcC_ (⟨s3,[⟨1,r3,⟨true,ss⟩⟩],[]⟩:SiteV M3.St) 1=(⟨M3.comS s3 1,[],[]⟩:SiteV M3.St) from rfl]
           refine WL.e Za'<|WL.e Zf'<|WL.e Zf'<|WL.e Zb'<|WL.e Zb'<|WL.next<|WP.seq<|WP.seq<|WP.reg<|WL.e Za'<|WL.e ZT'<|WL.e Za' ?_
           refine WL.bool 172 rfl (fun g1=>?_) (fun g1=>?_)
           ·exact absurd g1 (by decide) 
           ·skip
            refine WL.e Za'<|WL.e ZT'<|WL.e Zl'<|WL.e Za' ?_
            refine WL.bool 176 rfl (fun g2=>?_) (fun g2=>?_)
            ·exact absurd g2 (by decide) 
            ·skip
             refine WL.e Za'<|WL.e ZT'<|WL.e Zl'<|WL.e Za' ?_
             refine WL.bool 180 rfl (fun g3=>?_) (fun g3=>?_)
             ·exact absurd g3 (by decide) 
             ·skip
              refine WL.e Za'<|WL.e Za'<|WL.e XS'<|WL.e Zl'<|WL.next ?_
              refine WP.cond rfl (fun z1=>?_) (fun z1=>?_)
              ·(exact absurd (of_decide_eq_true z1) (by omega))
              ·skip
               refine WP.skip<|PO.next<|WP.reg<|WL.e Za'<|WL.e Zb'<|WL.nil<|PO.blockN<|PO.next<|WP.reg<|WL.e Za'<|WL.e (ZK' (c:=((i+1:Nat):Int)) rfl rfl (by rw [Zt' (by omega) (by omega)];omega))<|WL.e Zb'<|WL.nil ?_
               exact PO.againK (i+1,M1.comS s1 1,M2.comS s2 1,M3.comS s3 1,M3.comN s3 1) ⟨by simp only;omega,Zv' rs own,c+1,(M3.comN s3 1).toNat,bq+1,by simp only;omega,by simp only;omega,Nat.le_refl _,hI2⟩ (by simp only;omega)
     ·obtain ⟨hr1,hr2,hr3,hrl⟩:=hI.rows
      refine WP.exit<|PO.past nofun<|PO.round nofun<|PO.blockX<|PO.next<|WP.seq<|WP.reg<|WL.e Za' ?_
      refine WL.h (Zg' (Q7' (E:=E1) (v:=(⟨s1,[],[]⟩:SiteV M1.St)) hI.ok1) k21 ?_)
      intro a5 m5 c5
      dsimp only
      rw [hr1]
      refine WL.e Za' ?_
      refine WL.h (Zg' (Q7' (E:=E2) (v:=(⟨s2,[],[]⟩:SiteV M2.St)) hI.ok2) k21 ?_)
      intro a6 m6 c6
      dsimp only
      rw [hr2]
      refine WL.h (Zg' (QU' (Zr' (E:=105) (xs:=rs)) (Zr' (E:=105) (xs:=rs)) (by omega)) k20 ?_)
      rw [decide_eq_true rfl]
      refine WL.e Za' ?_
      refine WL.bool 191 rfl (fun y1=>?_) (fun y1=>?_)
      ·skip
       refine WL.e Za' ?_
       refine WL.h (Zg' (Q7' (E:=E2) (v:=(⟨s2,[],[]⟩:SiteV M2.St)) hI.ok2) k21 ?_)
       intro a7 m7 c7
       dsimp only
       rw [hr2]
       refine WL.e Za' ?_
       refine WL.h (Zg' (Q7' (E:=E3) (v:=(⟨s3,[],[]⟩:SiteV M3.St)) hI.ok3) k21 ?_)
       intro a8 m8 c8
       dsimp only
       rw [hr3]
       refine WL.h (Zg' (QU' (Zr' (E:=105) (xs:=rs)) (Zr' (E:=105) (xs:=rs)) (by omega)) k20 ?_)
       rw [decide_eq_true rfl]
       refine WL.e Zn'<|WL.e Za' ?_
       refine WL.bool 198 rfl (fun y2=>?_) (fun y2=>?_)
       ·skip
        refine WL.h (Zg' (UP') k8 ?_)
        refine WL.e Zn'<|WL.e Zb'<|WL.next<|WP.ret ?_
        exact PO.finE Tryz.results5 (Zd' Ze') rfl hK
       ·exact absurd y2 (by decide) 
      ·exact absurd y1 (by decide) 
end Go.SL
set_option linter.unusedSectionVars false
namespace Go.SL
open Go Go.ChangeShapes Go.Deep
section
variable {H : Type} {enc : TypeId × Value → H} {P : Program} {W : World} {held : Bool}
theorem ZmR_ (a:Addr) (n:Nat) (h:a.spot=none):a.add n=⟨a.block,a.off+n,none⟩:=by
  obtain ⟨b,o,s⟩:=a
  simp at h;subst h
  exact YK' b o n
theorem ZbC_ {α:Type} {t e:TypeId} {fuel z:Nat} {cs:List Value} {x:DataW H × List MemPlace} {c:α→List Value} (ht:P.underlying t=some (.slice e)) (hz:P.cellsOf e=z) (h0:0 < z) (he:EncOk z c)
    (hel:∀ n cs' y,DataW.trod enc P W 0 (fun _=>true) held n e cs'=some y→∃ a:α,cs'=c a) (h:DataW.trod enc P W 0 (fun _=>true) held fuel t cs=some x) :
    ∃ (v:SV) (xs:List α),cs=[v.v]∧RL (Old W) z c v.v xs∧(xs=[]∨∃ el sp,x.1=.slice el sp∧el.length=xs.length):=by
  rcases open_slice ht h with ⟨hcs,_⟩ | ⟨a,len,cap,m,n,D,Pl,hcs,_,hl,hm,hmm,hxx,hi⟩
  · exact ⟨⟨none,0,0⟩,[],hcs,XX',.inl rfl⟩
  simp only [if_true] at hmm
  subst hmm
  rw [hz] at hi
  have hi':∀ i:Fin m,∃ y:α,∀ j,j < z→W.cell? ((a.add (i * z)).add j)=(c y)[j]?:=fun i=>by
    obtain ⟨cs',h1,h2⟩:=hi i i.2
    obtain ⟨y,rfl⟩:=hel _ _ _ h2
    exact ⟨y,(World.cells?_some h1).2.2⟩
  by_cases hc0:m=0
  · have:len=0:=by omega
    subst this
    exact ⟨⟨some a,0,m⟩,[],hcs,XX',.inl rfl⟩
  let Y:Fin m→α:=fun i=>Classical.choose (hi' i)
  have hY:∀ i:Fin m,∀ j,j < z→W.cell? ((a.add (i * z)).add j)=(c (Y i))[j]?:=fun i=>Classical.choose_spec (hi' i)
  have hsp:a.spot=none:=by
    have:=hY ⟨0,by omega⟩ 0 h0
    have hlt:0 < (c (Y ⟨0,by omega⟩)).length:=by rw [he.len];exact h0
    rw [List.getElem?_eq_getElem hlt] at this
    have h2:=World.cell?_spot this
    cases hs:a.spot with
    | none=>rfl
    | some s=>simp [Addr.add,hs] at h2
  have hcell:∀ k (hk:k < m * z),W.cell? ⟨a.block,a.off+k,none⟩=(c (Y ⟨k / z,(Nat.div_lt_iff_lt_mul h0).2 hk⟩))[k % z]?:=fun k hk=>by
    have:=hY ⟨k / z,(Nat.div_lt_iff_lt_mul h0).2 hk⟩ (k % z) (Nat.mod_lt _ h0)
    rw [ZmR_ a _ hsp,YK'] at this
    have e:a.off+k / z * z+k % z=a.off+k:=by have:=Nat.div_add_mod k z;rw [Nat.mul_comm] at this;omega
    simp only [e] at this
    exact this
  have hmz:0 < m * z:=Nat.mul_pos (by omega) h0
  obtain ⟨arr,t',fr,hb⟩:∃ arr t' fr,W.heap[a.block]?=some (.cells arr t' fr):=by
    have:=hcell 0 hmz
    rw [List.getElem?_eq_getElem (by rw [he.len];exact Nat.mod_lt _ h0)] at this
    unfold World.cell? at this
    cases hh:W.heap[a.block]? with
    | none=>rw [hh] at this;cases this
    | some o=>rw [hh] at this;cases o <;> first | exact ⟨_,_,_,rfl⟩ | cases this
  have hval:∀ k (hk:k < m * z),arr.toList[a.off+k]?=(c (Y ⟨k / z,(Nat.div_lt_iff_lt_mul h0).2 hk⟩))[k % z]?:=fun k hk=>by
    have:=hcell k hk
    unfold World.cell? at this
    rw [hb] at this
    simpa using this
  have hlen:a.off+m * z≤arr.toList.length:=by
    have:=hval (m * z - 1) (by omega)
    have hlt:(m * z - 1) % z < (c (Y ⟨(m * z - 1) / z,(Nat.div_lt_iff_lt_mul h0).2 (by omega)⟩)).length:=by rw [he.len];exact Nat.mod_lt _ h0
    rw [List.getElem?_eq_getElem hlt] at this
    have:=Yf' this
    omega
  refine ⟨⟨some a,len,m⟩,List.ofFn fun i:Fin len=>Y ⟨i,by omega⟩,hcs,fun S hS=>?_,.inr ⟨_,_,by rw [hxx],by simp⟩⟩
  refine .inr ⟨a.block,a.off,m,arr.toList,(t',fr),?_,by simpa using hl,?_,hlen,?_⟩
  · obtain ⟨b,o,s⟩:=a
    simp at hsp;subst hsp
    simp
  · exact hS _ _ (by simpa [Yd'] using hb)
  · apply List.ext_getElem?
    intro k
    rw [Qz',List.length_ofFn]
    by_cases hk:k < len * z
    · rw [if_pos hk]
      have hkm:k < m * z:=Nat.lt_of_lt_of_le hk (Nat.mul_le_mul_right _ hl)
      rw [hval k hkm]
      have hd:k / z < len:=(Nat.div_lt_iff_lt_mul h0).2 hk
      have hx:(List.ofFn fun i:Fin len=>Y ⟨i,by omega⟩)[k / z]?=some (Y ⟨k / z,by omega⟩):=by simp [hd]
      have:=V6' he hx (k % z) (Nat.mod_lt _ h0)
      rw [show k / z * z+k % z=k by have:=Nat.div_add_mod k z;rw [Nat.mul_comm] at this;omega] at this
      exact this
    · rw [if_neg hk]
      apply List.getElem?_eq_none
      rw [Yg' he,List.length_ofFn];omega
theorem Zc3_ {P:Program} {w:World} {f:FuncId} {args:List Value} (h:Spec P w f args [Old w] fun K R=>K (.bool true) (Old w::R)):Calls P f args.toArray w fun e w'=>e=.returned (.bool true)∧Go.RowKit.Below w.heap.size w w':=by
  refine (h [] (fun v M=>v=.bool true∧M=[Old w]) w (Zmk_ w) ⟨rfl,rfl⟩).mono ?_
  rintro e w' ⟨v,M,rfl,⟨rfl,rfl⟩,hs⟩
  exact ⟨rfl,ZiY_ hs⟩
theorem Zlz_ {t k s u:TypeId} {b0 b1 b2 b3:Nat} {n0 n1 n2 n3:String} {fuel:Nat} {cs:List Value} {y:DataW H × List MemPlace} (ht:P.underlying t=some (.struct #[⟨n0,k,0,false, "", "",b0⟩,⟨n1,s,1,false, "", "",b1⟩,⟨n2,s,2,false, "", "",b2⟩,⟨n3,u,3,false, "", "",b3⟩]))
    (hk:P.underlying k=some (.int .u8)) (hs:P.underlying s=some .string) (hu:P.underlying u=some (.int .u32)) (ct:P.cellsOf t=4) (ck:P.cellsOf k=1) (c1:P.cellsOf s=1) (cu:P.cellsOf u=1)
    (h:DataW.trod enc P W 0 (fun _=>true) held fuel t cs=some y):∃ x:OpM,cs=x.c:=by
  obtain ⟨y0,y1,y2,y3,m,hx,hl,h0,h1,h2,h3⟩:=Go.Joins.trod_struct4 ht h
  rw [ct] at hl
  match cs,hl with
  | [a,b,c,d],_=>
    simp only [ck,c1,cu] at h0 h1 h2 h3
    obtain ⟨n,e0,_,w0⟩:=DataW.trod_int hk h0
    obtain ⟨s1,e1,_,_⟩:=DataW.trod_string hs h1
    obtain ⟨s2,e2,_,_⟩:=DataW.trod_string hs h2
    obtain ⟨v,e3,_,w3⟩:=DataW.trod_int hu h3
    simp at e0 e1 e2 e3
    subst e0 e1 e2 e3
    refine ⟨⟨UInt8.ofNat n.toNat,s1,s2,UInt32.ofNat v.toNat⟩,?_⟩
    simp only [OpM.c]
    rw [← ZnN_ w0,← Zna_ w3]
end
end Go.SL
