/- TE SLv: rules and walks, several texts in one. -/
import Derived.Test.YtegjbklnhiionaaGreatQB23
import Derived.Test.YtegjbklnhiionaaGreatProg
import Derived.KernelRfl
import Derived.Deep.Slices
import Derived.ChangeSame
import Derived.SizedLaws
set_option linter.unusedSimpArgs false
set_option linter.unusedVariables false
namespace Go.SL.Fc
open Go Go.Proofs Go.SL
theorem Zn7_:ZN' Tryz.prog 28 0=some 0:=by kernel_rfl
theorem Zn8_:ZN' Tryz.prog 28 1=some 1:=by kernel_rfl
theorem Zn9_:ZN' Tryz.prog 28 2=some 2:=by kernel_rfl
theorem Zoa_:ZN' Tryz.prog 28 3=some 6:=by kernel_rfl
theorem k11:Zh' Tryz.prog 11=true:=by kernel_rfl
theorem k8:Zh' Tryz.prog 8=true:=by kernel_rfl
theorem s26:szOf Tryz.prog 26=some 4:=by kernel_rfl
end Go.SL.Fc
namespace Go.SL
open Go Go.Proofs Fc
set_option maxHeartbeats 4000000 in
theorem Zig_ {g:World} {A:HP} {a2:Option Addr} {m2 c2:Nat} {l:List SpanM} (en:UInt8) (x:OpM) (loc:Bool) (hA:RL A 2 SpanM.c (.slice a2 m2 c2) l):Spec Tryz.prog g 3 [.agg #[.int .u8 en.toNat,.slice a2 m2 c2,.int .u8 x.kind.toNat,.string x.key,.string x.to,.int .u32 x.val.toNat,.bool loc]] [A] fun K R=>K (.bool true) (A::R):=by
 refine Spec.intro Tryz.func3 rfl Tryz.ntmps3 rfl fun R K hK=>?_
 refine WP.seq<|WP.reg ?_
 refine WL.h (ZK' fun b1=>?_)
 refine WL.e Zb'<|WL.next<|WP.seq<|WP.reg<|WL.e (e_fa Zn7_)<|WL.e (Zc' a5)<|WL.e Zb'<|WL.next<|WP.seq<|WP.reg<|WL.e (e_fa Zn8_)<|WL.e (Zc' a22)<|WL.e Zb'<|WL.next<|WP.seq<|WP.reg<|WL.e (e_fa Zn9_)<|WL.e (Zo' a26) ?_
 refine WL.h (Zt' z26 fun b2=>?_)
 refine WL.h' (Zj' s26 ?_)
 refine WL.next<|WP.seq<|WP.reg<|WL.e (e_fa Zoa_)<|WL.e (Zc' a4)<|WL.e Zb'<|WL.next<|WP.seq<|WP.reg<|WL.e Za'<|WL.e (ZnD_ (c:=((en.toNat % 3:Nat):Int)) rfl rfl (by decide) (by rw [Int.tmod_eq_emod_of_nonneg (by omega)];omega))<|WL.e (ZO' (c:=((1+en.toNat % 3:Nat):Int)) rfl rfl (by rw [w_u8 (by omega) (by omega)];omega)) ?_
 refine WL.h (Zf' (Zf7_ (1+en.toNat % 3) (by omega)) k7 ?_)
 intro sp dp M E hE
 have h0:=M.frFirst
 refine WL.e Zb'<|WL.next<|WP.seq<|WP.seq<|WP.reg<|WL.e Za'<|WL.e (JR' pt29)<|WL.e Za' ?_
 refine WL.bool 28 rfl (fun g0=>?_) (fun g0=>?_)
 ·cases g0 
 ·skip
  refine WL.e Za'<|WL.e (ZE' (xs:=l) sl22 hA)<|WL.e YX'<|WL.e Zm'<|WL.next ?_
  refine WP.cond rfl (fun hl=>?_) (fun hl=>?_)
  ·skip
   refine WP.seq<|WP.reg<|WL.e Za'<|WL.e (Jd' pt29)<|WL.e Za' ?_
   refine WL.bool 35 rfl (fun g1=>?_) (fun g1=>?_)
   ·skip
    refine WL.h (Zf' (Y0') k8 ?_)
    refine WL.e Zl'<|WL.e Zb'<|WL.next<|WP.ret<|PO.past nofun ?_
    exact PO.finE Tryz.results3 (Zd' Ze') rfl hK
   ·cases g1 
  ·replace hl:l.length≤50:=by simp at hl;omega
   refine WP.skip<|PO.next<|WP.seq<|WP.seq<|WP.reg<|WL.e Za' ?_
   refine WL.h (Zf' (JQ' (E:=E) (v:=(⟨M.first,[],[]⟩:SiteV M.St)) 1 false) k9 ?_)
   intro q1 r1
   dsimp only
   obtain ⟨e0,st1,e1,h1⟩:=Zc3_ (l:=[]) (bs:=[]) h0 (by decide) 1 false (by decide) (by simp) (by simp) q1 r1 rfl
   rw [e0,e1]
   simp only [List.nil_append,List.cons_append] at h1 ⊢
   refine WL.e ZX'<|WL.e Za' ?_
   refine WL.bool 41 rfl (fun g2=>?_) (fun g2=>?_)
   ·exact absurd g2 (by decide) 
   ·skip
    refine WL.e Za'<|WL.e Za' ?_
    refine WL.h (Zf' (JQ' (E:=E) (v:=(⟨st1,[⟨1,r1,⟨false,[]⟩⟩],[]⟩:SiteV M.St)) 2 loc) k9 ?_)
    intro q2 r2
    dsimp only
    obtain ⟨e0,st2,e1,h2⟩:=Zc3_ (l:=[⟨1,r1,⟨false,[]⟩⟩]) (bs:=[]) h1 (by decide) 2 loc (by decide) (by simp) (by simp) q2 r2 rfl
    rw [e0,e1]
    simp only [List.nil_append,List.cons_append] at h2 ⊢
    refine WL.e ZX'<|WL.e Zm'<|WL.e Za' ?_
    refine WL.bool 47 rfl (fun g3=>?_) (fun g3=>?_)
    ·exact absurd g3 (by decide) 
    ·skip
     refine WL.e Za' ?_
     refine WL.h (Zf' (JQ' (E:=E) (v:=(⟨st2,[⟨1,r1,⟨false,[]⟩⟩,⟨2,r2,⟨loc,[]⟩⟩],[]⟩:SiteV M.St)) 3 false) k9 ?_)
     intro q3 r3
     dsimp only
     obtain ⟨e0,st3,e1,h3⟩:=Zc3_ (l:=[⟨1,r1,⟨false,[]⟩⟩,⟨2,r2,⟨loc,[]⟩⟩]) (bs:=[]) h2 (by decide) 3 false (by decide) (by simp) (by simp) q3 r3 rfl
     rw [e0,e1]
     simp only [List.nil_append,List.cons_append] at h3 ⊢
     refine WL.e ZX'<|WL.e Zm'<|WL.next<|WP.cond_f rfl<|WP.skip<|PO.next<|WP.seq<|WP.reg<|WL.e Za'<|WL.e Za' ?_
     refine WL.h (Zf' (UQ' (E:=E) (v:=(⟨st3,[⟨1,r1,⟨false,[]⟩⟩,⟨2,r2,⟨loc,[]⟩⟩,⟨3,r3,⟨false,[]⟩⟩],[]⟩:SiteV M.St)) (l:=l) 1 7 (Zay_ (h3 0) (by simp) (by simp) (by simp) (by simp) (by simp)) hA (by omega)) k10 ?_)
     intro sv
     have eB:YT' (⟨st3,[⟨1,r1,⟨false,[]⟩⟩,⟨2,r2,⟨loc,[]⟩⟩,⟨3,r3,⟨false,[]⟩⟩],[]⟩:SiteV M.St) 1 7 l=if badS 7 l then 1 else 0:=by rw [ZbF_ rfl (fun _=>rfl)];simp [Zh7_]
     rcases Bool.eq_false_or_eq_true (badS 7 l) with hbad | hbad
     ·replace eB:YT' (⟨st3,[⟨1,r1,⟨false,[]⟩⟩,⟨2,r2,⟨loc,[]⟩⟩,⟨3,r3,⟨false,[]⟩⟩],[]⟩:SiteV M.St) 1 7 l=1:=by rw [eB,hbad];rfl
      rw [eB,show Xg' (⟨st3,[⟨1,r1,⟨false,[]⟩⟩,⟨2,r2,⟨loc,[]⟩⟩,⟨3,r3,⟨false,[]⟩⟩],[]⟩:SiteV M.St) 1 7 sv l=(⟨st3,[⟨1,r1,⟨false,[]⟩⟩,⟨2,r2,⟨loc,[]⟩⟩,⟨3,r3,⟨false,[]⟩⟩],[]⟩:SiteV M.St) by rw [Xg',eB];rfl]
      refine WL.e Zb'<|WL.next<|WP.seq<|WP.seq<|WP.reg<|WL.e Za'<|WL.e ZX'<|WL.next<|WP.cond_t rfl<|WP.seq<|WP.reg<|WL.e Za'<|WL.e Zx'<|WL.e Za' ?_
      refine WL.bool 59 rfl (fun y1=>?_) (fun y1=>?_)
      ·skip
       refine WL.e Za' ?_
       refine WL.h (Zf' (Zf6_ (E:=E) (v:=(⟨st3,[⟨1,r1,⟨false,[]⟩⟩,⟨2,r2,⟨loc,[]⟩⟩,⟨3,r3,⟨false,[]⟩⟩],[]⟩:SiteV M.St)) (by simp)) k11 ?_)
       intro a5 n5 c5 ys yp
       obtain rfl:ys=[]:=List.perm_nil.1 yp
       refine WL.e (ZE' (xs:=([]:List UInt32)) sl36 Zs')<|WL.e Zx'<|WL.e Zl'<|WL.e Za' ?_
       refine WL.bool 65 rfl (fun y2=>?_) (fun y2=>?_)
       ·skip
        refine WL.h (Zf' (Y0') k8 ?_)
        refine WL.e Zl'<|WL.e Zb'<|WL.next<|WP.ret<|PO.past nofun ?_
        exact PO.finE Tryz.results3 (Zd' Ze') rfl hK
       ·exact absurd y2 (by decide) 
      ·exact absurd y1 (by decide) 
     ·replace eB:YT' (⟨st3,[⟨1,r1,⟨false,[]⟩⟩,⟨2,r2,⟨loc,[]⟩⟩,⟨3,r3,⟨false,[]⟩⟩],[]⟩:SiteV M.St) 1 7 l=0:=by rw [eB,hbad];rfl
      rw [eB,show Xg' (⟨st3,[⟨1,r1,⟨false,[]⟩⟩,⟨2,r2,⟨loc,[]⟩⟩,⟨3,r3,⟨false,[]⟩⟩],[]⟩:SiteV M.St) 1 7 sv l=(⟨st3,[⟨1,r1,⟨false,[]⟩⟩,⟨2,r2,⟨loc,[]⟩⟩,⟨3,r3,⟨false,[]⟩⟩],[⟨7,1,sv,l⟩]⟩:SiteV M.St) by rw [Xg',if_pos eB];rfl]
      refine WL.e Zb'<|WL.next<|WP.seq<|WP.seq<|WP.reg<|WL.e Za'<|WL.e ZX'<|WL.next<|WP.cond_f rfl<|WP.skip<|PO.next<|WP.seq<|WP.reg<|WL.e Za'<|WL.e (Zo' a26) ?_
      refine WL.h (Zf' (JL' (E:=E) (v:=(⟨st3,[⟨1,r1,⟨false,[]⟩⟩,⟨2,r2,⟨loc,[]⟩⟩,⟨3,r3,⟨false,[]⟩⟩],[⟨7,1,sv,l⟩]⟩:SiteV M.St)) 2 x (Zay_ (h3 0) (by simp) (by simp) (by simp) (by simp) (fun x hx=>by rw [List.mem_singleton] at hx;subst hx;show l.length≤_;omega))) k12 ?_)
      have hbar:YY' [(⟨7,1,sv,l⟩:BndV)] 2 (Zi' x)=anyS (Zi' x) l:=by rw [Zh8_];rfl
      have hcs:opOk x=false∨(opOk x=true∧((loc=true∧mayS [(⟨7,1,sv,l⟩:BndV)] 2 loc (Zi' x)=10)∨(loc=false∧anyS (Zi' x) l=true∧mayS [(⟨7,1,sv,l⟩:BndV)] 2 loc (Zi' x)=8)∨(anyS (Zi' x) l=false∧mayS [(⟨7,1,sv,l⟩:BndV)] 2 loc (Zi' x)=0))):=by
       cases hx:opOk x with
       | false=>exact .inl rfl
       | true=>
        refine .inr ⟨rfl,?_⟩
        unfold mayS
        rw [hbar]
        cases loc <;> cases anyS (Zi' x) l <;> cases meet (Zi' x) resS <;> simp
      have hfr:mayS [(⟨7,1,sv,l⟩:BndV)] 2 loc (Zi' x)=0→opOk x=true→(∃ f:SV→M.St,doSi (⟨st3,[⟨1,r1,⟨false,[]⟩⟩,⟨2,r2,⟨loc,[]⟩⟩,⟨3,r3,⟨false,[]⟩⟩],[⟨7,1,sv,l⟩]⟩:SiteV M.St) 2 x=.put (fun sv2=>(⟨f sv2,[⟨1,r1,⟨false,[]⟩⟩,⟨2,r2,⟨loc,[Zi' x]⟩⟩,⟨3,r3,⟨false,[]⟩⟩],[⟨7,1,sv,l⟩]⟩:SiteV M.St))∧∀ sv2,M.Fr (f sv2) [1,2,3] 2 ([]++[Z0' x]) [] 0 0 (0+1+1+1+1))∨(∃ s':M.St,doSi (⟨st3,[⟨1,r1,⟨false,[]⟩⟩,⟨2,r2,⟨loc,[]⟩⟩,⟨3,r3,⟨false,[]⟩⟩],[⟨7,1,sv,l⟩]⟩:SiteV M.St) 2 x=.look (⟨s',[⟨1,r1,⟨false,[]⟩⟩,⟨2,r2,⟨loc,[Zi' x]⟩⟩,⟨3,r3,⟨false,[]⟩⟩],[⟨7,1,sv,l⟩]⟩:SiteV M.St) (ZS' (Zw' [] []) (Zi' x) 256)∧M.Fr s' [1,2,3] 2 [] [] 0 0 (0+1+1+1+1)):=by
       intro hm hx
       rcases ZaX_ (v:=(⟨st3,[⟨1,r1,⟨false,[]⟩⟩,⟨2,r2,⟨loc,[]⟩⟩,⟨3,r3,⟨false,[]⟩⟩],[⟨7,1,sv,l⟩]⟩:SiteV M.St)) (n:=2) (t:=⟨2,r2,⟨loc,[]⟩⟩) (x:=x) rfl (h3 2) (by simp) hx (by decide) with ⟨hq,_⟩ | ⟨_,_,f,e5,h5⟩ | ⟨_,_,s5,e5,h5⟩
       ·exact absurd hm hq
       ·exact .inl ⟨f,e5,h5⟩
       ·exact .inr ⟨s5,e5,h5⟩
      rcases hcs with hx | ⟨hx,⟨rfl,hm⟩ | ⟨rfl,hany,hm⟩ | ⟨hany,hm⟩⟩
      rotate_left 3
      rcases hfr hm hx with ⟨f,e5,h5⟩ | ⟨s5,e5,h5⟩
      rotate_right 3
      ·rw [ZbE_ hx]
       dsimp only
       refine WL.e Za'<|WL.e Zg'<|WL.e Zg' ?_
       refine WL.h (Zt' z40 fun b3=>?_)
       refine WL.h' (Zj' s40 ?_)
       refine WL.e Zb'<|WL.next<|WP.seq<|WP.seq<|WP.reg<|WL.e Za'<|WL.e Zx'<|WL.next<|WP.cond_t rfl<|WP.seq<|WP.reg<|WL.e (e_fa ZnT_)<|WL.e (Zc' a38)<|WL.e (ZE' (xs:=([]:List RowM)) (enc:=RowM.c) sl38 (Ve' (z:=2)))<|WL.e Zx'<|WL.e Za' ?_
       refine WL.bool 80 rfl (fun y3=>?_) (fun y3=>?_)
       ·skip
        refine WL.h (Zf' (Y0') k8 ?_)
        refine WL.e Zl'<|WL.e Zb'<|WL.next<|WP.ret<|PO.past nofun ?_
        exact PO.finE Tryz.results3 (Zd' Ze') rfl hK
       ·exact absurd y3 (by decide) 
      ·rw [ZaY_ (M:=M) (v:=(⟨st3,[⟨1,r1,⟨false,[]⟩⟩,⟨2,r2,⟨true,[]⟩⟩,⟨3,r3,⟨false,[]⟩⟩],[⟨7,1,sv,l⟩]⟩:SiteV M.St)) (m:=10) (t:=⟨2,r2,⟨true,[]⟩⟩) rfl hx hm (by decide)]
       dsimp only
       refine WL.e Za'<|WL.e Zg'<|WL.e Zg' ?_
       refine WL.h (Zt' z40 fun b4=>?_)
       refine WL.h' (Zj' s40 ?_)
       refine WL.e Zb'<|WL.next<|WP.seq<|WP.seq<|WP.reg<|WL.e Za'<|WL.e Zx'<|WL.next<|WP.cond_f rfl<|WP.skip<|PO.next<|WP.seq<|WP.reg<|WL.e (Zo' a26) ?_
       refine WL.h (Zf' (XS' _) k14 ?_)
       refine WL.e Za' ?_
       refine WL.h (Zf' (Ql' (Zi' x) hA (by omega)) k13 ?_)
       refine WL.e Zb'<|WL.next<|WP.seq<|WP.seq<|WP.reg<|WL.e Za'<|WL.next<|WP.cond_t rfl<|WP.seq<|WP.reg<|WL.e Za'<|WL.e Za' ?_
       refine WL.bool 89 rfl (fun h6=>?_) (fun h6=>?_)
       ·skip
        refine WL.skip<|WL.skip<|WL.e Zl'<|WL.e Zb'<|WL.next<|WP.seq<|WP.reg<|WL.e Za'<|WL.e Zx'<|WL.e Za'<|WL.e (Vd' Tryz.underlying4)<|WL.next<|WP.cond_f rfl<|WP.skip<|PO.next<|WP.seq<|WP.seq<|WP.reg<|WL.e Za'<|WL.next<|WP.cond_t rfl<|WP.seq<|WP.reg<|WL.e Za' ?_
        refine WL.e (Zo' a26) ?_
        refine WL.h (Zf' (JL' (E:=E) (v:=(⟨st3,[⟨1,r1,⟨false,[]⟩⟩,⟨2,r2,⟨true,[]⟩⟩,⟨3,r3,⟨false,[]⟩⟩],[⟨7,1,sv,l⟩]⟩:SiteV M.St)) 1 x (Zay_ (h3 0) (by simp) (by simp) (by simp) (by simp) (fun x hx=>by rw [List.mem_singleton] at hx;subst hx;show l.length≤_;omega))) k12 ?_)
        have hm1:mayS [(⟨7,1,sv,l⟩:BndV)] 1 false (Zi' x)=0:=by simp [mayS,YY']
        rcases ZaX_ (v:=(⟨st3,[⟨1,r1,⟨false,[]⟩⟩,⟨2,r2,⟨true,[]⟩⟩,⟨3,r3,⟨false,[]⟩⟩],[⟨7,1,sv,l⟩]⟩:SiteV M.St)) (n:=1) (t:=⟨1,r1,⟨false,[]⟩⟩) (x:=x) rfl (h3 1) (by simp) hx (by decide) with ⟨hq,_⟩ | ⟨_,_,f,e5,h5⟩ | ⟨_,_,s5,e5,h5⟩
        ·exact absurd hm1 hq
        ·rw [e5]
         dsimp only
         intro sv5
         replace h5:=h5 sv5
         try simp only [setU,List.map_cons,List.map_nil,List.nil_append,List.cons_append]
         try simp (config:={ decide:=true }) only [if_true,if_false]
         refine WL.e Za'<|WL.e Zg'<|WL.e Zg' ?_
         refine WL.h (Zt' z40 fun b5=>?_)
         refine WL.h' (Zj' s40 ?_)
         refine WL.e Zb'<|WL.next<|WP.seq<|WP.reg<|WL.e Za'<|WL.e ZX'<|WL.next<|WP.cond_f rfl<|WP.skip<|PO.next<|WP.seq<|WP.reg<|WL.e Za' ?_
         refine WL.h (Zf' (Y5' (E:=E) (v:=(⟨f sv5,[⟨1,r1,⟨false,[Zi' x]⟩⟩,⟨2,r2,⟨true,[]⟩⟩,⟨3,r3,⟨false,[]⟩⟩],[⟨7,1,sv,l⟩]⟩:SiteV M.St)) 1 (M.frOk h5)) k15 ?_)
         dsimp only
         rw [M.frAbE h5 (show (1:UInt32) ∈ [1,2,3] by simp),show Kk' (⟨f sv5,[⟨1,r1,⟨false,[Zi' x]⟩⟩,⟨2,r2,⟨true,[]⟩⟩,⟨3,r3,⟨false,[]⟩⟩],[⟨7,1,sv,l⟩]⟩:SiteV M.St) 1=(⟨M.aboS (f sv5) 1,[⟨2,r2,⟨true,[]⟩⟩,⟨3,r3,⟨false,[]⟩⟩],[⟨7,1,sv,l⟩]⟩:SiteV M.St) from rfl]
         refine WL.e Zx'<|WL.e Za' ?_
         refine WL.bool 113 rfl (fun z1=>?_) (fun z1=>?_)
         ·skip
          refine WL.e Za' ?_
          refine WL.h (Zf' (Yi' (E:=E) (v:=(⟨M.aboS (f sv5) 1,[⟨2,r2,⟨true,[]⟩⟩,⟨3,r3,⟨false,[]⟩⟩],[⟨7,1,sv,l⟩]⟩:SiteV M.St)) 7) k16 ?_)
          rw [show YZ' (⟨M.aboS (f sv5) 1,[⟨2,r2,⟨true,[]⟩⟩,⟨3,r3,⟨false,[]⟩⟩],[⟨7,1,sv,l⟩]⟩:SiteV M.St) 7=0 from rfl,if_pos rfl,show Jt' (⟨M.aboS (f sv5) 1,[⟨2,r2,⟨true,[]⟩⟩,⟨3,r3,⟨false,[]⟩⟩],[⟨7,1,sv,l⟩]⟩:SiteV M.St) 7=(⟨M.aboS (f sv5) 1,[⟨2,r2,⟨true,[]⟩⟩,⟨3,r3,⟨false,[]⟩⟩],[]⟩:SiteV M.St) from rfl]
          refine WL.e Zx'<|WL.e Zl'<|WL.e Za' ?_
          refine WL.bool 118 rfl (fun z2=>?_) (fun z2=>?_)
          ·skip
           refine WL.e Za' ?_
           refine WL.h (Zf' (Yi' (E:=E) (v:=(⟨M.aboS (f sv5) 1,[⟨2,r2,⟨true,[]⟩⟩,⟨3,r3,⟨false,[]⟩⟩],[]⟩:SiteV M.St)) 7) k16 ?_)
           rw [show YZ' (⟨M.aboS (f sv5) 1,[⟨2,r2,⟨true,[]⟩⟩,⟨3,r3,⟨false,[]⟩⟩],[]⟩:SiteV M.St) 7=6 from rfl,if_neg (by decide)]
           refine WL.e Zx'<|WL.e Zl'<|WL.e Za' ?_
           refine WL.bool 123 rfl (fun z3=>?_) (fun z3=>?_)
           ·skip
            refine WL.e Za' ?_
            refine WL.h (Zf' (Xc' (E:=E) (v:=(⟨M.aboS (f sv5) 1,[⟨2,r2,⟨true,[]⟩⟩,⟨3,r3,⟨false,[]⟩⟩],[]⟩:SiteV M.St)) 2) k17 ?_)
            rw [show (Zq' ((⟨M.aboS (f sv5) 1,[⟨2,r2,⟨true,[]⟩⟩,⟨3,r3,⟨false,[]⟩⟩],[]⟩:SiteV M.St)).l 2).isSome=true from rfl]
            refine WL.e Zl'<|WL.e Za' ?_
            refine WL.bool 127 rfl (fun z4=>?_) (fun z4=>?_)
            ·skip
             refine WL.h (Zf' (Y0') k8 ?_)
             refine WL.e Zl'<|WL.e Zb'<|WL.next<|WP.ret ?_
             exact PO.finE Tryz.results3 (Zd' Ze') rfl hK
            ·exact absurd z4 (by decide) 
           ·exact absurd z3 (by decide) 
          ·exact absurd z2 (by decide) 
         ·exact absurd z1 (by decide) 
        ·rw [e5]
         dsimp only
         intro a5 m5 c5
         try simp only [setU,List.map_cons,List.map_nil,List.nil_append,List.cons_append]
         try simp (config:={ decide:=true }) only [if_true,if_false]
         refine WL.e Za'<|WL.e Zg'<|WL.e Zg' ?_
         refine WL.h (Zt' z40 fun b6=>?_)
         refine WL.h' (Zj' s40 ?_)
         refine WL.e Zb'<|WL.next<|WP.seq<|WP.reg<|WL.e Za'<|WL.e ZX'<|WL.next<|WP.cond_f rfl<|WP.skip<|PO.next<|WP.seq<|WP.reg<|WL.e Za' ?_
         refine WL.h (Zf' (Y5' (E:=E) (v:=(⟨s5,[⟨1,r1,⟨false,[Zi' x]⟩⟩,⟨2,r2,⟨true,[]⟩⟩,⟨3,r3,⟨false,[]⟩⟩],[⟨7,1,sv,l⟩]⟩:SiteV M.St)) 1 (M.frOk h5)) k15 ?_)
         dsimp only
         rw [M.frAbE h5 (show (1:UInt32) ∈ [1,2,3] by simp),show Kk' (⟨s5,[⟨1,r1,⟨false,[Zi' x]⟩⟩,⟨2,r2,⟨true,[]⟩⟩,⟨3,r3,⟨false,[]⟩⟩],[⟨7,1,sv,l⟩]⟩:SiteV M.St) 1=(⟨M.aboS (s5) 1,[⟨2,r2,⟨true,[]⟩⟩,⟨3,r3,⟨false,[]⟩⟩],[⟨7,1,sv,l⟩]⟩:SiteV M.St) from rfl]
         refine WL.e Zx'<|WL.e Za' ?_
         refine WL.bool 113 rfl (fun z1=>?_) (fun z1=>?_)
         ·skip
          refine WL.e Za' ?_
          refine WL.h (Zf' (Yi' (E:=E) (v:=(⟨M.aboS (s5) 1,[⟨2,r2,⟨true,[]⟩⟩,⟨3,r3,⟨false,[]⟩⟩],[⟨7,1,sv,l⟩]⟩:SiteV M.St)) 7) k16 ?_)
          rw [show YZ' (⟨M.aboS (s5) 1,[⟨2,r2,⟨true,[]⟩⟩,⟨3,r3,⟨false,[]⟩⟩],[⟨7,1,sv,l⟩]⟩:SiteV M.St) 7=0 from rfl,if_pos rfl,show Jt' (⟨M.aboS (s5) 1,[⟨2,r2,⟨true,[]⟩⟩,⟨3,r3,⟨false,[]⟩⟩],[⟨7,1,sv,l⟩]⟩:SiteV M.St) 7=(⟨M.aboS (s5) 1,[⟨2,r2,⟨true,[]⟩⟩,⟨3,r3,⟨false,[]⟩⟩],[]⟩:SiteV M.St) from rfl]
          refine WL.e Zx'<|WL.e Zl'<|WL.e Za' ?_
          refine WL.bool 118 rfl (fun z2=>?_) (fun z2=>?_)
          ·skip
           refine WL.e Za' ?_
           refine WL.h (Zf' (Yi' (E:=E) (v:=(⟨M.aboS (s5) 1,[⟨2,r2,⟨true,[]⟩⟩,⟨3,r3,⟨false,[]⟩⟩],[]⟩:SiteV M.St)) 7) k16 ?_)
           rw [show YZ' (⟨M.aboS (s5) 1,[⟨2,r2,⟨true,[]⟩⟩,⟨3,r3,⟨false,[]⟩⟩],[]⟩:SiteV M.St) 7=6 from rfl,if_neg (by decide)]
           refine WL.e Zx'<|WL.e Zl'<|WL.e Za' ?_
           refine WL.bool 123 rfl (fun z3=>?_) (fun z3=>?_)
           ·skip
            refine WL.e Za' ?_
            refine WL.h (Zf' (Xc' (E:=E) (v:=(⟨M.aboS (s5) 1,[⟨2,r2,⟨true,[]⟩⟩,⟨3,r3,⟨false,[]⟩⟩],[]⟩:SiteV M.St)) 2) k17 ?_)
            rw [show (Zq' ((⟨M.aboS (s5) 1,[⟨2,r2,⟨true,[]⟩⟩,⟨3,r3,⟨false,[]⟩⟩],[]⟩:SiteV M.St)).l 2).isSome=true from rfl]
            refine WL.e Zl'<|WL.e Za' ?_
            refine WL.bool 127 rfl (fun z4=>?_) (fun z4=>?_)
            ·skip
             refine WL.h (Zf' (Y0') k8 ?_)
             refine WL.e Zl'<|WL.e Zb'<|WL.next<|WP.ret ?_
             exact PO.finE Tryz.results3 (Zd' Ze') rfl hK
            ·exact absurd z4 (by decide) 
           ·exact absurd z3 (by decide) 
          ·exact absurd z2 (by decide) 
         ·exact absurd z1 (by decide) 
       ·skip
        refine WL.e Za'<|WL.e Zx'<|WL.e Zm'<|WL.e Zb'<|WL.next<|WP.seq<|WP.reg<|WL.e Za'<|WL.e Zx'<|WL.e Za'<|WL.e (Vd' Tryz.underlying4)<|WL.next<|WP.cond_f rfl<|WP.skip<|PO.next<|WP.seq<|WP.seq<|WP.reg<|WL.e Za'<|WL.next<|WP.cond_t rfl<|WP.seq<|WP.reg<|WL.e Za' ?_
        refine WL.e (Zo' a26) ?_
        refine WL.h (Zf' (JL' (E:=E) (v:=(⟨st3,[⟨1,r1,⟨false,[]⟩⟩,⟨2,r2,⟨true,[]⟩⟩,⟨3,r3,⟨false,[]⟩⟩],[⟨7,1,sv,l⟩]⟩:SiteV M.St)) 1 x (Zay_ (h3 0) (by simp) (by simp) (by simp) (by simp) (fun x hx=>by rw [List.mem_singleton] at hx;subst hx;show l.length≤_;omega))) k12 ?_)
        have hm1:mayS [(⟨7,1,sv,l⟩:BndV)] 1 false (Zi' x)=0:=by simp [mayS,YY']
        rcases ZaX_ (v:=(⟨st3,[⟨1,r1,⟨false,[]⟩⟩,⟨2,r2,⟨true,[]⟩⟩,⟨3,r3,⟨false,[]⟩⟩],[⟨7,1,sv,l⟩]⟩:SiteV M.St)) (n:=1) (t:=⟨1,r1,⟨false,[]⟩⟩) (x:=x) rfl (h3 1) (by simp) hx (by decide) with ⟨hq,_⟩ | ⟨_,_,f,e5,h5⟩ | ⟨_,_,s5,e5,h5⟩
        ·exact absurd hm1 hq
        ·rw [e5]
         dsimp only
         intro sv5
         replace h5:=h5 sv5
         try simp only [setU,List.map_cons,List.map_nil,List.nil_append,List.cons_append]
         try simp (config:={ decide:=true }) only [if_true,if_false]
         refine WL.e Za'<|WL.e Zg'<|WL.e Zg' ?_
         refine WL.h (Zt' z40 fun b7=>?_)
         refine WL.h' (Zj' s40 ?_)
         refine WL.e Zb'<|WL.next<|WP.seq<|WP.reg<|WL.e Za'<|WL.e ZX'<|WL.next<|WP.cond_f rfl<|WP.skip<|PO.next<|WP.seq<|WP.reg<|WL.e Za' ?_
         refine WL.h (Zf' (Y5' (E:=E) (v:=(⟨f sv5,[⟨1,r1,⟨false,[Zi' x]⟩⟩,⟨2,r2,⟨true,[]⟩⟩,⟨3,r3,⟨false,[]⟩⟩],[⟨7,1,sv,l⟩]⟩:SiteV M.St)) 1 (M.frOk h5)) k15 ?_)
         dsimp only
         rw [M.frAbE h5 (show (1:UInt32) ∈ [1,2,3] by simp),show Kk' (⟨f sv5,[⟨1,r1,⟨false,[Zi' x]⟩⟩,⟨2,r2,⟨true,[]⟩⟩,⟨3,r3,⟨false,[]⟩⟩],[⟨7,1,sv,l⟩]⟩:SiteV M.St) 1=(⟨M.aboS (f sv5) 1,[⟨2,r2,⟨true,[]⟩⟩,⟨3,r3,⟨false,[]⟩⟩],[⟨7,1,sv,l⟩]⟩:SiteV M.St) from rfl]
         refine WL.e Zx'<|WL.e Za' ?_
         refine WL.bool 113 rfl (fun z1=>?_) (fun z1=>?_)
         ·skip
          refine WL.e Za' ?_
          refine WL.h (Zf' (Yi' (E:=E) (v:=(⟨M.aboS (f sv5) 1,[⟨2,r2,⟨true,[]⟩⟩,⟨3,r3,⟨false,[]⟩⟩],[⟨7,1,sv,l⟩]⟩:SiteV M.St)) 7) k16 ?_)
          rw [show YZ' (⟨M.aboS (f sv5) 1,[⟨2,r2,⟨true,[]⟩⟩,⟨3,r3,⟨false,[]⟩⟩],[⟨7,1,sv,l⟩]⟩:SiteV M.St) 7=0 from rfl,if_pos rfl,show Jt' (⟨M.aboS (f sv5) 1,[⟨2,r2,⟨true,[]⟩⟩,⟨3,r3,⟨false,[]⟩⟩],[⟨7,1,sv,l⟩]⟩:SiteV M.St) 7=(⟨M.aboS (f sv5) 1,[⟨2,r2,⟨true,[]⟩⟩,⟨3,r3,⟨false,[]⟩⟩],[]⟩:SiteV M.St) from rfl]
          refine WL.e Zx'<|WL.e Zl'<|WL.e Za' ?_
          refine WL.bool 118 rfl (fun z2=>?_) (fun z2=>?_)
          ·skip
           refine WL.e Za' ?_
           refine WL.h (Zf' (Yi' (E:=E) (v:=(⟨M.aboS (f sv5) 1,[⟨2,r2,⟨true,[]⟩⟩,⟨3,r3,⟨false,[]⟩⟩],[]⟩:SiteV M.St)) 7) k16 ?_)
           rw [show YZ' (⟨M.aboS (f sv5) 1,[⟨2,r2,⟨true,[]⟩⟩,⟨3,r3,⟨false,[]⟩⟩],[]⟩:SiteV M.St) 7=6 from rfl,if_neg (by decide)]
           refine WL.e Zx'<|WL.e Zl'<|WL.e Za' ?_
           refine WL.bool 123 rfl (fun z3=>?_) (fun z3=>?_)
           ·skip
            refine WL.e Za' ?_
            refine WL.h (Zf' (Xc' (E:=E) (v:=(⟨M.aboS (f sv5) 1,[⟨2,r2,⟨true,[]⟩⟩,⟨3,r3,⟨false,[]⟩⟩],[]⟩:SiteV M.St)) 2) k17 ?_)
            rw [show (Zq' ((⟨M.aboS (f sv5) 1,[⟨2,r2,⟨true,[]⟩⟩,⟨3,r3,⟨false,[]⟩⟩],[]⟩:SiteV M.St)).l 2).isSome=true from rfl]
            refine WL.e Zl'<|WL.e Za' ?_
            refine WL.bool 127 rfl (fun z4=>?_) (fun z4=>?_)
            ·skip
             refine WL.h (Zf' (Y0') k8 ?_)
             refine WL.e Zl'<|WL.e Zb'<|WL.next<|WP.ret ?_
             exact PO.finE Tryz.results3 (Zd' Ze') rfl hK
            ·exact absurd z4 (by decide) 
           ·exact absurd z3 (by decide) 
          ·exact absurd z2 (by decide) 
         ·exact absurd z1 (by decide) 
        ·rw [e5]
         dsimp only
         intro a5 m5 c5
         try simp only [setU,List.map_cons,List.map_nil,List.nil_append,List.cons_append]
         try simp (config:={ decide:=true }) only [if_true,if_false]
         refine WL.e Za'<|WL.e Zg'<|WL.e Zg' ?_
         refine WL.h (Zt' z40 fun b8=>?_)
         refine WL.h' (Zj' s40 ?_)
         refine WL.e Zb'<|WL.next<|WP.seq<|WP.reg<|WL.e Za'<|WL.e ZX'<|WL.next<|WP.cond_f rfl<|WP.skip<|PO.next<|WP.seq<|WP.reg<|WL.e Za' ?_
         refine WL.h (Zf' (Y5' (E:=E) (v:=(⟨s5,[⟨1,r1,⟨false,[Zi' x]⟩⟩,⟨2,r2,⟨true,[]⟩⟩,⟨3,r3,⟨false,[]⟩⟩],[⟨7,1,sv,l⟩]⟩:SiteV M.St)) 1 (M.frOk h5)) k15 ?_)
         dsimp only
         rw [M.frAbE h5 (show (1:UInt32) ∈ [1,2,3] by simp),show Kk' (⟨s5,[⟨1,r1,⟨false,[Zi' x]⟩⟩,⟨2,r2,⟨true,[]⟩⟩,⟨3,r3,⟨false,[]⟩⟩],[⟨7,1,sv,l⟩]⟩:SiteV M.St) 1=(⟨M.aboS (s5) 1,[⟨2,r2,⟨true,[]⟩⟩,⟨3,r3,⟨false,[]⟩⟩],[⟨7,1,sv,l⟩]⟩:SiteV M.St) from rfl]
         refine WL.e Zx'<|WL.e Za' ?_
         refine WL.bool 113 rfl (fun z1=>?_) (fun z1=>?_)
         ·skip
          refine WL.e Za' ?_
          refine WL.h (Zf' (Yi' (E:=E) (v:=(⟨M.aboS (s5) 1,[⟨2,r2,⟨true,[]⟩⟩,⟨3,r3,⟨false,[]⟩⟩],[⟨7,1,sv,l⟩]⟩:SiteV M.St)) 7) k16 ?_)
          rw [show YZ' (⟨M.aboS (s5) 1,[⟨2,r2,⟨true,[]⟩⟩,⟨3,r3,⟨false,[]⟩⟩],[⟨7,1,sv,l⟩]⟩:SiteV M.St) 7=0 from rfl,if_pos rfl,show Jt' (⟨M.aboS (s5) 1,[⟨2,r2,⟨true,[]⟩⟩,⟨3,r3,⟨false,[]⟩⟩],[⟨7,1,sv,l⟩]⟩:SiteV M.St) 7=(⟨M.aboS (s5) 1,[⟨2,r2,⟨true,[]⟩⟩,⟨3,r3,⟨false,[]⟩⟩],[]⟩:SiteV M.St) from rfl]
          refine WL.e Zx'<|WL.e Zl'<|WL.e Za' ?_
          refine WL.bool 118 rfl (fun z2=>?_) (fun z2=>?_)
          ·skip
           refine WL.e Za' ?_
           refine WL.h (Zf' (Yi' (E:=E) (v:=(⟨M.aboS (s5) 1,[⟨2,r2,⟨true,[]⟩⟩,⟨3,r3,⟨false,[]⟩⟩],[]⟩:SiteV M.St)) 7) k16 ?_)
           rw [show YZ' (⟨M.aboS (s5) 1,[⟨2,r2,⟨true,[]⟩⟩,⟨3,r3,⟨false,[]⟩⟩],[]⟩:SiteV M.St) 7=6 from rfl,if_neg (by decide)]
           refine WL.e Zx'<|WL.e Zl'<|WL.e Za' ?_
           refine WL.bool 123 rfl (fun z3=>?_) (fun z3=>?_)
           ·skip
            refine WL.e Za' ?_
            refine WL.h (Zf' (Xc' (E:=E) (v:=(⟨M.aboS (s5) 1,[⟨2,r2,⟨true,[]⟩⟩,⟨3,r3,⟨false,[]⟩⟩],[]⟩:SiteV M.St)) 2) k17 ?_)
            rw [show (Zq' ((⟨M.aboS (s5) 1,[⟨2,r2,⟨true,[]⟩⟩,⟨3,r3,⟨false,[]⟩⟩],[]⟩:SiteV M.St)).l 2).isSome=true from rfl]
            refine WL.e Zl'<|WL.e Za' ?_
            refine WL.bool 127 rfl (fun z4=>?_) (fun z4=>?_)
            ·skip
             refine WL.h (Zf' (Y0') k8 ?_)
             refine WL.e Zl'<|WL.e Zb'<|WL.next<|WP.ret ?_
             exact PO.finE Tryz.results3 (Zd' Ze') rfl hK
            ·exact absurd z4 (by decide) 
           ·exact absurd z3 (by decide) 
          ·exact absurd z2 (by decide) 
         ·exact absurd z1 (by decide) 
      ·rw [ZaY_ (M:=M) (v:=(⟨st3,[⟨1,r1,⟨false,[]⟩⟩,⟨2,r2,⟨false,[]⟩⟩,⟨3,r3,⟨false,[]⟩⟩],[⟨7,1,sv,l⟩]⟩:SiteV M.St)) (m:=8) (t:=⟨2,r2,⟨false,[]⟩⟩) rfl hx hm (by decide)]
       dsimp only
       refine WL.e Za'<|WL.e Zg'<|WL.e Zg' ?_
       refine WL.h (Zt' z40 fun b9=>?_)
       refine WL.h' (Zj' s40 ?_)
       refine WL.e Zb'<|WL.next<|WP.seq<|WP.seq<|WP.reg<|WL.e Za'<|WL.e Zx'<|WL.next<|WP.cond_f rfl<|WP.skip<|PO.next<|WP.seq<|WP.reg<|WL.e (Zo' a26) ?_
       refine WL.h (Zf' (XS' _) k14 ?_)
       refine WL.e Za' ?_
       refine WL.h (Zf' (Ql' (Zi' x) hA (by omega)) k13 ?_)
       rw [hany]
       refine WL.e Zb'<|WL.next<|WP.seq<|WP.seq<|WP.reg<|WL.e Za'<|WL.next<|WP.cond_f rfl<|WP.seq<|WP.reg<|WL.e Za'<|WL.e Zx'<|WL.e Za'<|WL.e (Vd' Tryz.underlying4)<|WL.next<|WP.cond_f rfl<|WP.skip<|PO.next<|WP.seq<|WP.seq<|WP.reg<|WL.e Za'<|WL.next<|WP.cond_t rfl ?_
       refine WP.seq<|WP.reg<|WL.e Za'<|WL.e (Zo' a26) ?_
       refine WL.h (Zf' (JL' (E:=E) (v:=(⟨st3,[⟨1,r1,⟨false,[]⟩⟩,⟨2,r2,⟨false,[]⟩⟩,⟨3,r3,⟨false,[]⟩⟩],[⟨7,1,sv,l⟩]⟩:SiteV M.St)) 1 x (Zay_ (h3 0) (by simp) (by simp) (by simp) (by simp) (fun x hx=>by rw [List.mem_singleton] at hx;subst hx;show l.length≤_;omega))) k12 ?_)
       have hm1:mayS [(⟨7,1,sv,l⟩:BndV)] 1 false (Zi' x)=0:=by simp [mayS,YY']
       rcases ZaX_ (v:=(⟨st3,[⟨1,r1,⟨false,[]⟩⟩,⟨2,r2,⟨false,[]⟩⟩,⟨3,r3,⟨false,[]⟩⟩],[⟨7,1,sv,l⟩]⟩:SiteV M.St)) (n:=1) (t:=⟨1,r1,⟨false,[]⟩⟩) (x:=x) rfl (h3 1) (by simp) hx (by decide) with ⟨hq,_⟩ | ⟨_,_,f,e5,h5⟩ | ⟨_,_,s5,e5,h5⟩
       ·exact absurd hm1 hq
       ·rw [e5]
        dsimp only
        intro sv5
        replace h5:=h5 sv5
        try simp only [setU,List.map_cons,List.map_nil,List.nil_append,List.cons_append]
        try simp (config:={ decide:=true }) only [if_true,if_false]
        refine WL.e Za'<|WL.e Zg'<|WL.e Zg' ?_
        refine WL.h (Zt' z40 fun b10=>?_)
        refine WL.h' (Zj' s40 ?_)
        refine WL.e Zb'<|WL.next<|WP.seq<|WP.reg<|WL.e Za'<|WL.e ZX'<|WL.next<|WP.cond_f rfl<|WP.skip<|PO.next<|WP.seq<|WP.reg<|WL.e Za' ?_
        refine WL.h (Zf' (Y5' (E:=E) (v:=(⟨f sv5,[⟨1,r1,⟨false,[Zi' x]⟩⟩,⟨2,r2,⟨false,[]⟩⟩,⟨3,r3,⟨false,[]⟩⟩],[⟨7,1,sv,l⟩]⟩:SiteV M.St)) 1 (M.frOk h5)) k15 ?_)
        dsimp only
        rw [M.frAbE h5 (show (1:UInt32) ∈ [1,2,3] by simp),show Kk' (⟨f sv5,[⟨1,r1,⟨false,[Zi' x]⟩⟩,⟨2,r2,⟨false,[]⟩⟩,⟨3,r3,⟨false,[]⟩⟩],[⟨7,1,sv,l⟩]⟩:SiteV M.St) 1=(⟨M.aboS (f sv5) 1,[⟨2,r2,⟨false,[]⟩⟩,⟨3,r3,⟨false,[]⟩⟩],[⟨7,1,sv,l⟩]⟩:SiteV M.St) from rfl]
        refine WL.e Zx'<|WL.e Za' ?_
        refine WL.bool 113 rfl (fun z1=>?_) (fun z1=>?_)
        ·skip
         refine WL.e Za' ?_
         refine WL.h (Zf' (Yi' (E:=E) (v:=(⟨M.aboS (f sv5) 1,[⟨2,r2,⟨false,[]⟩⟩,⟨3,r3,⟨false,[]⟩⟩],[⟨7,1,sv,l⟩]⟩:SiteV M.St)) 7) k16 ?_)
         rw [show YZ' (⟨M.aboS (f sv5) 1,[⟨2,r2,⟨false,[]⟩⟩,⟨3,r3,⟨false,[]⟩⟩],[⟨7,1,sv,l⟩]⟩:SiteV M.St) 7=0 from rfl,if_pos rfl,show Jt' (⟨M.aboS (f sv5) 1,[⟨2,r2,⟨false,[]⟩⟩,⟨3,r3,⟨false,[]⟩⟩],[⟨7,1,sv,l⟩]⟩:SiteV M.St) 7=(⟨M.aboS (f sv5) 1,[⟨2,r2,⟨false,[]⟩⟩,⟨3,r3,⟨false,[]⟩⟩],[]⟩:SiteV M.St) from rfl]
         refine WL.e Zx'<|WL.e Zl'<|WL.e Za' ?_
         refine WL.bool 118 rfl (fun z2=>?_) (fun z2=>?_)
         ·skip
          refine WL.e Za' ?_
          refine WL.h (Zf' (Yi' (E:=E) (v:=(⟨M.aboS (f sv5) 1,[⟨2,r2,⟨false,[]⟩⟩,⟨3,r3,⟨false,[]⟩⟩],[]⟩:SiteV M.St)) 7) k16 ?_)
          rw [show YZ' (⟨M.aboS (f sv5) 1,[⟨2,r2,⟨false,[]⟩⟩,⟨3,r3,⟨false,[]⟩⟩],[]⟩:SiteV M.St) 7=6 from rfl,if_neg (by decide)]
          refine WL.e Zx'<|WL.e Zl'<|WL.e Za' ?_
          refine WL.bool 123 rfl (fun z3=>?_) (fun z3=>?_)
          ·skip
           refine WL.e Za' ?_
           refine WL.h (Zf' (Xc' (E:=E) (v:=(⟨M.aboS (f sv5) 1,[⟨2,r2,⟨false,[]⟩⟩,⟨3,r3,⟨false,[]⟩⟩],[]⟩:SiteV M.St)) 2) k17 ?_)
           rw [show (Zq' ((⟨M.aboS (f sv5) 1,[⟨2,r2,⟨false,[]⟩⟩,⟨3,r3,⟨false,[]⟩⟩],[]⟩:SiteV M.St)).l 2).isSome=true from rfl]
           refine WL.e Zl'<|WL.e Za' ?_
           refine WL.bool 127 rfl (fun z4=>?_) (fun z4=>?_)
           ·skip
            refine WL.h (Zf' (Y0') k8 ?_)
            refine WL.e Zl'<|WL.e Zb'<|WL.next<|WP.ret ?_
            exact PO.finE Tryz.results3 (Zd' Ze') rfl hK
           ·exact absurd z4 (by decide) 
          ·exact absurd z3 (by decide) 
         ·exact absurd z2 (by decide) 
        ·exact absurd z1 (by decide) 
       ·rw [e5]
        dsimp only
        intro a5 m5 c5
        try simp only [setU,List.map_cons,List.map_nil,List.nil_append,List.cons_append]
        try simp (config:={ decide:=true }) only [if_true,if_false]
        refine WL.e Za'<|WL.e Zg'<|WL.e Zg' ?_
        refine WL.h (Zt' z40 fun b11=>?_)
        refine WL.h' (Zj' s40 ?_)
        refine WL.e Zb'<|WL.next<|WP.seq<|WP.reg<|WL.e Za'<|WL.e ZX'<|WL.next<|WP.cond_f rfl<|WP.skip<|PO.next<|WP.seq<|WP.reg<|WL.e Za' ?_
        refine WL.h (Zf' (Y5' (E:=E) (v:=(⟨s5,[⟨1,r1,⟨false,[Zi' x]⟩⟩,⟨2,r2,⟨false,[]⟩⟩,⟨3,r3,⟨false,[]⟩⟩],[⟨7,1,sv,l⟩]⟩:SiteV M.St)) 1 (M.frOk h5)) k15 ?_)
        dsimp only
        rw [M.frAbE h5 (show (1:UInt32) ∈ [1,2,3] by simp),show Kk' (⟨s5,[⟨1,r1,⟨false,[Zi' x]⟩⟩,⟨2,r2,⟨false,[]⟩⟩,⟨3,r3,⟨false,[]⟩⟩],[⟨7,1,sv,l⟩]⟩:SiteV M.St) 1=(⟨M.aboS (s5) 1,[⟨2,r2,⟨false,[]⟩⟩,⟨3,r3,⟨false,[]⟩⟩],[⟨7,1,sv,l⟩]⟩:SiteV M.St) from rfl]
        refine WL.e Zx'<|WL.e Za' ?_
        refine WL.bool 113 rfl (fun z1=>?_) (fun z1=>?_)
        ·skip
         refine WL.e Za' ?_
         refine WL.h (Zf' (Yi' (E:=E) (v:=(⟨M.aboS (s5) 1,[⟨2,r2,⟨false,[]⟩⟩,⟨3,r3,⟨false,[]⟩⟩],[⟨7,1,sv,l⟩]⟩:SiteV M.St)) 7) k16 ?_)
         rw [show YZ' (⟨M.aboS (s5) 1,[⟨2,r2,⟨false,[]⟩⟩,⟨3,r3,⟨false,[]⟩⟩],[⟨7,1,sv,l⟩]⟩:SiteV M.St) 7=0 from rfl,if_pos rfl,show Jt' (⟨M.aboS (s5) 1,[⟨2,r2,⟨false,[]⟩⟩,⟨3,r3,⟨false,[]⟩⟩],[⟨7,1,sv,l⟩]⟩:SiteV M.St) 7=(⟨M.aboS (s5) 1,[⟨2,r2,⟨false,[]⟩⟩,⟨3,r3,⟨false,[]⟩⟩],[]⟩:SiteV M.St) from rfl]
         refine WL.e Zx'<|WL.e Zl'<|WL.e Za' ?_
         refine WL.bool 118 rfl (fun z2=>?_) (fun z2=>?_)
         ·skip
          refine WL.e Za' ?_
          refine WL.h (Zf' (Yi' (E:=E) (v:=(⟨M.aboS (s5) 1,[⟨2,r2,⟨false,[]⟩⟩,⟨3,r3,⟨false,[]⟩⟩],[]⟩:SiteV M.St)) 7) k16 ?_)
          rw [show YZ' (⟨M.aboS (s5) 1,[⟨2,r2,⟨false,[]⟩⟩,⟨3,r3,⟨false,[]⟩⟩],[]⟩:SiteV M.St) 7=6 from rfl,if_neg (by decide)]
          refine WL.e Zx'<|WL.e Zl'<|WL.e Za' ?_
          refine WL.bool 123 rfl (fun z3=>?_) (fun z3=>?_)
          ·skip
           refine WL.e Za' ?_
           refine WL.h (Zf' (Xc' (E:=E) (v:=(⟨M.aboS (s5) 1,[⟨2,r2,⟨false,[]⟩⟩,⟨3,r3,⟨false,[]⟩⟩],[]⟩:SiteV M.St)) 2) k17 ?_)
           rw [show (Zq' ((⟨M.aboS (s5) 1,[⟨2,r2,⟨false,[]⟩⟩,⟨3,r3,⟨false,[]⟩⟩],[]⟩:SiteV M.St)).l 2).isSome=true from rfl]
           refine WL.e Zl'<|WL.e Za' ?_
           refine WL.bool 127 rfl (fun z4=>?_) (fun z4=>?_)
           ·skip
            refine WL.h (Zf' (Y0') k8 ?_)
            refine WL.e Zl'<|WL.e Zb'<|WL.next<|WP.ret ?_
            exact PO.finE Tryz.results3 (Zd' Ze') rfl hK
           ·exact absurd z4 (by decide) 
          ·exact absurd z3 (by decide) 
         ·exact absurd z2 (by decide) 
        ·exact absurd z1 (by decide) 
      ·rw [e5]
       dsimp only
       intro sv5
       replace h5:=h5 sv5
       refine WL.e Za'<|WL.e Zg'<|WL.e Zg' ?_
       refine WL.h (Zt' z40 fun b12=>?_)
       refine WL.h' (Zj' s40 ?_)
       refine WL.e Zb'<|WL.next<|WP.seq<|WP.seq<|WP.reg<|WL.e Za'<|WL.e Zx'<|WL.next<|WP.cond_f rfl<|WP.skip<|PO.next<|WP.seq<|WP.reg<|WL.e (Zo' a26) ?_
       refine WL.h (Zf' (XS' _) k14 ?_)
       refine WL.e Za' ?_
       refine WL.h (Zf' (Ql' (Zi' x) hA (by omega)) k13 ?_)
       rw [hany]
       refine WL.e Zb'<|WL.next<|WP.seq<|WP.seq<|WP.reg<|WL.e Za'<|WL.next ?_
       refine WP.cond rfl (fun hloc=>?_) (fun hloc=>?_)
       ·skip
        refine WP.seq<|WP.reg<|WL.e Za'<|WL.e Za' ?_
        refine WL.bool 89 rfl (fun h6=>?_) (fun h6=>?_)
        ·cases h6 
        ·skip
         refine WL.e Za'<|WL.e Zx'<|WL.e Zm'<|WL.e Zb'<|WL.next<|WP.seq<|WP.reg<|WL.e Za'<|WL.e Zx'<|WL.e Za'<|WL.e (Vd' Tryz.underlying4)<|WL.next<|WP.cond_f rfl<|WP.skip<|PO.next<|WP.seq<|WP.seq<|WP.reg<|WL.e Za'<|WL.next<|WP.cond_f rfl<|WP.skip<|PO.next<|WP.seq ?_
         refine WP.reg<|WL.e Za' ?_
         refine WL.h (Zf' (Y5' (E:=E) (v:=(⟨f sv5,[⟨1,r1,⟨false,[]⟩⟩,⟨2,r2,⟨loc,[Zi' x]⟩⟩,⟨3,r3,⟨false,[]⟩⟩],[⟨7,1,sv,l⟩]⟩:SiteV M.St)) 1 (M.frOk h5)) k15 ?_)
         dsimp only
         rw [M.frAbE h5 (show (1:UInt32) ∈ [1,2,3] by simp),show Kk' (⟨f sv5,[⟨1,r1,⟨false,[]⟩⟩,⟨2,r2,⟨loc,[Zi' x]⟩⟩,⟨3,r3,⟨false,[]⟩⟩],[⟨7,1,sv,l⟩]⟩:SiteV M.St) 1=(⟨M.aboS (f sv5) 1,[⟨2,r2,⟨loc,[Zi' x]⟩⟩,⟨3,r3,⟨false,[]⟩⟩],[⟨7,1,sv,l⟩]⟩:SiteV M.St) from rfl]
         refine WL.e Zx'<|WL.e Za' ?_
         refine WL.bool 113 rfl (fun z1=>?_) (fun z1=>?_)
         ·skip
          refine WL.e Za' ?_
          refine WL.h (Zf' (Yi' (E:=E) (v:=(⟨M.aboS (f sv5) 1,[⟨2,r2,⟨loc,[Zi' x]⟩⟩,⟨3,r3,⟨false,[]⟩⟩],[⟨7,1,sv,l⟩]⟩:SiteV M.St)) 7) k16 ?_)
          rw [show YZ' (⟨M.aboS (f sv5) 1,[⟨2,r2,⟨loc,[Zi' x]⟩⟩,⟨3,r3,⟨false,[]⟩⟩],[⟨7,1,sv,l⟩]⟩:SiteV M.St) 7=0 from rfl,if_pos rfl,show Jt' (⟨M.aboS (f sv5) 1,[⟨2,r2,⟨loc,[Zi' x]⟩⟩,⟨3,r3,⟨false,[]⟩⟩],[⟨7,1,sv,l⟩]⟩:SiteV M.St) 7=(⟨M.aboS (f sv5) 1,[⟨2,r2,⟨loc,[Zi' x]⟩⟩,⟨3,r3,⟨false,[]⟩⟩],[]⟩:SiteV M.St) from rfl]
          refine WL.e Zx'<|WL.e Zl'<|WL.e Za' ?_
          refine WL.bool 118 rfl (fun z2=>?_) (fun z2=>?_)
          ·skip
           refine WL.e Za' ?_
           refine WL.h (Zf' (Yi' (E:=E) (v:=(⟨M.aboS (f sv5) 1,[⟨2,r2,⟨loc,[Zi' x]⟩⟩,⟨3,r3,⟨false,[]⟩⟩],[]⟩:SiteV M.St)) 7) k16 ?_)
           rw [show YZ' (⟨M.aboS (f sv5) 1,[⟨2,r2,⟨loc,[Zi' x]⟩⟩,⟨3,r3,⟨false,[]⟩⟩],[]⟩:SiteV M.St) 7=6 from rfl,if_neg (by decide)]
           refine WL.e Zx'<|WL.e Zl'<|WL.e Za' ?_
           refine WL.bool 123 rfl (fun z3=>?_) (fun z3=>?_)
           ·skip
            refine WL.e Za' ?_
            refine WL.h (Zf' (Xc' (E:=E) (v:=(⟨M.aboS (f sv5) 1,[⟨2,r2,⟨loc,[Zi' x]⟩⟩,⟨3,r3,⟨false,[]⟩⟩],[]⟩:SiteV M.St)) 2) k17 ?_)
            rw [show (Zq' ((⟨M.aboS (f sv5) 1,[⟨2,r2,⟨loc,[Zi' x]⟩⟩,⟨3,r3,⟨false,[]⟩⟩],[]⟩:SiteV M.St)).l 2).isSome=true from rfl]
            refine WL.e Zl'<|WL.e Za' ?_
            refine WL.bool 127 rfl (fun z4=>?_) (fun z4=>?_)
            ·skip
             refine WL.h (Zf' (Y0') k8 ?_)
             refine WL.e Zl'<|WL.e Zb'<|WL.next<|WP.ret ?_
             exact PO.finE Tryz.results3 (Zd' Ze') rfl hK
            ·exact absurd z4 (by decide) 
           ·exact absurd z3 (by decide) 
          ·exact absurd z2 (by decide) 
         ·exact absurd z1 (by decide) 
       ·skip
        refine WP.seq<|WP.reg<|WL.e Za'<|WL.e Zx'<|WL.e Za'<|WL.e (Vd' Tryz.underlying4)<|WL.next<|WP.cond_f rfl<|WP.skip<|PO.next<|WP.seq<|WP.seq<|WP.reg<|WL.e Za'<|WL.next<|WP.cond_f rfl<|WP.skip<|PO.next<|WP.seq<|WP.reg<|WL.e Za' ?_
        refine WL.h (Zf' (Y5' (E:=E) (v:=(⟨f sv5,[⟨1,r1,⟨false,[]⟩⟩,⟨2,r2,⟨loc,[Zi' x]⟩⟩,⟨3,r3,⟨false,[]⟩⟩],[⟨7,1,sv,l⟩]⟩:SiteV M.St)) 1 (M.frOk h5)) k15 ?_)
        dsimp only
        rw [M.frAbE h5 (show (1:UInt32) ∈ [1,2,3] by simp),show Kk' (⟨f sv5,[⟨1,r1,⟨false,[]⟩⟩,⟨2,r2,⟨loc,[Zi' x]⟩⟩,⟨3,r3,⟨false,[]⟩⟩],[⟨7,1,sv,l⟩]⟩:SiteV M.St) 1=(⟨M.aboS (f sv5) 1,[⟨2,r2,⟨loc,[Zi' x]⟩⟩,⟨3,r3,⟨false,[]⟩⟩],[⟨7,1,sv,l⟩]⟩:SiteV M.St) from rfl]
        refine WL.e Zx'<|WL.e Za' ?_
        refine WL.bool 113 rfl (fun z1=>?_) (fun z1=>?_)
        ·skip
         refine WL.e Za' ?_
         refine WL.h (Zf' (Yi' (E:=E) (v:=(⟨M.aboS (f sv5) 1,[⟨2,r2,⟨loc,[Zi' x]⟩⟩,⟨3,r3,⟨false,[]⟩⟩],[⟨7,1,sv,l⟩]⟩:SiteV M.St)) 7) k16 ?_)
         rw [show YZ' (⟨M.aboS (f sv5) 1,[⟨2,r2,⟨loc,[Zi' x]⟩⟩,⟨3,r3,⟨false,[]⟩⟩],[⟨7,1,sv,l⟩]⟩:SiteV M.St) 7=0 from rfl,if_pos rfl,show Jt' (⟨M.aboS (f sv5) 1,[⟨2,r2,⟨loc,[Zi' x]⟩⟩,⟨3,r3,⟨false,[]⟩⟩],[⟨7,1,sv,l⟩]⟩:SiteV M.St) 7=(⟨M.aboS (f sv5) 1,[⟨2,r2,⟨loc,[Zi' x]⟩⟩,⟨3,r3,⟨false,[]⟩⟩],[]⟩:SiteV M.St) from rfl]
         refine WL.e Zx'<|WL.e Zl'<|WL.e Za' ?_
         refine WL.bool 118 rfl (fun z2=>?_) (fun z2=>?_)
         ·skip
          refine WL.e Za' ?_
          refine WL.h (Zf' (Yi' (E:=E) (v:=(⟨M.aboS (f sv5) 1,[⟨2,r2,⟨loc,[Zi' x]⟩⟩,⟨3,r3,⟨false,[]⟩⟩],[]⟩:SiteV M.St)) 7) k16 ?_)
          rw [show YZ' (⟨M.aboS (f sv5) 1,[⟨2,r2,⟨loc,[Zi' x]⟩⟩,⟨3,r3,⟨false,[]⟩⟩],[]⟩:SiteV M.St) 7=6 from rfl,if_neg (by decide)]
          refine WL.e Zx'<|WL.e Zl'<|WL.e Za' ?_
          refine WL.bool 123 rfl (fun z3=>?_) (fun z3=>?_)
          ·skip
           refine WL.e Za' ?_
           refine WL.h (Zf' (Xc' (E:=E) (v:=(⟨M.aboS (f sv5) 1,[⟨2,r2,⟨loc,[Zi' x]⟩⟩,⟨3,r3,⟨false,[]⟩⟩],[]⟩:SiteV M.St)) 2) k17 ?_)
           rw [show (Zq' ((⟨M.aboS (f sv5) 1,[⟨2,r2,⟨loc,[Zi' x]⟩⟩,⟨3,r3,⟨false,[]⟩⟩],[]⟩:SiteV M.St)).l 2).isSome=true from rfl]
           refine WL.e Zl'<|WL.e Za' ?_
           refine WL.bool 127 rfl (fun z4=>?_) (fun z4=>?_)
           ·skip
            refine WL.h (Zf' (Y0') k8 ?_)
            refine WL.e Zl'<|WL.e Zb'<|WL.next<|WP.ret ?_
            exact PO.finE Tryz.results3 (Zd' Ze') rfl hK
           ·exact absurd z4 (by decide) 
          ·exact absurd z3 (by decide) 
         ·exact absurd z2 (by decide) 
        ·exact absurd z1 (by decide) 
      ·rw [e5]
       dsimp only
       intro a5 m5 c5
       refine WL.e Za'<|WL.e Zg'<|WL.e Zg' ?_
       refine WL.h (Zt' z40 fun b13=>?_)
       refine WL.h' (Zj' s40 ?_)
       refine WL.e Zb'<|WL.next<|WP.seq<|WP.seq<|WP.reg<|WL.e Za'<|WL.e Zx'<|WL.next<|WP.cond_f rfl<|WP.skip<|PO.next<|WP.seq<|WP.reg<|WL.e (Zo' a26) ?_
       refine WL.h (Zf' (XS' _) k14 ?_)
       refine WL.e Za' ?_
       refine WL.h (Zf' (Ql' (Zi' x) hA (by omega)) k13 ?_)
       rw [hany]
       refine WL.e Zb'<|WL.next<|WP.seq<|WP.seq<|WP.reg<|WL.e Za'<|WL.next ?_
       refine WP.cond rfl (fun hloc=>?_) (fun hloc=>?_)
       ·skip
        refine WP.seq<|WP.reg<|WL.e Za'<|WL.e Za' ?_
        refine WL.bool 89 rfl (fun h6=>?_) (fun h6=>?_)
        ·cases h6 
        ·skip
         refine WL.e Za'<|WL.e Zx'<|WL.e Zm'<|WL.e Zb'<|WL.next<|WP.seq<|WP.reg<|WL.e Za'<|WL.e Zx'<|WL.e Za'<|WL.e (Vd' Tryz.underlying4)<|WL.next<|WP.cond_f rfl<|WP.skip<|PO.next<|WP.seq<|WP.seq<|WP.reg<|WL.e Za'<|WL.next<|WP.cond_f rfl<|WP.skip<|PO.next<|WP.seq ?_
         refine WP.reg<|WL.e Za' ?_
         refine WL.h (Zf' (Y5' (E:=E) (v:=(⟨s5,[⟨1,r1,⟨false,[]⟩⟩,⟨2,r2,⟨loc,[Zi' x]⟩⟩,⟨3,r3,⟨false,[]⟩⟩],[⟨7,1,sv,l⟩]⟩:SiteV M.St)) 1 (M.frOk h5)) k15 ?_)
         dsimp only
         rw [M.frAbE h5 (show (1:UInt32) ∈ [1,2,3] by simp),show Kk' (⟨s5,[⟨1,r1,⟨false,[]⟩⟩,⟨2,r2,⟨loc,[Zi' x]⟩⟩,⟨3,r3,⟨false,[]⟩⟩],[⟨7,1,sv,l⟩]⟩:SiteV M.St) 1=(⟨M.aboS (s5) 1,[⟨2,r2,⟨loc,[Zi' x]⟩⟩,⟨3,r3,⟨false,[]⟩⟩],[⟨7,1,sv,l⟩]⟩:SiteV M.St) from rfl]
         refine WL.e Zx'<|WL.e Za' ?_
         refine WL.bool 113 rfl (fun z1=>?_) (fun z1=>?_)
         ·skip
          refine WL.e Za' ?_
          refine WL.h (Zf' (Yi' (E:=E) (v:=(⟨M.aboS (s5) 1,[⟨2,r2,⟨loc,[Zi' x]⟩⟩,⟨3,r3,⟨false,[]⟩⟩],[⟨7,1,sv,l⟩]⟩:SiteV M.St)) 7) k16 ?_)
          rw [show YZ' (⟨M.aboS (s5) 1,[⟨2,r2,⟨loc,[Zi' x]⟩⟩,⟨3,r3,⟨false,[]⟩⟩],[⟨7,1,sv,l⟩]⟩:SiteV M.St) 7=0 from rfl,if_pos rfl,show Jt' (⟨M.aboS (s5) 1,[⟨2,r2,⟨loc,[Zi' x]⟩⟩,⟨3,r3,⟨false,[]⟩⟩],[⟨7,1,sv,l⟩]⟩:SiteV M.St) 7=(⟨M.aboS (s5) 1,[⟨2,r2,⟨loc,[Zi' x]⟩⟩,⟨3,r3,⟨false,[]⟩⟩],[]⟩:SiteV M.St) from rfl]
          refine WL.e Zx'<|WL.e Zl'<|WL.e Za' ?_
          refine WL.bool 118 rfl (fun z2=>?_) (fun z2=>?_)
          ·skip
           refine WL.e Za' ?_
           refine WL.h (Zf' (Yi' (E:=E) (v:=(⟨M.aboS (s5) 1,[⟨2,r2,⟨loc,[Zi' x]⟩⟩,⟨3,r3,⟨false,[]⟩⟩],[]⟩:SiteV M.St)) 7) k16 ?_)
           rw [show YZ' (⟨M.aboS (s5) 1,[⟨2,r2,⟨loc,[Zi' x]⟩⟩,⟨3,r3,⟨false,[]⟩⟩],[]⟩:SiteV M.St) 7=6 from rfl,if_neg (by decide)]
           refine WL.e Zx'<|WL.e Zl'<|WL.e Za' ?_
           refine WL.bool 123 rfl (fun z3=>?_) (fun z3=>?_)
           ·skip
            refine WL.e Za' ?_
            refine WL.h (Zf' (Xc' (E:=E) (v:=(⟨M.aboS (s5) 1,[⟨2,r2,⟨loc,[Zi' x]⟩⟩,⟨3,r3,⟨false,[]⟩⟩],[]⟩:SiteV M.St)) 2) k17 ?_)
            rw [show (Zq' ((⟨M.aboS (s5) 1,[⟨2,r2,⟨loc,[Zi' x]⟩⟩,⟨3,r3,⟨false,[]⟩⟩],[]⟩:SiteV M.St)).l 2).isSome=true from rfl]
            refine WL.e Zl'<|WL.e Za' ?_
            refine WL.bool 127 rfl (fun z4=>?_) (fun z4=>?_)
            ·skip
             refine WL.h (Zf' (Y0') k8 ?_)
             refine WL.e Zl'<|WL.e Zb'<|WL.next<|WP.ret ?_
             exact PO.finE Tryz.results3 (Zd' Ze') rfl hK
            ·exact absurd z4 (by decide) 
           ·exact absurd z3 (by decide) 
          ·exact absurd z2 (by decide) 
         ·exact absurd z1 (by decide) 
       ·skip
        refine WP.seq<|WP.reg<|WL.e Za'<|WL.e Zx'<|WL.e Za'<|WL.e (Vd' Tryz.underlying4)<|WL.next<|WP.cond_f rfl<|WP.skip<|PO.next<|WP.seq<|WP.seq<|WP.reg<|WL.e Za'<|WL.next<|WP.cond_f rfl<|WP.skip<|PO.next<|WP.seq<|WP.reg<|WL.e Za' ?_
        refine WL.h (Zf' (Y5' (E:=E) (v:=(⟨s5,[⟨1,r1,⟨false,[]⟩⟩,⟨2,r2,⟨loc,[Zi' x]⟩⟩,⟨3,r3,⟨false,[]⟩⟩],[⟨7,1,sv,l⟩]⟩:SiteV M.St)) 1 (M.frOk h5)) k15 ?_)
        dsimp only
        rw [M.frAbE h5 (show (1:UInt32) ∈ [1,2,3] by simp),show Kk' (⟨s5,[⟨1,r1,⟨false,[]⟩⟩,⟨2,r2,⟨loc,[Zi' x]⟩⟩,⟨3,r3,⟨false,[]⟩⟩],[⟨7,1,sv,l⟩]⟩:SiteV M.St) 1=(⟨M.aboS (s5) 1,[⟨2,r2,⟨loc,[Zi' x]⟩⟩,⟨3,r3,⟨false,[]⟩⟩],[⟨7,1,sv,l⟩]⟩:SiteV M.St) from rfl]
        refine WL.e Zx'<|WL.e Za' ?_
        refine WL.bool 113 rfl (fun z1=>?_) (fun z1=>?_)
        ·skip
         refine WL.e Za' ?_
         refine WL.h (Zf' (Yi' (E:=E) (v:=(⟨M.aboS (s5) 1,[⟨2,r2,⟨loc,[Zi' x]⟩⟩,⟨3,r3,⟨false,[]⟩⟩],[⟨7,1,sv,l⟩]⟩:SiteV M.St)) 7) k16 ?_)
         rw [show YZ' (⟨M.aboS (s5) 1,[⟨2,r2,⟨loc,[Zi' x]⟩⟩,⟨3,r3,⟨false,[]⟩⟩],[⟨7,1,sv,l⟩]⟩:SiteV M.St) 7=0 from rfl,if_pos rfl,show Jt' (⟨M.aboS (s5) 1,[⟨2,r2,⟨loc,[Zi' x]⟩⟩,⟨3,r3,⟨false,[]⟩⟩],[⟨7,1,sv,l⟩]⟩:SiteV M.St) 7=(⟨M.aboS (s5) 1,[⟨2,r2,⟨loc,[Zi' x]⟩⟩,⟨3,r3,⟨false,[]⟩⟩],[]⟩:SiteV M.St) from rfl]
         refine WL.e Zx'<|WL.e Zl'<|WL.e Za' ?_
         refine WL.bool 118 rfl (fun z2=>?_) (fun z2=>?_)
         ·skip
          refine WL.e Za' ?_
          refine WL.h (Zf' (Yi' (E:=E) (v:=(⟨M.aboS (s5) 1,[⟨2,r2,⟨loc,[Zi' x]⟩⟩,⟨3,r3,⟨false,[]⟩⟩],[]⟩:SiteV M.St)) 7) k16 ?_)
          rw [show YZ' (⟨M.aboS (s5) 1,[⟨2,r2,⟨loc,[Zi' x]⟩⟩,⟨3,r3,⟨false,[]⟩⟩],[]⟩:SiteV M.St) 7=6 from rfl,if_neg (by decide)]
          refine WL.e Zx'<|WL.e Zl'<|WL.e Za' ?_
          refine WL.bool 123 rfl (fun z3=>?_) (fun z3=>?_)
          ·skip
           refine WL.e Za' ?_
           refine WL.h (Zf' (Xc' (E:=E) (v:=(⟨M.aboS (s5) 1,[⟨2,r2,⟨loc,[Zi' x]⟩⟩,⟨3,r3,⟨false,[]⟩⟩],[]⟩:SiteV M.St)) 2) k17 ?_)
           rw [show (Zq' ((⟨M.aboS (s5) 1,[⟨2,r2,⟨loc,[Zi' x]⟩⟩,⟨3,r3,⟨false,[]⟩⟩],[]⟩:SiteV M.St)).l 2).isSome=true from rfl]
           refine WL.e Zl'<|WL.e Za' ?_
           refine WL.bool 127 rfl (fun z4=>?_) (fun z4=>?_)
           ·skip
            refine WL.h (Zf' (Y0') k8 ?_)
            refine WL.e Zl'<|WL.e Zb'<|WL.next<|WP.ret ?_
            exact PO.finE Tryz.results3 (Zd' Ze') rfl hK
           ·exact absurd z4 (by decide) 
          ·exact absurd z3 (by decide) 
         ·exact absurd z2 (by decide) 
        ·exact absurd z1 (by decide) 
end Go.SL
set_option linter.unusedSectionVars false
namespace Go.SL
open Go Go.ChangeShapes Go.Deep
section
variable {H : Type} {enc : TypeId × Value → H} {P : Program} {W : World} {held : Bool}
theorem ZmO_ (a:Addr) (n:Nat) (h:a.spot=none):a.add n=⟨a.block,a.off+n,none⟩:=by
  obtain ⟨b,o,s⟩:=a
  simp at h;subst h
  exact YL' b o n
theorem Zlv_ {α:Type} {t e:TypeId} {fuel z:Nat} {cs:List Value} {x:DataW H × List MemPlace} {c:α→List Value} (ht:P.underlying t=some (.slice e)) (hz:P.cellsOf e=z) (h0:0 < z) (he:EncOk z c)
    (hel:∀ n cs' y,DataW.trod enc P W 0 (fun _=>true) held n e cs'=some y→∃ a:α,cs'=c a) (h:DataW.trod enc P W 0 (fun _=>true) held fuel t cs=some x) :
    ∃ (v:SV) (xs:List α),cs=[v.v]∧RL (Old W) z c v.v xs∧(xs=[]∨∃ el sp,x.1=.slice el sp∧el.length=xs.length):=by
  rcases open_slice ht h with ⟨hcs,_⟩ | ⟨a,len,cap,m,n,D,Pl,hcs,_,hl,hm,hmm,hxx,hi⟩
  · exact ⟨⟨none,0,0⟩,[],hcs,Ve',.inl rfl⟩
  simp only [if_true] at hmm
  subst hmm
  rw [hz] at hi
  have hi':∀ i:Fin m,∃ y:α,∀ j,j < z→W.cell? ((a.add (i * z)).add j)=(c y)[j]?:=fun i=>by
    obtain ⟨cs',h1,h2⟩:=hi i i.2
    obtain ⟨y,rfl⟩:=hel _ _ _ h2
    exact ⟨y,(World.cells?_some h1).2.2⟩
  by_cases hc0:m=0
  · have:len=0:=by omega
    subst this
    exact ⟨⟨some a,0,m⟩,[],hcs,Ve',.inl rfl⟩
  let Y:Fin m→α:=fun i=>Classical.choose (hi' i)
  have hY:∀ i:Fin m,∀ j,j < z→W.cell? ((a.add (i * z)).add j)=(c (Y i))[j]?:=fun i=>Classical.choose_spec (hi' i)
  have hsp:a.spot=none:=by
    have:=hY ⟨0,by omega⟩ 0 h0
    have hlt:0 < (c (Y ⟨0,by omega⟩)).length:=by rw [he.len];exact h0
    rw [List.getElem?_eq_getElem hlt] at this
    have h2:=World.cell?_spot this
    cases hs:a.spot with
    | none=>rfl
    | some s=>simp [Addr.add,hs] at h2
  have hcell:∀ k (hk:k < m * z),W.cell? ⟨a.block,a.off+k,none⟩=(c (Y ⟨k / z,(Nat.div_lt_iff_lt_mul h0).2 hk⟩))[k % z]?:=fun k hk=>by
    have:=hY ⟨k / z,(Nat.div_lt_iff_lt_mul h0).2 hk⟩ (k % z) (Nat.mod_lt _ h0)
    rw [ZmO_ a _ hsp,YL'] at this
    have e:a.off+k / z * z+k % z=a.off+k:=by have:=Nat.div_add_mod k z;rw [Nat.mul_comm] at this;omega
    simp only [e] at this
    exact this
  have hmz:0 < m * z:=Nat.mul_pos (by omega) h0
  obtain ⟨arr,t',fr,hb⟩:∃ arr t' fr,W.heap[a.block]?=some (.cells arr t' fr):=by
    have:=hcell 0 hmz
    rw [List.getElem?_eq_getElem (by rw [he.len];exact Nat.mod_lt _ h0)] at this
    unfold World.cell? at this
    cases hh:W.heap[a.block]? with
    | none=>rw [hh] at this;cases this
    | some o=>rw [hh] at this;cases o <;> first | exact ⟨_,_,_,rfl⟩ | cases this
  have hval:∀ k (hk:k < m * z),arr.toList[a.off+k]?=(c (Y ⟨k / z,(Nat.div_lt_iff_lt_mul h0).2 hk⟩))[k % z]?:=fun k hk=>by
    have:=hcell k hk
    unfold World.cell? at this
    rw [hb] at this
    simpa using this
  have hlen:a.off+m * z≤arr.toList.length:=by
    have:=hval (m * z - 1) (by omega)
    have hlt:(m * z - 1) % z < (c (Y ⟨(m * z - 1) / z,(Nat.div_lt_iff_lt_mul h0).2 (by omega)⟩)).length:=by rw [he.len];exact Nat.mod_lt _ h0
    rw [List.getElem?_eq_getElem hlt] at this
    have:=Ye' this
    omega
  refine ⟨⟨some a,len,m⟩,List.ofFn fun i:Fin len=>Y ⟨i,by omega⟩,hcs,fun S hS=>?_,.inr ⟨_,_,by rw [hxx],by simp⟩⟩
  refine .inr ⟨a.block,a.off,m,arr.toList,(t',fr),?_,by simpa using hl,?_,hlen,?_⟩
  · obtain ⟨b,o,s⟩:=a
    simp at hsp;subst hsp
    simp
  · exact hS _ _ (by simpa [Yc'] using hb)
  · apply List.ext_getElem?
    intro k
    rw [QD',List.length_ofFn]
    by_cases hk:k < len * z
    · rw [if_pos hk]
      have hkm:k < m * z:=Nat.lt_of_lt_of_le hk (Nat.mul_le_mul_right _ hl)
      rw [hval k hkm]
      have hd:k / z < len:=(Nat.div_lt_iff_lt_mul h0).2 hk
      have hx:(List.ofFn fun i:Fin len=>Y ⟨i,by omega⟩)[k / z]?=some (Y ⟨k / z,by omega⟩):=by simp [hd]
      have:=V7' he hx (k % z) (Nat.mod_lt _ h0)
      rw [show k / z * z+k % z=k by have:=Nat.div_add_mod k z;rw [Nat.mul_comm] at this;omega] at this
      exact this
    · rw [if_neg hk]
      apply List.getElem?_eq_none
      rw [Yf' he,List.length_ofFn];omega
theorem Zc5_ {P:Program} {w:World} {f:FuncId} {args:List Value} (h:Spec P w f args [Old w] fun K R=>K (.bool true) (Old w::R)):Calls P f args.toArray w fun e w'=>e=.returned (.bool true)∧Go.RowKit.Below w.heap.size w w':=by
  refine (h [] (fun v M=>v=.bool true∧M=[Old w]) w (Zmh_ w) ⟨rfl,rfl⟩).mono ?_
  rintro e w' ⟨v,M,rfl,⟨rfl,rfl⟩,hs⟩
  exact ⟨rfl,ZiW_ hs⟩
theorem Zlw_ {t k s u:TypeId} {b0 b1 b2 b3:Nat} {n0 n1 n2 n3:String} {fuel:Nat} {cs:List Value} {y:DataW H × List MemPlace} (ht:P.underlying t=some (.struct #[⟨n0,k,0,false, "", "",b0⟩,⟨n1,s,1,false, "", "",b1⟩,⟨n2,s,2,false, "", "",b2⟩,⟨n3,u,3,false, "", "",b3⟩]))
    (hk:P.underlying k=some (.int .u8)) (hs:P.underlying s=some .string) (hu:P.underlying u=some (.int .u32)) (ct:P.cellsOf t=4) (ck:P.cellsOf k=1) (c1:P.cellsOf s=1) (cu:P.cellsOf u=1)
    (h:DataW.trod enc P W 0 (fun _=>true) held fuel t cs=some y):∃ x:OpM,cs=x.c:=by
  obtain ⟨y0,y1,y2,y3,m,hx,hl,h0,h1,h2,h3⟩:=Go.Joins.trod_struct4 ht h
  rw [ct] at hl
  match cs,hl with
  | [a,b,c,d],_=>
    simp only [ck,c1,cu] at h0 h1 h2 h3
    obtain ⟨n,e0,_,w0⟩:=DataW.trod_int hk h0
    obtain ⟨s1,e1,_,_⟩:=DataW.trod_string hs h1
    obtain ⟨s2,e2,_,_⟩:=DataW.trod_string hs h2
    obtain ⟨v,e3,_,w3⟩:=DataW.trod_int hu h3
    simp at e0 e1 e2 e3
    subst e0 e1 e2 e3
    refine ⟨⟨UInt8.ofNat n.toNat,s1,s2,UInt32.ofNat v.toNat⟩,?_⟩
    simp only [OpM.c]
    rw [← ZlL_ w0,← Zm9_ w3]
end
end Go.SL
