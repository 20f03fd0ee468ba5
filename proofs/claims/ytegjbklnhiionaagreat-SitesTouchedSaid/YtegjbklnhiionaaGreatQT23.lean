/- TC NO TD NP: rules and walks, several texts in one. -/
import Derived.Test.YtegjbklnhiionaaGreatQT22
import Derived.Test.YtegjbklnhiionaaGreatProg
import Derived.KernelRfl
set_option linter.unusedSimpArgs false
set_option linter.unusedVariables false
namespace Go.SL.Fc
open Go Go.Proofs Go.SL
theorem k29:Zh' Tryz.prog 29=true:=by kernel_rfl
theorem k31:Zh' Tryz.prog 31=true:=by kernel_rfl
theorem k32:Zh' Tryz.prog 32=true:=by kernel_rfl
theorem k33:Zh' Tryz.prog 33=true:=by kernel_rfl
theorem k34:Zh' Tryz.prog 34=true:=by kernel_rfl
theorem k35:Zh' Tryz.prog 35=true:=by kernel_rfl
theorem k48:Zh' Tryz.prog 48=true:=by kernel_rfl
theorem k49:Zh' Tryz.prog 49=true:=by kernel_rfl
theorem k51:Zh' Tryz.prog 51=true:=by kernel_rfl
theorem k65:Zh' Tryz.prog 65=true:=by kernel_rfl
theorem p89:Z9' Tryz.prog 89=some [(0,1),(1,1)]:=by kernel_rfl
end Go.SL.Fc
namespace Go.SL
open Go Go.Proofs Fc
theorem Zbb_ {g:World} {A:HP} {u:Value} {xs:List SpanM} (hA:RL A 2 SpanM.c u xs) (hb:xs.length≤68719476736):Spec Tryz.prog g 32 [u] [A] fun K R=>∀ a m c,K (.slice a m c) (Sl 45 2 SpanM.c (.slice a m c) xs::A::R):=by
 refine Spec.intro Tryz.func32 rfl Tryz.ntmps32 rfl fun R K hK=>?_
 refine WP.seq<|WP.reg<|WL.e Zb'<|WL.next<|WP.seq<|WP.seq<|WP.reg<|WL.e Za'<|WL.e (ZcH_ sl22 hA)<|WL.next ?_
 refine WP.cond rfl (fun h=>?_) (fun h=>?_)
 ·refine WP.know (φ:=xs=[]) (Pick.know (A:=A) (by exact .z) fun S hS=>?_) fun hx=>?_
  ·rcases hA S hS with ⟨h0,_⟩ | ⟨b,o,c,l,t,e,_⟩
   ·simpa using h0
   ·rw [e] at h;cases h
  subst hx
  refine WP.nils 45 2 SpanM.c none ?_
  refine WP.seq<|WP.reg<|WL.e Zb'<|WL.next<|WP.ret<|PO.past nofun ?_
  exact PO.fin Tryz.results32 (Zd' Ze') (hK none 0 0)
 ·skip
  refine WP.skip<|PO.next<|WP.seq<|WP.reg ?_
  refine WL.h (Zg7_ sl22 (enc:=SpanM.c) fun a1 n1 c1=>?_)
  refine WL.e Za' ?_
  refine WL.h (ZE' (xs:=[]) (ys:=xs) sl22 Ja' z45 hA (by simp;omega) fun a2 n2 c2=>?_)
  rw [List.nil_append]
  refine WL.e Zb'<|WL.next<|WP.ret ?_
  exact PO.fin Tryz.results32 (Zd' Ze') (hK a2 n2 c2)
theorem Zig_ {g:World} {B:HP} (x:SpanM):Spec Tryz.prog g 29 [.agg (SpanM.c x).toArray] [B] fun K R=>K (.bool (!meet x x)) (B::R):=by
 refine Spec.intro Tryz.func29 rfl Tryz.ntmps29 rfl fun R K hK=>?_
 refine WP.seq<|WP.reg ?_
 refine WL.h (ZL' fun b1=>?_)
 refine WL.e Zb'<|WL.next<|WP.seq<|WP.reg<|WL.e (Zq' a45)<|WL.e (Zq' a45) ?_
 refine WL.h (Zg' (Y6' ⟨_,_⟩ ⟨_,_⟩) k30 ?_)
 refine WL.e ZC'<|WL.e Zb'<|WL.next<|WP.ret ?_
 exact PO.fin Tryz.results29 (Zd' Ze') hK
theorem Zkb_ {g:World} {B:HP} {a2:Option Addr} {m2 c2:Nat} {l:List SpanM} {b:Nat} (hB:RL B 2 SpanM.c (.slice a2 m2 c2) l) (hn:l.length≤68719476736) (x:SpanM):Spec Tryz.prog g 48 [.agg (SpanM.c x).toArray,.pointer (some ⟨b,0,none⟩)] [cl b 22 [.slice a2 m2 c2],B] fun K R=>K (.bool (anyS x l)) ([cl b 22 [.slice a2 m2 c2],B]++R):=by
 refine Spec.intro Tryz.func48 rfl Tryz.ntmps48 rfl fun R K hK=>?_
 refine WP.seq<|WP.reg ?_
 refine WL.h (ZL' fun b1=>?_)
 refine WL.e Zb'<|WL.next<|WP.seq<|WP.reg<|WL.e (Zq' a45)<|WL.e (Zc' a22) ?_
 refine WL.h (Zg' (UN' x hB hn) k13 ?_)
 refine WL.e Zb'<|WL.next<|WP.ret ?_
 exact PO.fin Tryz.results48 (Zd' Ze') hK
theorem Qy' {g:World} {A B:HP} {u:Value} {a2:Option Addr} {m2 c2:Nat} {a l:List SpanM} (hA:RL A 2 SpanM.c u a) (hB:RL B 2 SpanM.c (.slice a2 m2 c2) l) (ha:a.length≤68719476736) (hn:l.length≤68719476736):Spec Tryz.prog g 31 [u,.slice a2 m2 c2] [A,B] fun K R=>K (.bool (Z1' a l)) (A::B::R):=by
 refine Spec.intro Tryz.func31 rfl Tryz.ntmps31 rfl fun R K hK=>?_
 refine WP.seq<|WP.reg ?_
 refine WL.h (ZL' fun b1=>?_)
 refine WL.e Zb'<|WL.next<|WP.seq<|WP.reg<|WL.e Za'<|WL.e Yh'<|WL.cls (A:=bun [cl b1 22 [.slice a2 m2 c2],B]) (B:=[cl b1 22 [.slice a2 m2 c2],B]) (fun S h=>h) ?_
 refine WL.h (Zg' (Ke' (p:=fun x=>anyS x l) hA ha (fun x=>CallV.bun (CallV.of_spec (fs:=[]) (cs:=[.pointer (some ⟨b1,0,none⟩)]) (Zkb_ hB hn x) k48))) k28 ?_)
 show WL _ _ _ _ _ _ _ _
 refine WL.opn (A:=bun [cl b1 22 [.slice a2 m2 c2],B]) (B:=fun _:Unit=>[cl b1 22 [.slice a2 m2 c2],B]) (fun S h=>⟨(),h⟩) fun _=>?_
 refine WL.e Zb'<|WL.next<|WP.ret ?_
 exact PO.fin Tryz.results31 (Zd' Ze') hK
set_option maxHeartbeats 4000000 in
theorem JF' {g:World} {M:EngM} {E:Eng Tryz.prog g 105 M} {sp dp:Nat} {v:SiteV M.St} {A:HP} {a2:Option Addr} {m2 c2:Nat} {l:List SpanM} {b:Nat} (n gg:UInt32) (hs:SiOk v b) (hA:RL A 2 SpanM.c (.slice a2 m2 c2) l) (hl:l.length≤1000000):Spec Tryz.prog g 10 [.pointer (some ⟨sp,0,none⟩),.int .u32 n.toNat,.int .u32 gg.toNat,.slice a2 m2 c2] [Si E sp dp v,A] fun K R=>∀ sv,K (.int .i64 (Yt' v n gg l)) (Si E sp dp (YC' v n gg sv l)::A::R):=by
 refine Spec.intro Tryz.func10 rfl Tryz.ntmps10 rfl fun R K hK=>?_
 refine WP.seq<|WP.reg<|WL.e Zb'<|WL.next<|WP.seq<|WP.seq<|WP.reg<|WL.e Za' ?_
 refine WL.h (Zg' (X7') k27 ?_)
 refine WL.e ZC'<|WL.next<|WP.cond_f rfl<|WP.skip<|PO.next<|WP.seq<|WP.seq<|WP.reg<|WL.e Za'<|WL.e (Jj' (b:=0))<|WL.e Za' ?_
 refine WL.bool 18 rfl (fun h1=>?_) (fun h1=>?_)
 ·replace h1:(gg == 0)=true:=h1
  have hc:(gg == 0 || l.length == 0 || l.any fun p=>!meet p p)=true:=by rw [h1];rfl
  refine WL.skip<|WL.skip<|WL.skip<|WL.e Zm'<|WL.e Za'<|WL.skip<|WL.skip<|WL.e Zm'<|WL.next<|WP.cond_t rfl<|WP.seq<|WP.reg<|WL.e Zb'<|WL.next<|WP.ret<|PO.past nofun ?_
  have hE:Yt' v n gg l=1:=by unfold Yt';rw [if_pos hc]
  have hK:=hK ⟨none,0,0⟩
  rw [YC',hE,if_neg (by decide)] at hK
  exact PO.fin Tryz.results10 (Zd' Ze') hK
 ·replace h1:(gg == 0)=false:=h1
  refine WL.e Za'<|WL.e (Zz' (xs:=l) sl22 hA)<|WL.e ZG'<|WL.e Zl'<|WL.e Za' ?_
  refine WL.bool 23 rfl (fun h2=>?_) (fun h2=>?_)
  ·replace h2:(l.length == 0)=true:=by simpa using h2
   have hc:(gg == 0 || l.length == 0 || l.any fun p=>!meet p p)=true:=by rw [h1,h2];rfl
   refine WL.skip<|WL.skip<|WL.e Zm'<|WL.next<|WP.cond_t rfl<|WP.seq<|WP.reg<|WL.e Zb'<|WL.next<|WP.ret<|PO.past nofun ?_
   have hE:Yt' v n gg l=1:=by unfold Yt';rw [if_pos hc]
   have hK:=hK ⟨none,0,0⟩
   rw [YC',hE,if_neg (by decide)] at hK
   exact PO.fin Tryz.results10 (Zd' Ze') hK
  ·replace h2:(l.length == 0)=false:=by simpa using h2
   refine WL.e Za'<|WL.conv (M:=pu True::_) (fun S h=>Yj' trivial h) ?_
   refine WL.h (Zg' (Ke' (B:=pu True) (p:=fun x=>!meet x x) hA (by omega) (fun x=>CallV.of_spec (fs:=[]) (cs:=[]) (Zig_ x) k29)) k28 ?_)
   refine WL.e Zl'<|WL.next ?_
   refine WP.cond rfl (fun h3=>?_) (fun h3=>?_)
   ·replace h3:(l.any fun p=>!meet p p)=true:=h3
    have hc:(gg == 0 || l.length == 0 || l.any fun p=>!meet p p)=true:=by rw [h1,h2,h3];rfl
    refine WP.seq<|WP.reg<|WL.e Zb'<|WL.next<|WP.ret<|PO.past nofun ?_
    have hE:Yt' v n gg l=1:=by unfold Yt';rw [if_pos hc]
    have hK:=hK ⟨none,0,0⟩
    rw [YC',hE,if_neg (by decide)] at hK
    exact PO.fin Tryz.results10 (Zd' Ze') hK
   ·replace h3:(l.any fun p=>!meet p p)=false:=h3
    have hc:(gg == 0 || l.length == 0 || l.any fun p=>!meet p p)=false:=by rw [h1,h2,h3];rfl
    refine WP.opn (Ky' (E:=E) (sp:=sp) (dp:=dp) (v:=v)) fun x=>?_
    obtain ⟨p,lm,bm⟩:=x
    dsimp only
    refine WP.skip<|PO.next<|WP.seq<|WP.seq<|WP.reg<|WL.e Za'<|WL.e (XM' (b:=0))<|WL.e Za' ?_
    refine WL.bool 29 rfl (fun h4=>?_) (fun h4=>?_)
    ·replace h4:(n != 0)=true:=h4
     refine WL.e Za'<|WL.e Zj'<|WL.e (e_fa Q4')<|WL.e (Zc' a78)<|WL.e Za'<|WL.e (JL' (n:=n) (ts:=v.l) Tryz.underlying78 (ZQ' Tryz.underlying24) zz82)<|WL.e (JM' pt82)<|WL.e Zm'<|WL.next ?_
     refine WP.cond rfl (fun h5=>?_) (fun h5=>?_)
     ·have hf:Zr' v.l n=none:=by cases e:Zr' v.l n with
       | none=>rfl
       | some t=>rw [e] at h5;cases h5
      have hd:(n != 0 && (Zr' v.l n).isNone)=true:=by rw [h4,hf];rfl
      refine WP.seq<|WP.reg<|WL.e Zb'<|WL.next<|WP.ret<|PO.past nofun ?_
      have hE:Yt' v n gg l=6:=by unfold Yt';rw [if_neg (by rw [hc];decide),if_pos hd]
      have hK:=hK ⟨none,0,0⟩
      rw [YC',hE,if_neg (by decide)] at hK
      refine PO.cls (A:=Si E sp dp (v)) (B:=[cl sp 81 [.iface E.T (.pointer (some ⟨p,0,none⟩)),.map (some lm),.map (some bm)],E.pc p dp (v.st),Mp eU32 (.map (some lm)) (List.map kvU (v.l)),TxsU TPS (v.l),Mp eU32 (.map (some bm)) (List.map kvB (v.bs)),Bnds 45 (v.bs)]) (fun S h=>⟨(p,lm,bm),h⟩) ?_
      exact PO.fin Tryz.results10 (Zd' Ze') hK
     ·have hd:(n != 0 && (Zr' v.l n).isNone)=false:=by cases e:Zr' v.l n with
       | none=>rw [e] at h5;cases h5
       | some t=>rw [h4];rfl
      refine WP.skip<|PO.next<|WP.seq<|WP.seq<|WP.reg<|WL.e Za'<|WL.e Zj'<|WL.e (e_fa Qx')<|WL.e (Zc' a79) ?_
      refine WL.h (Xc' (kvs:=List.map kvB v.bs) Tryz.underlying79 fun it=>?_)
      refine WL.next<|WP.block<|WP.loopK (fun (x:List BndV × Option (UInt32 × Value))=>[]) (fun (x:List BndV × Option (UInt32 × Value))=>MpIt eU32 (.map (some bm)) it (List.map kvB v.bs) (List.map kvB x.1) (x.2)::cl sp 81 [.iface E.T (.pointer (some ⟨p,0,none⟩)),.map (some lm),.map (some bm)]::E.pc p dp (v.st)::Mp eU32 (.map (some lm)) (List.map kvU (v.l))::TxsU TPS (v.l)::Bnds 45 (v.bs)::A::R) [(0,_),(1,_),(2,_),(3,_),(42,_)] (fun (x:List BndV × Option (UInt32 × Value))=>x.1.any (fun b:BndV=>b.g != gg && Z1' b.sp l)=v.bs.any (fun b:BndV=>b.g != gg && Z1' b.sp l)∧∀ y ∈ x.1,y ∈ v.bs) (fun (x:List BndV × Option (UInt32 × Value))=>x.1.length) (v.bs,none) (⟨rfl,fun _ h=>h⟩) ?_
      rintro ⟨left,cur⟩ ⟨hx1,hx2⟩
      simp only at hx1 hx2
      dsimp only
      refine WP.seq<|WP.reg ?_
      refine WL.h (XA' (fun h0=>?_) (fun a y0 b hx=>?_))
      ·have hl0:left=[]:=by simpa using h0
       subst hl0
       have h1b:v.bs.any (fun b:BndV=>b.g != gg && Z1' b.sp l)=false:=by rw [← hx1];rfl
       clear hx1 hx2 h0
       refine WL.e Zf'<|WL.next<|WP.seq<|WP.cond_f rfl<|WP.exit<|PO.past nofun<|PO.round nofun<|PO.blockX<|PO.next<|WP.seq<|WP.seq<|WP.reg<|WL.e Za'<|WL.e Zj'<|WL.e (e_fa Q4')<|WL.e (Zc' a78) ?_
       refine WL.h (Xc' (kvs:=List.map kvU v.l) Tryz.underlying78 fun it2=>?_)
       refine WL.next<|WP.block<|WP.loopK (fun (x:List (TxU UInt32 SiX) × Option (UInt32 × Value))=>[]) (fun (x:List (TxU UInt32 SiX) × Option (UInt32 × Value))=>MpIt eU32 (.map (some lm)) it2 (List.map kvU v.l) (List.map kvU x.1) (x.2)::cl sp 81 [.iface E.T (.pointer (some ⟨p,0,none⟩)),.map (some lm),.map (some bm)]::E.pc p dp (v.st)::TxsU TPS (v.l)::Mp eU32 (.map (some bm)) (List.map kvB (v.bs))::Bnds 45 (v.bs)::A::R) [(0,_),(1,_),(2,_),(3,_),(61,_)] (fun (x:List (TxU UInt32 SiX) × Option (UInt32 × Value))=>x.1.any (fun t:TxU UInt32 SiX=>t.id != n && Z1' t.x.sp l)=v.l.any (fun t:TxU UInt32 SiX=>t.id != n && Z1' t.x.sp l)∧∀ y ∈ x.1,y ∈ v.l) (fun (x:List (TxU UInt32 SiX) × Option (UInt32 × Value))=>x.1.length) (v.l,none) (⟨rfl,fun _ h=>h⟩) ?_
       rintro ⟨left,cur⟩ ⟨hx1,hx2⟩
       simp only at hx1 hx2
       dsimp only
       refine WP.seq<|WP.reg ?_
       refine WL.h (XA' (fun h0=>?_) (fun a y0 b hx=>?_))
       ·have hl0:left=[]:=by simpa using h0
        subst hl0
        have h2b:v.l.any (fun t:TxU UInt32 SiX=>t.id != n && Z1' t.x.sp l)=false:=by rw [← hx1];rfl
        refine WL.e Zf'<|WL.next<|WP.seq<|WP.cond_f rfl<|WP.exit<|PO.past nofun<|PO.round nofun<|PO.blockX<|PO.next<|WP.seq<|WP.draws Zp' 10<|RW.e 0 rfl Za'<|RW.e 1 rfl Zj'<|RW.e 2 rfl (e_fa Qx')<|RW.e 3 rfl (Zc' a79)<|RW.e 4 rfl Za'<|RW.e 5 rfl Za'<|RW.e 6 rfl Za' ?_
        refine RW.any (is:=[7]) rfl ⟨?_,trivial⟩
        refine RWat.h rfl rfl rfl ?_
        refine (Zg' (Zbb_ hA (by omega)) k32 ?_)
        intro a9 m9 c9
        refine ⟨⟨⟨_,rfl,.inl ⟨rfl,Za'⟩⟩,⟨_,rfl,.inl ⟨rfl,Za'⟩⟩,⟨_,rfl,.inl ⟨rfl,(Zc' a79)⟩⟩,⟨_,rfl,.inl ⟨rfl,(e_fa Qx')⟩⟩,⟨_,rfl,.inl ⟨rfl,Zj'⟩⟩,⟨_,rfl,.inl ⟨rfl,Za'⟩⟩,trivial⟩,?_⟩
        refine RW.e 8 rfl (Zu' z89 p89 (.o (.tmp 83) rfl<|.o (.tmp 85) rfl<|.n)) ?_
        refine RW.any (is:=[9]) rfl ⟨?_,trivial⟩
        refine RWat.h' rfl rfl rfl ?_
        refine (YJ' (k:=gg) (kvs:=List.map kvB v.bs) Tryz.underlying79 (ZQ' Tryz.underlying24) ?_)
        rw [show mset (List.map kvB v.bs) gg (.agg #[.int .u32 n.toNat,.slice a9 m9 c9])=List.map kvB (setB v.bs ⟨gg,n,⟨a9,m9,c9⟩,l⟩) from Zfh_ v.bs ⟨gg,n,⟨a9,m9,c9⟩,l⟩]
        refine ⟨trivial,?_⟩
        refine RW.done<|PO.next<|WP.seq<|WP.reg<|WL.e Zb'<|WL.next<|WP.ret<|PO.cls (A:=Bnds 45 (setB v.bs ⟨gg,n,⟨a9,m9,c9⟩,l⟩)) (B:=[Sl 45 2 SpanM.c (.slice a9 m9 c9) l,Bnds 45 v.bs]) (fun S h=>Zfl_ (b:=⟨gg,n,⟨a9,m9,c9⟩,l⟩) S h) ?_
        have hE:Yt' v n gg l=0:=by unfold Yt';rw [if_neg (by rw [hc];decide),if_neg (by rw [hd];decide),if_neg (by rw [h1b];decide),if_neg (by rw [h2b];decide)]
        have hK:=hK ⟨a9,m9,c9⟩
        rw [YC',hE,if_pos rfl] at hK
        refine PO.cls (A:=Si E sp dp ({ v with bs:=setB v.bs ⟨gg,n,⟨a9,m9,c9⟩,l⟩ })) (B:=[cl sp 81 [.iface E.T (.pointer (some ⟨p,0,none⟩)),.map (some lm),.map (some bm)],E.pc p dp (v.st),Mp eU32 (.map (some lm)) (List.map kvU (v.l)),TxsU TPS (v.l),Mp eU32 (.map (some bm)) (List.map kvB (setB v.bs ⟨gg,n,⟨a9,m9,c9⟩,l⟩)),Bnds 45 (setB v.bs ⟨gg,n,⟨a9,m9,c9⟩,l⟩)]) (fun S h=>⟨(p,lm,bm),h⟩) ?_
        exact PO.fin Tryz.results10 (Zd' Ze') hK
       ·obtain ⟨A1,y,B1,hl,rfl,rfl,rfl⟩:=Xd' hx
        have hy:=hx2 y (by rw [hl];simp)
        obtain ⟨A2,B2,hAB⟩:=List.append_of_mem hy
        refine WL.opn (Y2' (TP:=TPS) hAB) fun _=>?_
        refine WL.opn (Qh' (t:=y)) fun y2=>?_
        try dsimp only
        refine WL.e Zf'<|WL.next<|WP.seq<|WP.cond_t rfl<|WP.skip<|PO.next<|WP.block<|WP.seq<|WP.reg<|WL.e Y4'<|WL.e Zf'<|WL.e Zf'<|WL.e Zb'<|WL.e Zb'<|WL.next<|WP.seq<|WP.reg<|WL.e Za'<|WL.e Za'<|WL.e (XM')<|WL.e Za' ?_
        refine WL.bool 70 rfl (fun h8=>?_) (fun h8=>?_)
        ·replace h8:(y.id != n)=true:=h8
         refine WL.e Za'<|WL.e Zj'<|WL.e (e_fa JR')<|WL.e (Zc' a22)<|WL.e Za' ?_
         refine WL.h (Zg' (Qy' (Zs' (xs:=y.x.sp)) hA (by have:=hs.lens y hy;have:=M.okBB hs.ok;omega) (by omega)) k31 ?_)
         refine WL.e Zm'<|WL.next ?_
         refine WP.cond rfl (fun h9=>?_) (fun h9=>?_)
         ·replace h9:Z1' y.x.sp l=true:=h9
          have h2b:v.l.any (fun t:TxU UInt32 SiX=>t.id != n && Z1' t.x.sp l)=true:=by rw [← hx1,hl,Xm',show (y.id != n && Z1' y.x.sp l)=true by rw [h8,h9];rfl];rfl
          refine WP.seq<|WP.reg<|WL.e Zb'<|WL.next<|WP.ret<|PO.blockR<|PO.round nofun<|PO.blockR<|PO.past nofun ?_
          have hE:Yt' v n gg l=11:=by unfold Yt';rw [if_neg (by rw [hc];decide),if_neg (by rw [hd];decide),if_neg (by rw [h1b];decide),if_pos h2b]
          have hK:=hK ⟨none,0,0⟩
          rw [YC',hE,if_neg (by decide)] at hK
          refine PO.cls (A:=SiX_ y) (B:=[cl y.q 84 [.bool y.x.loc,y2.v],Sl 45 2 SpanM.c y2.v y.x.sp]) (fun S h=>⟨y2,h⟩) ?_
          refine PO.cls (A:=TxsU TPS v.l) (B:=[SiX_ y,TxsU TPS (A2++B2)]) (fun S h=>hAB ▸ Ya' (TP:=TPS) (t:=y) S h) ?_
          refine PO.conv (YG' (A:=MpIt eU32 (.map (some lm)) it2 (List.map kvU v.l) _ _) (B:=Mp eU32 (.map (some lm)) (List.map kvU v.l)) Jl' (by repeat first | exact .z | apply Put.s)) ?_
          refine PO.cls (A:=Si E sp dp (v)) (B:=[cl sp 81 [.iface E.T (.pointer (some ⟨p,0,none⟩)),.map (some lm),.map (some bm)],E.pc p dp (v.st),Mp eU32 (.map (some lm)) (List.map kvU (v.l)),TxsU TPS (v.l),Mp eU32 (.map (some bm)) (List.map kvB (v.bs)),Bnds 45 (v.bs)]) (fun S h=>⟨(p,lm,bm),h⟩) ?_
          exact PO.fin Tryz.results10 (Zd' Ze') hK
         ·replace h9:Z1' y.x.sp l=false:=h9
          refine WP.skip<|PO.blockN<|PO.cls (A:=SiX_ y) (B:=[cl y.q 84 [.bool y.x.loc,y2.v],Sl 45 2 SpanM.c y2.v y.x.sp]) (fun S h=>⟨y2,h⟩) ?_
          refine PO.cls (A:=TxsU TPS v.l) (B:=[SiX_ y,TxsU TPS (A2++B2)]) (fun S h=>hAB ▸ Ya' (TP:=TPS) (t:=y) S h) ?_
          rw [← List.map_append]
          exact PO.againK (A1++B1,_) ⟨by simp only;rw [← hx1,hl,Xm',show (y.id != n && Z1' y.x.sp l)=false by rw [h8,h9];rfl];rfl,fun t ht=>hx2 t (by rw [hl];rcases List.mem_append.1 ht with h | h <;> simp [h])⟩ (by simp only [hl,List.length_append,List.length_cons];omega)
        ·replace h8:(y.id != n)=false:=h8
         refine WL.skip<|WL.skip<|WL.skip<|WL.skip<|WL.skip<|WL.skip<|WL.e Zl'<|WL.next<|WP.cond_f rfl<|WP.skip<|PO.blockN<|PO.cls (A:=SiX_ y) (B:=[cl y.q 84 [.bool y.x.loc,y2.v],Sl 45 2 SpanM.c y2.v y.x.sp]) (fun S h=>⟨y2,h⟩) ?_
         refine PO.cls (A:=TxsU TPS v.l) (B:=[SiX_ y,TxsU TPS (A2++B2)]) (fun S h=>hAB ▸ Ya' (TP:=TPS) (t:=y) S h) ?_
         rw [← List.map_append]
         exact PO.againK (A1++B1,_) ⟨by simp only;rw [← hx1,hl,Xm',show (y.id != n && Z1' y.x.sp l)=false by rw [h8];rfl];rfl,fun t ht=>hx2 t (by rw [hl];rcases List.mem_append.1 ht with h | h <;> simp [h])⟩ (by simp only [hl,List.length_append,List.length_cons];omega)
      ·obtain ⟨A1,y,B1,hl,rfl,rfl,rfl⟩:=Xd' hx
       have hy:=hx2 y (by rw [hl];simp)
       obtain ⟨A2,B2,hAB⟩:=List.append_of_mem hy
       refine WL.opn (Zby_ (E:=45) hAB) fun _=>?_
       refine WL.e Zf'<|WL.next<|WP.seq<|WP.cond_t rfl<|WP.skip<|PO.next<|WP.block<|WP.seq<|WP.reg<|WL.e Y4'<|WL.e Zf'<|WL.e Zf' ?_
       refine WL.h (Zw' z89 fun b1=>?_)
       refine WL.e Zb' ?_
       refine WL.h' (Zk' s89 ?_)
       refine WL.next<|WP.seq<|WP.reg<|WL.e Za'<|WL.e Za'<|WL.e (XM')<|WL.e Za' ?_
       refine WL.bool 51 rfl (fun h6=>?_) (fun h6=>?_)
       ·replace h6:(y.g != gg)=true:=h6
        refine WL.e (e_fa Zib_)<|WL.e (Zc' a22)<|WL.e Za' ?_
        refine WL.h (Zg' (Qy' (Zs' (xs:=y.sp)) hA (hs.bsp y hy) (by omega)) k31 ?_)
        refine WL.e Zm'<|WL.next ?_
        refine WP.cond rfl (fun h7=>?_) (fun h7=>?_)
        ·replace h7:Z1' y.sp l=true:=h7
         have h1b:v.bs.any (fun b:BndV=>b.g != gg && Z1' b.sp l)=true:=by rw [← hx1,hl,Xm',show (y.g != gg && Z1' y.sp l)=true by rw [h6,h7];rfl];rfl
         refine WP.seq<|WP.reg<|WL.e Zb'<|WL.next<|WP.ret<|PO.blockR<|PO.round nofun<|PO.blockR<|PO.past nofun ?_
         have hE:Yt' v n gg l=11:=by unfold Yt';rw [if_neg (by rw [hc];decide),if_neg (by rw [hd];decide),if_pos h1b]
         have hK:=hK ⟨none,0,0⟩
         rw [YC',hE,if_neg (by decide)] at hK
         refine PO.cls (A:=Bnds 45 v.bs) (B:=[Sl 45 2 SpanM.c y.sv.v y.sp,Bnds 45 (A2++B2)]) (fun S h=>hAB ▸ Jo' S h) ?_
         refine PO.conv (YG' (A:=MpIt eU32 (.map (some bm)) it (List.map kvB v.bs) _ _) (B:=Mp eU32 (.map (some bm)) (List.map kvB v.bs)) Jl' (by repeat first | exact .z | apply Put.s)) ?_
         refine PO.cls (A:=Si E sp dp (v)) (B:=[cl sp 81 [.iface E.T (.pointer (some ⟨p,0,none⟩)),.map (some lm),.map (some bm)],E.pc p dp (v.st),Mp eU32 (.map (some lm)) (List.map kvU (v.l)),TxsU TPS (v.l),Mp eU32 (.map (some bm)) (List.map kvB (v.bs)),Bnds 45 (v.bs)]) (fun S h=>⟨(p,lm,bm),h⟩) ?_
         exact PO.fin Tryz.results10 (Zd' Ze') hK
        ·replace h7:Z1' y.sp l=false:=h7
         refine WP.skip<|PO.blockN<|PO.cls (A:=Bnds 45 v.bs) (B:=[Sl 45 2 SpanM.c y.sv.v y.sp,Bnds 45 (A2++B2)]) (fun S h=>hAB ▸ Jo' S h) ?_
         rw [← List.map_append]
         exact PO.againK (A1++B1,_) ⟨by simp only;rw [← hx1,hl,Xm',show (y.g != gg && Z1' y.sp l)=false by rw [h6,h7];rfl];rfl,fun t ht=>hx2 t (by rw [hl];rcases List.mem_append.1 ht with h | h <;> simp [h])⟩ (by simp only [hl,List.length_append,List.length_cons];omega)
       ·replace h6:(y.g != gg)=false:=h6
        refine WL.skip<|WL.skip<|WL.skip<|WL.skip<|WL.e Zl'<|WL.next<|WP.cond_f rfl<|WP.skip<|PO.blockN<|PO.cls (A:=Bnds 45 v.bs) (B:=[Sl 45 2 SpanM.c y.sv.v y.sp,Bnds 45 (A2++B2)]) (fun S h=>hAB ▸ Jo' S h) ?_
        rw [← List.map_append]
        exact PO.againK (A1++B1,_) ⟨by simp only;rw [← hx1,hl,Xm',show (y.g != gg && Z1' y.sp l)=false by rw [h6];rfl];rfl,fun t ht=>hx2 t (by rw [hl];rcases List.mem_append.1 ht with h | h <;> simp [h])⟩ (by simp only [hl,List.length_append,List.length_cons];omega)
    ·replace h4:(n != 0)=false:=h4
     have hd:(n != 0 && (Zr' v.l n).isNone)=false:=by rw [h4];rfl
     refine WL.skip<|WL.skip<|WL.skip<|WL.skip<|WL.skip<|WL.skip<|WL.skip<|WL.e Zl'<|WL.next<|WP.cond_f rfl<|WP.skip<|PO.next<|WP.seq<|WP.seq<|WP.reg<|WL.e Za'<|WL.e Zj'<|WL.e (e_fa Qx')<|WL.e (Zc' a79) ?_
     refine WL.h (Xc' (kvs:=List.map kvB v.bs) Tryz.underlying79 fun it=>?_)
     refine WL.next<|WP.block<|WP.loopK (fun (x:List BndV × Option (UInt32 × Value))=>[]) (fun (x:List BndV × Option (UInt32 × Value))=>MpIt eU32 (.map (some bm)) it (List.map kvB v.bs) (List.map kvB x.1) (x.2)::cl sp 81 [.iface E.T (.pointer (some ⟨p,0,none⟩)),.map (some lm),.map (some bm)]::E.pc p dp (v.st)::Mp eU32 (.map (some lm)) (List.map kvU (v.l))::TxsU TPS (v.l)::Bnds 45 (v.bs)::A::R) [(0,_),(1,_),(2,_),(3,_),(42,_)] (fun (x:List BndV × Option (UInt32 × Value))=>x.1.any (fun b:BndV=>b.g != gg && Z1' b.sp l)=v.bs.any (fun b:BndV=>b.g != gg && Z1' b.sp l)∧∀ y ∈ x.1,y ∈ v.bs) (fun (x:List BndV × Option (UInt32 × Value))=>x.1.length) (v.bs,none) (⟨rfl,fun _ h=>h⟩) ?_
     rintro ⟨left,cur⟩ ⟨hx1,hx2⟩
     simp only at hx1 hx2
     dsimp only
     refine WP.seq<|WP.reg ?_
     refine WL.h (XA' (fun h0=>?_) (fun a y0 b hx=>?_))
     ·have hl0:left=[]:=by simpa using h0
      subst hl0
      have h1b:v.bs.any (fun b:BndV=>b.g != gg && Z1' b.sp l)=false:=by rw [← hx1];rfl
      clear hx1 hx2 h0
      refine WL.e Zf'<|WL.next<|WP.seq<|WP.cond_f rfl<|WP.exit<|PO.past nofun<|PO.round nofun<|PO.blockX<|PO.next<|WP.seq<|WP.seq<|WP.reg<|WL.e Za'<|WL.e Zj'<|WL.e (e_fa Q4')<|WL.e (Zc' a78) ?_
      refine WL.h (Xc' (kvs:=List.map kvU v.l) Tryz.underlying78 fun it2=>?_)
      refine WL.next<|WP.block<|WP.loopK (fun (x:List (TxU UInt32 SiX) × Option (UInt32 × Value))=>[]) (fun (x:List (TxU UInt32 SiX) × Option (UInt32 × Value))=>MpIt eU32 (.map (some lm)) it2 (List.map kvU v.l) (List.map kvU x.1) (x.2)::cl sp 81 [.iface E.T (.pointer (some ⟨p,0,none⟩)),.map (some lm),.map (some bm)]::E.pc p dp (v.st)::TxsU TPS (v.l)::Mp eU32 (.map (some bm)) (List.map kvB (v.bs))::Bnds 45 (v.bs)::A::R) [(0,_),(1,_),(2,_),(3,_),(61,_)] (fun (x:List (TxU UInt32 SiX) × Option (UInt32 × Value))=>x.1.any (fun t:TxU UInt32 SiX=>t.id != n && Z1' t.x.sp l)=v.l.any (fun t:TxU UInt32 SiX=>t.id != n && Z1' t.x.sp l)∧∀ y ∈ x.1,y ∈ v.l) (fun (x:List (TxU UInt32 SiX) × Option (UInt32 × Value))=>x.1.length) (v.l,none) (⟨rfl,fun _ h=>h⟩) ?_
      rintro ⟨left,cur⟩ ⟨hx1,hx2⟩
      simp only at hx1 hx2
      dsimp only
      refine WP.seq<|WP.reg ?_
      refine WL.h (XA' (fun h0=>?_) (fun a y0 b hx=>?_))
      ·have hl0:left=[]:=by simpa using h0
       subst hl0
       have h2b:v.l.any (fun t:TxU UInt32 SiX=>t.id != n && Z1' t.x.sp l)=false:=by rw [← hx1];rfl
       refine WL.e Zf'<|WL.next<|WP.seq<|WP.cond_f rfl<|WP.exit<|PO.past nofun<|PO.round nofun<|PO.blockX<|PO.next<|WP.seq<|WP.draws Zp' 10<|RW.e 0 rfl Za'<|RW.e 1 rfl Zj'<|RW.e 2 rfl (e_fa Qx')<|RW.e 3 rfl (Zc' a79)<|RW.e 4 rfl Za'<|RW.e 5 rfl Za'<|RW.e 6 rfl Za' ?_
       refine RW.any (is:=[7]) rfl ⟨?_,trivial⟩
       refine RWat.h rfl rfl rfl ?_
       refine (Zg' (Zbb_ hA (by omega)) k32 ?_)
       intro a9 m9 c9
       refine ⟨⟨⟨_,rfl,.inl ⟨rfl,Za'⟩⟩,⟨_,rfl,.inl ⟨rfl,Za'⟩⟩,⟨_,rfl,.inl ⟨rfl,(Zc' a79)⟩⟩,⟨_,rfl,.inl ⟨rfl,(e_fa Qx')⟩⟩,⟨_,rfl,.inl ⟨rfl,Zj'⟩⟩,⟨_,rfl,.inl ⟨rfl,Za'⟩⟩,trivial⟩,?_⟩
       refine RW.e 8 rfl (Zu' z89 p89 (.o (.tmp 83) rfl<|.o (.tmp 85) rfl<|.n)) ?_
       refine RW.any (is:=[9]) rfl ⟨?_,trivial⟩
       refine RWat.h' rfl rfl rfl ?_
       refine (YJ' (k:=gg) (kvs:=List.map kvB v.bs) Tryz.underlying79 (ZQ' Tryz.underlying24) ?_)
       rw [show mset (List.map kvB v.bs) gg (.agg #[.int .u32 n.toNat,.slice a9 m9 c9])=List.map kvB (setB v.bs ⟨gg,n,⟨a9,m9,c9⟩,l⟩) from Zfh_ v.bs ⟨gg,n,⟨a9,m9,c9⟩,l⟩]
       refine ⟨trivial,?_⟩
       refine RW.done<|PO.next<|WP.seq<|WP.reg<|WL.e Zb'<|WL.next<|WP.ret<|PO.cls (A:=Bnds 45 (setB v.bs ⟨gg,n,⟨a9,m9,c9⟩,l⟩)) (B:=[Sl 45 2 SpanM.c (.slice a9 m9 c9) l,Bnds 45 v.bs]) (fun S h=>Zfl_ (b:=⟨gg,n,⟨a9,m9,c9⟩,l⟩) S h) ?_
       have hE:Yt' v n gg l=0:=by unfold Yt';rw [if_neg (by rw [hc];decide),if_neg (by rw [hd];decide),if_neg (by rw [h1b];decide),if_neg (by rw [h2b];decide)]
       have hK:=hK ⟨a9,m9,c9⟩
       rw [YC',hE,if_pos rfl] at hK
       refine PO.cls (A:=Si E sp dp ({ v with bs:=setB v.bs ⟨gg,n,⟨a9,m9,c9⟩,l⟩ })) (B:=[cl sp 81 [.iface E.T (.pointer (some ⟨p,0,none⟩)),.map (some lm),.map (some bm)],E.pc p dp (v.st),Mp eU32 (.map (some lm)) (List.map kvU (v.l)),TxsU TPS (v.l),Mp eU32 (.map (some bm)) (List.map kvB (setB v.bs ⟨gg,n,⟨a9,m9,c9⟩,l⟩)),Bnds 45 (setB v.bs ⟨gg,n,⟨a9,m9,c9⟩,l⟩)]) (fun S h=>⟨(p,lm,bm),h⟩) ?_
       exact PO.fin Tryz.results10 (Zd' Ze') hK
      ·obtain ⟨A1,y,B1,hl,rfl,rfl,rfl⟩:=Xd' hx
       have hy:=hx2 y (by rw [hl];simp)
       obtain ⟨A2,B2,hAB⟩:=List.append_of_mem hy
       refine WL.opn (Y2' (TP:=TPS) hAB) fun _=>?_
       refine WL.opn (Qh' (t:=y)) fun y2=>?_
       try dsimp only
       refine WL.e Zf'<|WL.next<|WP.seq<|WP.cond_t rfl<|WP.skip<|PO.next<|WP.block<|WP.seq<|WP.reg<|WL.e Y4'<|WL.e Zf'<|WL.e Zf'<|WL.e Zb'<|WL.e Zb'<|WL.next<|WP.seq<|WP.reg<|WL.e Za'<|WL.e Za'<|WL.e (XM')<|WL.e Za' ?_
       refine WL.bool 70 rfl (fun h8=>?_) (fun h8=>?_)
       ·replace h8:(y.id != n)=true:=h8
        refine WL.e Za'<|WL.e Zj'<|WL.e (e_fa JR')<|WL.e (Zc' a22)<|WL.e Za' ?_
        refine WL.h (Zg' (Qy' (Zs' (xs:=y.x.sp)) hA (by have:=hs.lens y hy;have:=M.okBB hs.ok;omega) (by omega)) k31 ?_)
        refine WL.e Zm'<|WL.next ?_
        refine WP.cond rfl (fun h9=>?_) (fun h9=>?_)
        ·replace h9:Z1' y.x.sp l=true:=h9
         have h2b:v.l.any (fun t:TxU UInt32 SiX=>t.id != n && Z1' t.x.sp l)=true:=by rw [← hx1,hl,Xm',show (y.id != n && Z1' y.x.sp l)=true by rw [h8,h9];rfl];rfl
         refine WP.seq<|WP.reg<|WL.e Zb'<|WL.next<|WP.ret<|PO.blockR<|PO.round nofun<|PO.blockR<|PO.past nofun ?_
         have hE:Yt' v n gg l=11:=by unfold Yt';rw [if_neg (by rw [hc];decide),if_neg (by rw [hd];decide),if_neg (by rw [h1b];decide),if_pos h2b]
         have hK:=hK ⟨none,0,0⟩
         rw [YC',hE,if_neg (by decide)] at hK
         refine PO.cls (A:=SiX_ y) (B:=[cl y.q 84 [.bool y.x.loc,y2.v],Sl 45 2 SpanM.c y2.v y.x.sp]) (fun S h=>⟨y2,h⟩) ?_
         refine PO.cls (A:=TxsU TPS v.l) (B:=[SiX_ y,TxsU TPS (A2++B2)]) (fun S h=>hAB ▸ Ya' (TP:=TPS) (t:=y) S h) ?_
         refine PO.conv (YG' (A:=MpIt eU32 (.map (some lm)) it2 (List.map kvU v.l) _ _) (B:=Mp eU32 (.map (some lm)) (List.map kvU v.l)) Jl' (by repeat first | exact .z | apply Put.s)) ?_
         refine PO.cls (A:=Si E sp dp (v)) (B:=[cl sp 81 [.iface E.T (.pointer (some ⟨p,0,none⟩)),.map (some lm),.map (some bm)],E.pc p dp (v.st),Mp eU32 (.map (some lm)) (List.map kvU (v.l)),TxsU TPS (v.l),Mp eU32 (.map (some bm)) (List.map kvB (v.bs)),Bnds 45 (v.bs)]) (fun S h=>⟨(p,lm,bm),h⟩) ?_
         exact PO.fin Tryz.results10 (Zd' Ze') hK
        ·replace h9:Z1' y.x.sp l=false:=h9
         refine WP.skip<|PO.blockN<|PO.cls (A:=SiX_ y) (B:=[cl y.q 84 [.bool y.x.loc,y2.v],Sl 45 2 SpanM.c y2.v y.x.sp]) (fun S h=>⟨y2,h⟩) ?_
         refine PO.cls (A:=TxsU TPS v.l) (B:=[SiX_ y,TxsU TPS (A2++B2)]) (fun S h=>hAB ▸ Ya' (TP:=TPS) (t:=y) S h) ?_
         rw [← List.map_append]
         exact PO.againK (A1++B1,_) ⟨by simp only;rw [← hx1,hl,Xm',show (y.id != n && Z1' y.x.sp l)=false by rw [h8,h9];rfl];rfl,fun t ht=>hx2 t (by rw [hl];rcases List.mem_append.1 ht with h | h <;> simp [h])⟩ (by simp only [hl,List.length_append,List.length_cons];omega)
       ·replace h8:(y.id != n)=false:=h8
        refine WL.skip<|WL.skip<|WL.skip<|WL.skip<|WL.skip<|WL.skip<|WL.e Zl'<|WL.next<|WP.cond_f rfl<|WP.skip<|PO.blockN<|PO.cls (A:=SiX_ y) (B:=[cl y.q 84 [.bool y.x.loc,y2.v],Sl 45 2 SpanM.c y2.v y.x.sp]) (fun S h=>⟨y2,h⟩) ?_
        refine PO.cls (A:=TxsU TPS v.l) (B:=[SiX_ y,TxsU TPS (A2++B2)]) (fun S h=>hAB ▸ Ya' (TP:=TPS) (t:=y) S h) ?_
        rw [← List.map_append]
        exact PO.againK (A1++B1,_) ⟨by simp only;rw [← hx1,hl,Xm',show (y.id != n && Z1' y.x.sp l)=false by rw [h8];rfl];rfl,fun t ht=>hx2 t (by rw [hl];rcases List.mem_append.1 ht with h | h <;> simp [h])⟩ (by simp only [hl,List.length_append,List.length_cons];omega)
     ·obtain ⟨A1,y,B1,hl,rfl,rfl,rfl⟩:=Xd' hx
      have hy:=hx2 y (by rw [hl];simp)
      obtain ⟨A2,B2,hAB⟩:=List.append_of_mem hy
      refine WL.opn (Zby_ (E:=45) hAB) fun _=>?_
      refine WL.e Zf'<|WL.next<|WP.seq<|WP.cond_t rfl<|WP.skip<|PO.next<|WP.block<|WP.seq<|WP.reg<|WL.e Y4'<|WL.e Zf'<|WL.e Zf' ?_
      refine WL.h (Zw' z89 fun b2=>?_)
      refine WL.e Zb' ?_
      refine WL.h' (Zk' s89 ?_)
      refine WL.next<|WP.seq<|WP.reg<|WL.e Za'<|WL.e Za'<|WL.e (XM')<|WL.e Za' ?_
      refine WL.bool 51 rfl (fun h6=>?_) (fun h6=>?_)
      ·replace h6:(y.g != gg)=true:=h6
       refine WL.e (e_fa Zib_)<|WL.e (Zc' a22)<|WL.e Za' ?_
       refine WL.h (Zg' (Qy' (Zs' (xs:=y.sp)) hA (hs.bsp y hy) (by omega)) k31 ?_)
       refine WL.e Zm'<|WL.next ?_
       refine WP.cond rfl (fun h7=>?_) (fun h7=>?_)
       ·replace h7:Z1' y.sp l=true:=h7
        have h1b:v.bs.any (fun b:BndV=>b.g != gg && Z1' b.sp l)=true:=by rw [← hx1,hl,Xm',show (y.g != gg && Z1' y.sp l)=true by rw [h6,h7];rfl];rfl
        refine WP.seq<|WP.reg<|WL.e Zb'<|WL.next<|WP.ret<|PO.blockR<|PO.round nofun<|PO.blockR<|PO.past nofun ?_
        have hE:Yt' v n gg l=11:=by unfold Yt';rw [if_neg (by rw [hc];decide),if_neg (by rw [hd];decide),if_pos h1b]
        have hK:=hK ⟨none,0,0⟩
        rw [YC',hE,if_neg (by decide)] at hK
        refine PO.cls (A:=Bnds 45 v.bs) (B:=[Sl 45 2 SpanM.c y.sv.v y.sp,Bnds 45 (A2++B2)]) (fun S h=>hAB ▸ Jo' S h) ?_
        refine PO.conv (YG' (A:=MpIt eU32 (.map (some bm)) it (List.map kvB v.bs) _ _) (B:=Mp eU32 (.map (some bm)) (List.map kvB v.bs)) Jl' (by repeat first | exact .z | apply Put.s)) ?_
        refine PO.cls (A:=Si E sp dp (v)) (B:=[cl sp 81 [.iface E.T (.pointer (some ⟨p,0,none⟩)),.map (some lm),.map (some bm)],E.pc p dp (v.st),Mp eU32 (.map (some lm)) (List.map kvU (v.l)),TxsU TPS (v.l),Mp eU32 (.map (some bm)) (List.map kvB (v.bs)),Bnds 45 (v.bs)]) (fun S h=>⟨(p,lm,bm),h⟩) ?_
        exact PO.fin Tryz.results10 (Zd' Ze') hK
       ·replace h7:Z1' y.sp l=false:=h7
        refine WP.skip<|PO.blockN<|PO.cls (A:=Bnds 45 v.bs) (B:=[Sl 45 2 SpanM.c y.sv.v y.sp,Bnds 45 (A2++B2)]) (fun S h=>hAB ▸ Jo' S h) ?_
        rw [← List.map_append]
        exact PO.againK (A1++B1,_) ⟨by simp only;rw [← hx1,hl,Xm',show (y.g != gg && Z1' y.sp l)=false by rw [h6,h7];rfl];rfl,fun t ht=>hx2 t (by rw [hl];rcases List.mem_append.1 ht with h | h <;> simp [h])⟩ (by simp only [hl,List.length_append,List.length_cons];omega)
      ·replace h6:(y.g != gg)=false:=h6
       refine WL.skip<|WL.skip<|WL.skip<|WL.skip<|WL.e Zl'<|WL.next<|WP.cond_f rfl<|WP.skip<|PO.blockN<|PO.cls (A:=Bnds 45 v.bs) (B:=[Sl 45 2 SpanM.c y.sv.v y.sp,Bnds 45 (A2++B2)]) (fun S h=>hAB ▸ Jo' S h) ?_
       rw [← List.map_append]
       exact PO.againK (A1++B1,_) ⟨by simp only;rw [← hx1,hl,Xm',show (y.g != gg && Z1' y.sp l)=false by rw [h6];rfl];rfl,fun t ht=>hx2 t (by rw [hl];rcases List.mem_append.1 ht with h | h <;> simp [h])⟩ (by simp only [hl,List.length_append,List.length_cons];omega)
def bidC (b:BndV):List Value:=u32C b.g
theorem bidE:EncOk 1 bidC:=⟨fun _=>rfl,fun _=>rfl⟩
theorem Zf5_ {g:World} {m:Nat}:Spec Tryz.prog g 35 [.map (some m)] [] fun K R=>∀ b,K (.func (.func 51) #[] #[.pointer (some ⟨b,0,none⟩)]) (cl b 79 [.map (some m)]::R):=by
 refine Spec.intro Tryz.func35 rfl Tryz.ntmps35 rfl fun R K hK=>?_
 refine WP.seq<|WP.reg ?_
 refine WL.h (ZL' fun b1=>?_)
 refine WL.e Zb'<|WL.next<|WP.seq<|WP.reg<|WL.e Yh'<|WL.e Zb'<|WL.next<|WP.ret ?_
 exact PO.fin Tryz.results35 (Zd' Ze') (hK b1)
theorem Zf6_ {g:World} {b m:Nat} {ts:List (BndV)}:Iter Tryz.prog g 51 (fun y=>[]++[y]++[.pointer (some ⟨b,0,none⟩)]) [cl b 79 [.map (some m)],Mp eU32 (.map (some m)) (List.map kvB ts)] bidC (fun _=>pu True) (fun xs=>xs.Perm ts) (fun pre=>∃ r,(pre++r).Perm ts) [cl b 79 [.map (some m)],Mp eU32 (.map (some m)) (List.map kvB ts)]:=by
 intro y J X cont hy
 refine Spec.intro Tryz.func51 rfl Tryz.ntmps51 rfl fun R K hK=>?_
 refine WP.seq<|WP.reg<|WL.e (Zc' a79) ?_
 refine WL.h (Xc' (kvs:=List.map kvB ts) Tryz.underlying79 fun it=>?_)
 refine WL.next<|WP.block<|WP.loopK (fun (x:List (BndV) × List (BndV) × Option (UInt32 × Value))=>[]) (fun (x:List (BndV) × List (BndV) × Option (UInt32 × Value))=>J x.2.1::MpIt eU32 (.map (some m)) it (List.map kvB ts) (List.map kvB x.1) x.2.2::cl b 79 [.map (some m)]::R) [(0,_),(5,_)] (fun (x:List (BndV) × List (BndV) × Option (UInt32 × Value))=>(x.2.1++x.1).Perm ts∧Hist cont x.2.1) (fun (x:List (BndV) × List (BndV) × Option (UInt32 × Value))=>x.1.length) (ts,[],none) (⟨.refl _,Hist.nil⟩) ?_
 rintro ⟨left,pre,cur⟩ ⟨hx1,hx2⟩
 simp only at hx1 hx2
 dsimp only
 refine WP.seq<|WP.reg ?_
 refine WL.h (XA' (fun h0=>?_) (fun a y0 b0 hx=>?_))
 ·have hl0:left=[]:=by simpa using h0
  subst hl0
  refine WL.e Zf'<|WL.next<|WP.seq<|WP.cond_f rfl<|WP.exit<|PO.past nofun<|PO.round nofun<|PO.blockX ?_
  exact PO.fin Tryz.results51 Ze' (hK.1 pre (by simpa using hx1) hx2)
 ·obtain ⟨A1,y,B1,hl,rfl,rfl,rfl⟩:=Xd' hx
  have hpp:(pre++([y]++(A1++B1))).Perm ts:=by refine List.Perm.trans ?_ hx1;rw [hl];exact List.Perm.append_left _ (List.perm_middle (a:=y) (l₁:=A1) (l₂:=B1)).symm
  refine WL.e Zf'<|WL.next<|WP.seq<|WP.cond_t rfl<|WP.skip<|PO.next<|WP.block<|WP.seq<|WP.reg<|WL.e Y4'<|WL.e Zf'<|WL.e Zb'<|WL.next<|WP.seq<|WP.reg<|WL.e Za'<|WL.e Za' ?_
  refine WL.h (HO.conv (fun S h=>Yj' trivial h) (YE' (hy pre y ⟨_,by rw [List.append_assoc];exact hpp⟩ hx2) ?_))
  refine ⟨fun hc=>?_,fun hc=>?_⟩
  ·skip
   refine WL.e ZC'<|WL.next<|WP.cond_f rfl<|WP.skip<|PO.blockN ?_
   rw [← List.map_append]
   exact PO.againK (A1++B1,pre++[y],_) ⟨by simp only;rw [List.append_assoc];exact hpp,hx2.snoc hc⟩ (by simp only [hl,List.length_append,List.length_cons];omega)
  ·skip
   refine WL.e ZC'<|WL.next<|WP.cond_t rfl<|WP.ret<|PO.blockR<|PO.round nofun<|PO.blockR<|PO.conv (YG' (A:=MpIt eU32 (.map (some m)) it (List.map kvB ts) _ _) (B:=Mp eU32 (.map (some m)) (List.map kvB ts)) Jl' (by repeat first | exact .z | apply Put.s)) ?_
   exact PO.fin Tryz.results51 Ze' (hK.2 pre y ⟨_,by rw [List.append_assoc];exact hpp⟩ hx2 hc)
def SBKJ (b:Nat) (pre:List (BndV)):HP:=fun S=>∃ sv:SV,Zn' [cl b 36 [sv.v],Sl 24 1 bidC sv.v pre] S
theorem Zkc_ {g:World} {b m:Nat} {ts:List (BndV)} (hn:ts.length≤68719476736):Spec Tryz.prog g 65 [.slice none 0 0,.func (.func 51) #[] #[.pointer (some ⟨b,0,none⟩)]] [cl b 79 [.map (some m)],Mp eU32 (.map (some m)) (List.map kvB ts)] fun K R=>∀ a n c xs,xs.Perm ts→K (.slice a n c) (Sl 24 1 bidC (.slice a n c) xs::cl b 79 [.map (some m)]::Mp eU32 (.map (some m)) (List.map kvB ts)::R):=by
 refine Spec.intro Tryz.func65 rfl Tryz.ntmps65 rfl fun R K hK=>?_
 refine WP.seq<|WP.reg ?_
 refine WL.h (ZL' fun b1=>?_)
 refine WL.e Zb'<|WL.next<|WP.seq<|WP.seq<|WP.reg<|WL.e Za'<|WL.next<|WP.block<|WP.nils 24 1 bidC none ?_
 refine WP.cls (A:=SBKJ b1 []) (B:=[cl b1 36 [.slice none 0 0],Sl 24 1 bidC (.slice none 0 0) ([])]) (fun S h=>⟨⟨none,0,0⟩,h⟩) ?_
 refine WP.range (R:=?RR) (f:=51) (fs:=[]) (cs:=[.pointer (some ⟨b,0,none⟩)]) (SBKJ b1) (fun _ _ _=>pu True) (fun _ _=>True) (Zf6_ (b:=b) (m:=m) (ts:=ts)) k51 ?hLL ?_ ?_ ?_ (fun _=>rfl)
 case hLL=>repeat first | exact .nil | exact Pick.z | apply Pick.s | apply Split.cons
 ·rintro lb db fn tmps pre x R2 hp hh
  refine WP.opn (B:=fun sv:SV=>[cl b1 36 [sv.v],Sl 24 1 bidC (sv.v) (pre)]) (fun _ h=>h) fun sv=>?_
  have hlen:pre.length+1≤68719476736:=by obtain ⟨r,hr⟩:=hp;have:=hr.length_eq;simp only [List.length_append,List.length_cons,List.length_nil] at this;omega
  refine WP.reg<|WL.e Zb'<|WL.nil<|PO.asg rfl (by repeat first | exact .z | apply Put.s)<|WP.block<|WP.reg<|WL.e (Zc' a36)<|WL.e Za' ?_
  refine WL.h (h_bs sl36 z24 (.o (.tmp 9) rfl<|.n) fun b2=>?_)
  refine WL.h (ZE' (xs:=pre) (ys:=[x]) sl36 bidE z24 (Z4' bidE [x] rfl) (by simp;omega) (fun a5 n5 c5=>?_))
  refine WL.h' (Zk' s36 ?_)
  refine WL.nil<|PO.blockN<|PO.cls (A:=SBKJ b1 (pre++[x])) (B:=[cl b1 36 [.slice a5 n5 c5],Sl 24 1 bidC (.slice a5 n5 c5) (pre++[x])]) (fun S h=>⟨⟨a5,n5,c5⟩,h⟩) ?_
  exact PO.rnd trivial (by repeat first | exact .refl | exact Pick.z | apply Pick.s | apply Sub.cons | apply Sub.drop)
 ·rintro db xs hp hh
  refine PO.opn (B:=fun sv:SV=>[cl b1 36 [sv.v],Sl 24 1 bidC (sv.v) (xs)]) (fun _ h=>h) fun sv=>?_
  obtain ⟨a9,n9,c9⟩:=sv
  refine PO.blockN<|PO.next<|WP.seq<|WP.reg<|WL.e (Zc' a36)<|WL.e Zb'<|WL.next<|WP.ret ?_
  exact PO.finM (by repeat first | exact .z | apply Put.s) Tryz.results65 (Zd' Ze') (hK a9 n9 c9 xs hp)
 ·exact fun _ _ _ _ _ _ hc=>absurd trivial hc
theorem Zkd_ {g:World} {b m:Nat} {ts:List (BndV)} (hn:ts.length≤68719476736):Spec Tryz.prog g 49 [.func (.func 51) #[] #[.pointer (some ⟨b,0,none⟩)]] [cl b 79 [.map (some m)],Mp eU32 (.map (some m)) (List.map kvB ts)] fun K R=>∀ a n c xs,xs.Perm ts→K (.slice a n c) (Sl 24 1 bidC (.slice a n c) xs::cl b 79 [.map (some m)]::Mp eU32 (.map (some m)) (List.map kvB ts)::R):=by
 refine Spec.intro Tryz.func49 rfl Tryz.ntmps49 rfl fun R K hK=>?_
 refine WP.seq<|WP.reg<|WL.e Zb'<|WL.next<|WP.seq<|WP.reg<|WL.e Za' ?_
 refine WL.h (Zg' (Zkc_ hn) k65 ?_)
 intro a n c xs hp
 refine WL.e Zb'<|WL.next<|WP.ret ?_
 exact PO.fin Tryz.results49 (Zd' Ze') (hK a n c xs hp)
theorem ZdC_ {g:World} {b m:Nat} {ts:List BndV} (hn:ts.length≤68719476736):Spec Tryz.prog g 34 [.func (.func 51) #[] #[.pointer (some ⟨b,0,none⟩)]] [cl b 79 [.map (some m)],Mp eU32 (.map (some m)) (List.map kvB ts)] fun K R=>∀ a n c ys,ys.Perm (ts.map (·.g))→K (.slice a n c) (Sl 24 1 u32C (.slice a n c) (ys)::cl b 79 [.map (some m)]::Mp eU32 (.map (some m)) (List.map kvB ts)::R):=by
 refine Spec.intro Tryz.func34 rfl Tryz.ntmps34 rfl fun R K hK=>?_
 refine WP.seq<|WP.reg<|WL.e Zb'<|WL.next<|WP.seq<|WP.reg<|WL.e Za' ?_
 refine WL.h (Zg' (Zkd_ hn) k49 ?_)
 intro a n c xs hp
 refine WL.e Zb'<|WL.next<|WP.seq<|WP.reg<|WL.e Za'<|WL.conv (YG' (A:=Sl 24 1 bidC (.slice a n c) xs) (B:=Sl 24 1 u32C (.slice a n c) (xs.map (·.g))) (fun S h=>Znw_ (enc:=u32C) (f:=fun t:BndV=>t.g) h) (by repeat first | exact .z | apply Put.s)) ?_
 refine WL.h (Zg' (Za9_ (xs.map (·.g)) (by rw [List.length_map,hp.length_eq];exact hn)) k50 ?_)
 intro ys h1 h2
 refine WL.next<|WP.seq<|WP.reg<|WL.e Za'<|WL.e Zb'<|WL.next<|WP.ret ?_
 exact PO.fin Tryz.results34 (Zd' Ze') (hK a n c ys (h1.trans (hp.map _)))
theorem Kr' {g:World} {M:EngM} {E:Eng Tryz.prog g 105 M} {sp dp:Nat} {v:SiteV M.St} (hn:v.bs.length≤68719476736):Spec Tryz.prog g 11 [.pointer (some ⟨sp,0,none⟩)] [Si E sp dp v] fun K R=>∀ a n c ys,ys.Perm (v.bs.map (·.g))→K (.slice a n c) (Sl 24 1 u32C (.slice a n c) (ys)::Si E sp dp v::R):=by
 refine Spec.intro Tryz.func11 rfl Tryz.ntmps11 rfl fun R K hK=>?_
 refine WP.seq<|WP.reg<|WL.e Zb'<|WL.next<|WP.seq<|WP.seq<|WP.reg<|WL.e Za' ?_
 refine WL.h (Zg' (X7') k27 ?_)
 refine WL.e ZC'<|WL.next<|WP.cond_f rfl<|WP.opn (Ky' (E:=E) (sp:=sp) (dp:=dp) (v:=v)) fun x=>?_
 obtain ⟨p,lm,bm⟩:=x
 dsimp only
 refine WP.skip<|PO.next<|WP.seq<|WP.reg<|WL.e Za'<|WL.e Zj'<|WL.e (e_fa Qx')<|WL.e (Zc' a79) ?_
 refine WL.h (Zg' (Zf5_ (m:=bm)) k35 ?_)
 intro b
 refine WL.h (Zg' (ZdC_ (b:=b) (m:=bm) (ts:=v.bs) hn) k34 ?_)
 intro a1 n1 c1 ys h1
 refine WL.h (Zg' (Zif_) k33 ?_)
 intro a2 n2 c2
 refine WL.e Zb'<|WL.next<|WP.ret<|PO.cls (A:=Si E sp dp (v)) (B:=[cl sp 81 [.iface E.T (.pointer (some ⟨p,0,none⟩)),.map (some lm),.map (some bm)],E.pc p dp (v.st),Mp eU32 (.map (some lm)) (List.map kvU (v.l)),TxsU TPS (v.l),Mp eU32 (.map (some bm)) (List.map kvB (v.bs)),Bnds 45 (v.bs)]) (fun S h=>⟨(p,lm,bm),h⟩) ?_
 exact PO.fin Tryz.results11 (Zd' Ze') (hK a2 n2 c2 ys h1)
end Go.SL
set_option linter.unusedSectionVars false
namespace Go.SL
open Go
theorem ZgQ_ {M:EngM} {v:SiteV M.St} {n:UInt32} {x:OpM} {t:TxU UInt32 SiX} {m:Nat} (hf:Zr' v.l n=some t) (hx:opOk x=true) (hm:mayS v.bs n t.x.loc (Zi' x)=m) (h0:m≠0):doSi v n x=.err v m:=by
  unfold doSi;rw [hf];simp only [KO' hx,if_true,hm,h0,if_false,hx]
section
variable {st : StV} {ts : List TxT} {b : Nat} {l : List (TxU UInt32 SiX)} {bs : List BndV}
theorem Zc1_ (h:AtS YB' st ts [] b) (n:UInt32) (loc:Bool) (q q2:Nat) (h0:n≠0) (hf:Zr' ts n=none) (hl:ts.length < 32) (hfl:Zr' l n=none) :
    Yl'.begE st n=0∧∃ st':StV,UL' (M:=Yl') ⟨st,l,bs⟩ n loc q q2=⟨st',l++[⟨n,q2,⟨loc,[]⟩⟩],bs⟩∧AtS YB' st' (ts++[⟨n,q,⟨0,[],[],[]⟩⟩]) [] b:=by
  obtain ⟨e,h2⟩:=h.beg n q h0 hf hl
  have e':Yl'.begE st n=0:=e
  refine ⟨e',begS st n q,?_,h2⟩
  unfold UL'
  rw [if_pos e',Zfi_ hfl];rfl
theorem ZmR_ (h:AtS YB' st ts [] b) {n:UInt32} {t:TxT} (hf:Zr' ts n=some t) {k:ByteArray} (hk:YK' k=true) (v:UInt32) (hb:b≤1000) {u:TxU UInt32 SiX} (hfl:Zr' l n=some u) (hm:mayS bs n u.x.loc (one k)=0) :
    ∃ st':StV,doSi (M:=Yl') ⟨st,l,bs⟩ n (Kc' k v)=.put (fun _=>⟨st',setU l n { u.x with sp:=u.x.sp++[one k] },bs⟩)∧AtS YB' st' (setU ts n { t.x with own:=t.x.own++[⟨k,v,false⟩] }) [] (b+1):=by
  obtain ⟨s',e,h2⟩:=h.put hf hk v hb
  have hx:opOk (Kc' k v)=true:=by rw [ZeE_];exact hk
  have e2:Yl'.doS st n (Kc' k v)=.put fun _=>s':=by show (doB st n (Kc' k v)).e=_;rw [e];rfl
  refine ⟨s',?_,h2⟩
  unfold doSi
  simp only [hfl,KO' hx,if_true,show mayS bs n u.x.loc (Zi' (Kc' k v))=0 from hm,e2]
  rfl
theorem ZgR_ (h:AtS YB' st ts [] b) {n:UInt32} {t:TxT} (hf:Zr' ts n=some t) {k:ByteArray} (hk:YK' k=true) (hb:b≤1000) {u:TxU UInt32 SiX} (hfl:Zr' l n=some u) (hm:mayS bs n u.x.loc (one k)=0) :
    ∃ (st':StV) (r:List RowM),doSi (M:=Yl') ⟨st,l,bs⟩ n (JP' k)=.look ⟨st',setU l n { u.x with sp:=u.x.sp++[one k] },bs⟩ r∧AtS YB' st' (setU ts n { t.x with looked:=t.x.looked++[one k] }) [] (b+1):=by
  obtain ⟨s',e,h2⟩:=h.get hf hk hb
  have hx:opOk (JP' k)=true:=by rw [ZeF_];exact hk
  have e2:Yl'.doS st n (JP' k)=.look s' (ZS' (Zv' (ZH' [] t.x.at_.toNat) t.x.own) (one k) 256):=by show (doB st n (JP' k)).e=_;rw [e];rfl
  refine ⟨s',ZS' (Zv' (ZH' [] t.x.at_.toNat) t.x.own) (one k) 256,?_,h2⟩
  unfold doSi
  simp only [hfl,KO' hx,if_true,show mayS bs n u.x.loc (Zi' (JP' k))=0 from hm,e2]
  rfl
theorem ZmS_ (h:AtS YB' st ts [] b) {n:UInt32} {t:TxT} (hf:Zr' ts n=some t):Yl'.aboE st n=0∧∃ st':StV,ZcB_ (M:=Yl') ⟨st,l,bs⟩ n=⟨st',delU l n,bs⟩∧AtS YB' st' (delU ts n) [] b:=by
  obtain ⟨e,h2⟩:=h.abo hf
  exact ⟨e,aboS YH' st n,rfl,h2⟩
theorem QR' (h:AtS YB' st ts [] b) (hz:∀ t ∈ ts,t.id≠0) (hn:(l.map (·.id)).Nodup) (hs:∀ t ∈ l,t.x.sp.length≤b) (hl:l.length≤b) (hb:bs.length≤b) (hbs:∀ x ∈ bs,x.sp.length≤68719476736):SiOk (M:=Yl') ⟨st,l,bs⟩ b:=
  ⟨⟨h.ok,fun t ht=>hz t (by rw [← h.txs];exact ht)⟩,hn,hs,hl,hb,hbs⟩
theorem Zke_:AtS YB' stF [] [] 10:=⟨YB'.mono Zdt_ (by decide) (by decide),rfl,rfl,Nat.zero_le _⟩
end
def keyT:ByteArray:=⟨#[95,116]⟩
theorem ZmT_:YK' keyT=true:=by
  have h1:sEq keyT ⟨#[]⟩=false:=Zi4_ (by simp [keyT])
  have h2:allR Xl' keyT=true:=by decide +kernel
  simp [YK',h1,h2];decide
theorem Zn9_:mayS [] 1 true (one keyT)=10:=by decide +kernel
theorem Zoa_:mayS [] 1 true (one kA)=0:=by decide +kernel
def bnd9 (sv:SV):BndV:=⟨9,2,sv,[one kA]⟩
theorem Zob_ (sv:SV):mayS [bnd9 sv] 3 true (one kA)=10:=by
  have:anyS (one kA) [one kA]=true:=by decide +kernel
  simp [mayS,Xv',bnd9,this]
theorem Zoc_ (sv:SV):mayS [bnd9 sv] 2 false (one kA)=0:=by simp [mayS,Xv',bnd9]
theorem ZnH_:mayS [] 3 true (one kA)=0:=by decide +kernel
theorem Zl0_:badS 9 [one kA]=false:=by decide +kernel
theorem ZmU_:Z1' [one kA] [one kA]=true:=by decide +kernel
end Go.SL
namespace Go.SL.Fc
open Go Go.Proofs Go.SL
theorem k10:Zh' Tryz.prog 10=true:=by kernel_rfl
theorem k12:Zh' Tryz.prog 12=true:=by kernel_rfl
theorem k15:Zh' Tryz.prog 15=true:=by kernel_rfl
theorem k16:Zh' Tryz.prog 16=true:=by kernel_rfl
theorem k17:Zh' Tryz.prog 17=true:=by kernel_rfl
theorem k25:Zh' Tryz.prog 25=true:=by kernel_rfl
theorem k26:Zh' Tryz.prog 26=true:=by kernel_rfl
theorem k42:Zh' Tryz.prog 42=true:=by kernel_rfl
theorem k43:Zh' Tryz.prog 43=true:=by kernel_rfl
theorem k44:Zh' Tryz.prog 44=true:=by kernel_rfl
theorem k7:Zh' Tryz.prog 7=true:=by kernel_rfl
theorem k9:Zh' Tryz.prog 9=true:=by kernel_rfl
theorem p26:Z9' Tryz.prog 26=some [(0,1),(1,1),(2,1),(3,1)]:=by kernel_rfl
theorem p81:Z9' Tryz.prog 81=some [(0,1),(1,1),(2,1)]:=by kernel_rfl
theorem z26:ZI' Tryz.prog 26=some [.int .u8 0,.string .empty,.string .empty,.int .u32 0]:=by kernel_rfl
theorem z81:ZI' Tryz.prog 81=some [.nilIface,.map none,.map none]:=by kernel_rfl
end Go.SL.Fc
namespace Go.SL
open Go Go.Proofs Fc
theorem Zih_ {g:World} {dp:Nat}:Spec Tryz.prog g 26 [.int .u8 1,.pointer (some ⟨dp,0,none⟩)] [Dk dp (Z7' 4096)] fun K R=>∀ sp,K (.tuple #[.pointer (some ⟨sp,0,none⟩),.int .i64 0]) (Si (QP' (g:=g)) sp dp ⟨Vq'.first,[],[]⟩::R):=by
 refine Spec.intro Tryz.func26 rfl Tryz.ntmps26 rfl fun R K hK=>?_
 refine WP.seq<|WP.reg<|WL.e Zb'<|WL.e Zb'<|WL.next<|WP.seq<|WP.reg<|WL.e Zb'<|WL.next<|WP.seq<|WP.reg<|WL.e Zb'<|WL.next<|WP.seq<|WP.seq<|WP.reg<|WL.e Za'<|WL.next<|WP.block<|WP.seq<|WP.reg<|WL.e ZG'<|WL.e Zb'<|WL.next ?_
 refine WP.cond_t rfl<|WP.reg<|WL.e Za' ?_
 refine WL.h (Zg' (ZjM_ (d:=Z7' 4096) (at0:=0) [] DiskLogB.first (by simp) (by simp)) k42 ?_)
 intro p
 refine WL.e Za'<|WL.e Zf'<|WL.e (Zff_ Tryz.underlying108)<|WL.e Zf'<|WL.e Zb'<|WL.e Zb'<|WL.nil<|PO.blockN<|PO.next<|WP.seq<|WP.seq<|WP.reg<|WL.e Za'<|WL.e Z8'<|WL.next<|WP.cond_f rfl<|WP.skip<|PO.next<|WP.seq<|WP.reg<|WL.e Za' ?_
 refine WL.h (YP' (ek:=eU32) fun lm=>?_)
 refine WL.h (YP' (ek:=eU32) fun bm=>?_)
 refine WL.e (Zu' z81 p81 (.o (.tmp 36) rfl<|.o (.tmp 37) rfl<|.o (.tmp 38) rfl<|.n)) ?_
 refine WL.h (ZL' fun b1=>?_)
 refine WL.e Zb'<|WL.e Zb'<|WL.next<|WP.ret<|PO.cls (A:=(QP' (g:=g)).pc p dp (stF)) (B:=[As p dp stF,TxsU TPA []]) (fun S h=>h) ?_
 refine PO.conv (fun S h=>Vj' (TP:=TPS) h) ?_
 refine PO.conv (fun S h=>Zbx_ (E:=45) h) ?_
 refine PO.cls (A:=Si (QP' (g:=g)) b1 dp ⟨Vq'.first,[],[]⟩) (B:=[cl b1 81 [.iface (QP' (g:=g)).T (.pointer (some ⟨p,0,none⟩)),.map (some lm),.map (some bm)],(QP' (g:=g)).pc p dp (stF),Mp eU32 (.map (some lm)) (List.map kvU ([])),TxsU TPS ([]),Mp eU32 (.map (some bm)) (List.map kvB ([])),Bnds 45 ([])]) (fun S h=>⟨(p,lm,bm),h⟩) ?_
 exact PO.fin Tryz.results26 (Zd' (Zd' Ze')) (hK b1)
theorem Zfm_ {g:World}:Spec Tryz.prog g 7 [.int .u8 1] [] fun K R=>∀ sp dp,K (.pointer (some ⟨sp,0,none⟩)) (Si (QP' (g:=g)) sp dp ⟨Vq'.first,[],[]⟩::R):=by
 refine Spec.intro Tryz.func7 rfl Tryz.ntmps7 rfl fun R K hK=>?_
 refine WP.seq<|WP.reg<|WL.e Zb'<|WL.next<|WP.seq<|WP.reg ?_
 refine WL.h (Zg' (Zbg_ 4096 (by decide)) k25 ?_)
 refine ⟨fun h=>absurd h (by omega),fun _ _ dp=>?_⟩
 refine WL.e Za'<|WL.e Zf'<|WL.e Zf'<|WL.e Zb'<|WL.e Zb'<|WL.next<|WP.seq<|WP.reg<|WL.e Za'<|WL.e Za' ?_
 refine WL.h (Zg' (Zih_) k26 ?_)
 intro sp
 refine WL.e Za'<|WL.e Zf'<|WL.e Zf'<|WL.e Zb'<|WL.e Zb'<|WL.next<|WP.seq<|WP.seq<|WP.reg<|WL.e Za'<|WL.e Z8'<|WL.e Za' ?_
 refine WL.bool 19 rfl (fun hg=>?_) (fun hg=>?_)
 ·exact absurd hg (by decide) 
 ·skip
  refine WL.e Za'<|WL.e Z8'<|WL.e Zl'<|WL.next<|WP.cond_f rfl<|WP.skip<|PO.next<|WP.seq<|WP.reg<|WL.e Za'<|WL.e Zb'<|WL.next<|WP.ret ?_
  exact PO.fin Tryz.results7 (Zd' Ze') (hK sp dp)
theorem Zii_ {g:World} {dp:Nat}:Spec Tryz.prog g 26 [.int .u8 2,.pointer (some ⟨dp,0,none⟩)] [Dk dp (Z7' 4096)] fun K R=>∀ sp,K (.tuple #[.pointer (some ⟨sp,0,none⟩),.int .i64 0]) (Si (Xw' (g:=g)) sp dp ⟨Yl'.first,[],[]⟩::R):=by
 refine Spec.intro Tryz.func26 rfl Tryz.ntmps26 rfl fun R K hK=>?_
 refine WP.seq<|WP.reg<|WL.e Zb'<|WL.e Zb'<|WL.next<|WP.seq<|WP.reg<|WL.e Zb'<|WL.next<|WP.seq<|WP.reg<|WL.e Zb'<|WL.next<|WP.seq<|WP.seq<|WP.reg<|WL.e Za'<|WL.next<|WP.block<|WP.seq<|WP.reg<|WL.e ZG'<|WL.e Zb'<|WL.next ?_
 refine WP.cond_f rfl<|WP.seq<|WP.reg<|WL.e ZG'<|WL.e Zb'<|WL.next<|WP.cond_t rfl<|WP.reg<|WL.e Za' ?_
 refine WL.h (Zg' (ZjU_ (d:=Z7' 4096) (at0:=0) [] DiskLogB.first (by simp)) k43 ?_)
 intro p
 refine WL.e Za'<|WL.e Zf'<|WL.e (Zff_ Tryz.underlying111)<|WL.e Zf'<|WL.e Zb'<|WL.e Zb'<|WL.nil<|PO.blockN<|PO.next<|WP.seq<|WP.seq<|WP.reg<|WL.e Za'<|WL.e Z8'<|WL.next<|WP.cond_f rfl<|WP.skip<|PO.next<|WP.seq<|WP.reg<|WL.e Za' ?_
 refine WL.h (YP' (ek:=eU32) fun lm=>?_)
 refine WL.h (YP' (ek:=eU32) fun bm=>?_)
 refine WL.e (Zu' z81 p81 (.o (.tmp 36) rfl<|.o (.tmp 37) rfl<|.o (.tmp 38) rfl<|.n)) ?_
 refine WL.h (ZL' fun b1=>?_)
 refine WL.e Zb'<|WL.e Zb'<|WL.next<|WP.ret<|PO.cls (A:=(Xw' (g:=g)).pc p dp (stF)) (B:=[Bs p dp stF,TxsU TPB []]) (fun S h=>h) ?_
 refine PO.conv (fun S h=>Vj' (TP:=TPS) h) ?_
 refine PO.conv (fun S h=>Zbx_ (E:=45) h) ?_
 refine PO.cls (A:=Si (Xw' (g:=g)) b1 dp ⟨Yl'.first,[],[]⟩) (B:=[cl b1 81 [.iface (Xw' (g:=g)).T (.pointer (some ⟨p,0,none⟩)),.map (some lm),.map (some bm)],(Xw' (g:=g)).pc p dp (stF),Mp eU32 (.map (some lm)) (List.map kvU ([])),TxsU TPS ([]),Mp eU32 (.map (some bm)) (List.map kvB ([])),Bnds 45 ([])]) (fun S h=>⟨(p,lm,bm),h⟩) ?_
 exact PO.fin Tryz.results26 (Zd' (Zd' Ze')) (hK b1)
theorem Zaw_ {g:World}:Spec Tryz.prog g 7 [.int .u8 2] [] fun K R=>∀ sp dp,K (.pointer (some ⟨sp,0,none⟩)) (Si (Xw' (g:=g)) sp dp ⟨Yl'.first,[],[]⟩::R):=by
 refine Spec.intro Tryz.func7 rfl Tryz.ntmps7 rfl fun R K hK=>?_
 refine WP.seq<|WP.reg<|WL.e Zb'<|WL.next<|WP.seq<|WP.reg ?_
 refine WL.h (Zg' (Zbg_ 4096 (by decide)) k25 ?_)
 refine ⟨fun h=>absurd h (by omega),fun _ _ dp=>?_⟩
 refine WL.e Za'<|WL.e Zf'<|WL.e Zf'<|WL.e Zb'<|WL.e Zb'<|WL.next<|WP.seq<|WP.reg<|WL.e Za'<|WL.e Za' ?_
 refine WL.h (Zg' (Zii_) k26 ?_)
 intro sp
 refine WL.e Za'<|WL.e Zf'<|WL.e Zf'<|WL.e Zb'<|WL.e Zb'<|WL.next<|WP.seq<|WP.seq<|WP.reg<|WL.e Za'<|WL.e Z8'<|WL.e Za' ?_
 refine WL.bool 19 rfl (fun hg=>?_) (fun hg=>?_)
 ·exact absurd hg (by decide) 
 ·skip
  refine WL.e Za'<|WL.e Z8'<|WL.e Zl'<|WL.next<|WP.cond_f rfl<|WP.skip<|PO.next<|WP.seq<|WP.reg<|WL.e Za'<|WL.e Zb'<|WL.next<|WP.ret ?_
  exact PO.fin Tryz.results7 (Zd' Ze') (hK sp dp)
theorem Zij_ {g:World} {dp:Nat}:Spec Tryz.prog g 26 [.int .u8 3,.pointer (some ⟨dp,0,none⟩)] [Dk dp (Z7' 4096)] fun K R=>∀ sp,K (.tuple #[.pointer (some ⟨sp,0,none⟩),.int .i64 0]) (Si (QQ' (g:=g)) sp dp ⟨Vr'.first,[],[]⟩::R):=by
 refine Spec.intro Tryz.func26 rfl Tryz.ntmps26 rfl fun R K hK=>?_
 refine WP.seq<|WP.reg<|WL.e Zb'<|WL.e Zb'<|WL.next<|WP.seq<|WP.reg<|WL.e Zb'<|WL.next<|WP.seq<|WP.reg<|WL.e Zb'<|WL.next<|WP.seq<|WP.seq<|WP.reg<|WL.e Za'<|WL.next<|WP.block<|WP.seq<|WP.reg<|WL.e ZG'<|WL.e Zb'<|WL.next ?_
 refine WP.cond_f rfl<|WP.seq<|WP.reg<|WL.e ZG'<|WL.e Zb'<|WL.next<|WP.cond_f rfl<|WP.seq<|WP.reg<|WL.e ZG'<|WL.e Zb'<|WL.next<|WP.cond_t rfl<|WP.reg<|WL.e Za' ?_
 refine WL.h (Zg' (Zj4_ (d:=Z7' 4096) Xf'.ok (by rw [Xf'.waits];simp) (by rw [Uu'];exact Zdk_ _ (by decide)) (by rw [Xf'.len];exact Zi3_)) k44 ?_)
 intro p
 refine WL.e Za'<|WL.e Zf'<|WL.e (Zff_ Tryz.underlying114)<|WL.e Zf'<|WL.e Zb'<|WL.e Zb'<|WL.nil<|PO.blockN<|PO.next<|WP.seq<|WP.seq<|WP.reg<|WL.e Za'<|WL.e Z8'<|WL.next<|WP.cond_f rfl<|WP.skip<|PO.next<|WP.seq<|WP.reg<|WL.e Za' ?_
 refine WL.h (YP' (ek:=eU32) fun lm=>?_)
 refine WL.h (YP' (ek:=eU32) fun bm=>?_)
 refine WL.e (Zu' z81 p81 (.o (.tmp 36) rfl<|.o (.tmp 37) rfl<|.o (.tmp 38) rfl<|.n)) ?_
 refine WL.h (ZL' fun b1=>?_)
 refine WL.e Zb'<|WL.e Zb'<|WL.next<|WP.ret<|PO.cls (A:=(QQ' (g:=g)).pc p dp (gam0 (Z7' 4096).sync)) (B:=[Gs p dp (gam0 (Z7' 4096).sync),Txs []]) (fun S h=>h) ?_
 refine PO.conv (fun S h=>Vj' (TP:=TPS) h) ?_
 refine PO.conv (fun S h=>Zbx_ (E:=45) h) ?_
 refine PO.cls (A:=Si (QQ' (g:=g)) b1 dp ⟨Vr'.first,[],[]⟩) (B:=[cl b1 81 [.iface (QQ' (g:=g)).T (.pointer (some ⟨p,0,none⟩)),.map (some lm),.map (some bm)],(QQ' (g:=g)).pc p dp (gam0 (Z7' 4096).sync),Mp eU32 (.map (some lm)) (List.map kvU ([])),TxsU TPS ([]),Mp eU32 (.map (some bm)) (List.map kvB ([])),Bnds 45 ([])]) (fun S h=>⟨(p,lm,bm),h⟩) ?_
 exact PO.fin Tryz.results26 (Zd' (Zd' Ze')) (hK b1)
theorem Zfn_ {g:World}:Spec Tryz.prog g 7 [.int .u8 3] [] fun K R=>∀ sp dp,K (.pointer (some ⟨sp,0,none⟩)) (Si (QQ' (g:=g)) sp dp ⟨Vr'.first,[],[]⟩::R):=by
 refine Spec.intro Tryz.func7 rfl Tryz.ntmps7 rfl fun R K hK=>?_
 refine WP.seq<|WP.reg<|WL.e Zb'<|WL.next<|WP.seq<|WP.reg ?_
 refine WL.h (Zg' (Zbg_ 4096 (by decide)) k25 ?_)
 refine ⟨fun h=>absurd h (by omega),fun _ _ dp=>?_⟩
 refine WL.e Za'<|WL.e Zf'<|WL.e Zf'<|WL.e Zb'<|WL.e Zb'<|WL.next<|WP.seq<|WP.reg<|WL.e Za'<|WL.e Za' ?_
 refine WL.h (Zg' (Zij_) k26 ?_)
 intro sp
 refine WL.e Za'<|WL.e Zf'<|WL.e Zf'<|WL.e Zb'<|WL.e Zb'<|WL.next<|WP.seq<|WP.seq<|WP.reg<|WL.e Za'<|WL.e Z8'<|WL.e Za' ?_
 refine WL.bool 19 rfl (fun hg=>?_) (fun hg=>?_)
 ·exact absurd hg (by decide) 
 ·skip
  refine WL.e Za'<|WL.e Z8'<|WL.e Zl'<|WL.next<|WP.cond_f rfl<|WP.skip<|PO.next<|WP.seq<|WP.reg<|WL.e Za'<|WL.e Zb'<|WL.next<|WP.ret ?_
  exact PO.fin Tryz.results7 (Zd' Ze') (hK sp dp)
theorem Zf7_ {g:World} (en:Nat) (h:en=1∨en=2∨en=3):Spec Tryz.prog g 7 [.int .u8 en] [] fun K R=>∀ sp dp (M:EngM) (E:Eng Tryz.prog g 105 M),(⟨M,E⟩:(M:EngM) × Eng Tryz.prog g 105 M)=Zn6_ g en→K (.pointer (some ⟨sp,0,none⟩)) (Si E sp dp ⟨M.first,[],[]⟩::R):=by
 rcases h with rfl | rfl | rfl
 ·exact fun R K w hw hT=>Zfm_ R K w hw fun sp dp=>hT sp dp Vq' QP' rfl
 ·exact fun R K w hw hT=>Zaw_ R K w hw fun sp dp=>hT sp dp Yl' Xw' rfl
 ·exact fun R K w hw hT=>Zfn_ R K w hw fun sp dp=>hT sp dp Vr' QQ' rfl
theorem UQ' {g:World}:Spec Tryz.prog g 27 [.pointer none] [] fun K R=>K (.bool false) R:=by
 refine Spec.intro Tryz.func27 rfl Tryz.ntmps27 rfl fun R K hK=>?_
 refine WP.seq<|WP.reg<|WL.e Zb'<|WL.next<|WP.seq<|WP.reg<|WL.e Za'<|WL.e (X8' pt29)<|WL.e Za' ?_
 refine WL.bool 5 rfl (fun h=>?_) (fun h=>?_)
 ·cases h 
 ·skip
  refine WL.skip<|WL.skip<|WL.skip<|WL.skip<|WL.skip<|WL.e Zl'<|WL.e Zb'<|WL.next<|WP.ret ?_
  exact PO.fin Tryz.results27 (Zd' Ze') hK
theorem Zfo_ {g:World} (n:UInt32):Spec Tryz.prog g 16 [.pointer none,.int .u32 n.toNat] [] fun K R=>K (.int .i64 2) R:=by
 refine Spec.intro Tryz.func16 rfl Tryz.ntmps16 rfl fun R K hK=>?_
 refine WP.seq<|WP.reg<|WL.e Zb'<|WL.next<|WP.seq<|WP.seq<|WP.reg<|WL.e Za' ?_
 refine WL.h (Zg' (UQ') k27 ?_)
 refine WL.e ZC'<|WL.next<|WP.cond_t rfl<|WP.seq<|WP.reg<|WL.e Zb'<|WL.next<|WP.ret<|PO.past nofun ?_
 exact PO.fin Tryz.results16 (Zd' Ze') hK
theorem ZdD_ {g:World} (n:UInt32):Spec Tryz.prog g 17 [.pointer none,.int .u32 n.toNat] [] fun K R=>K (.bool false) R:=by
 refine Spec.intro Tryz.func17 rfl Tryz.ntmps17 rfl fun R K hK=>?_
 refine WP.seq<|WP.reg<|WL.e Zb'<|WL.next<|WP.seq<|WP.reg<|WL.e Za' ?_
 refine WL.h (Zg' (UQ') k27 ?_)
 refine WL.e Za' ?_
 refine WL.bool 7 rfl (fun h1=>?_) (fun h1=>?_)
 ·cases h1 
 ·skip
  refine WL.skip<|WL.skip<|WL.skip<|WL.skip<|WL.skip<|WL.skip<|WL.skip<|WL.e Zl'<|WL.e Zb'<|WL.next<|WP.ret ?_
  exact PO.fin Tryz.results17 (Zd' Ze') hK
set_option maxHeartbeats 4000000 in
theorem JG' {g:World}:Spec Tryz.prog g 8 [] [] fun K R=>K (.bool true) R:=by
 refine Spec.intro Tryz.func8 rfl Tryz.ntmps8 rfl fun R K hK=>?_
 refine WP.seq<|WP.reg<|WL.e Zb'<|WL.next<|WP.seq<|WP.reg ?_
 refine WL.h (Zg' (Zaw_) k7 ?_)
 intro sp dp
 refine WL.e Zb'<|WL.next<|WP.seq<|WP.seq<|WP.reg<|WL.e Za'<|WL.e (JM' pt29)<|WL.e Za' ?_
 refine WL.bool 22 rfl (fun g0=>?_) (fun g0=>?_)
 ·cases g0 
 ·skip
  refine WL.e Za' ?_
  refine WL.h (Zg' (Kq' (E:=Xw' (g:=g)) (v:=(⟨stF,[],[]⟩:SiteV Yl'.St)) 1 true) k9 ?_)
  intro q1 r1
  dsimp only
  obtain ⟨e0,st1,e1,h1⟩:=Zc1_ (l:=[]) (bs:=[]) Zke_ 1 true q1 r1 (by decide) rfl (by simp) rfl
  rw [e0,e1]
  simp only [List.nil_append,List.cons_append] at h1 ⊢
  refine WL.e Z8'<|WL.e Zl'<|WL.e Za' ?_
  refine WL.bool 27 rfl (fun g1=>?_) (fun g1=>?_)
  ·exact absurd g1 (by decide) 
  ·skip
   refine WL.e Za' ?_
   refine WL.h (Zg' (Kq' (E:=Xw' (g:=g)) (v:=(⟨st1,[⟨1,r1,⟨true,[]⟩⟩],[]⟩:SiteV Yl'.St)) 2 false) k9 ?_)
   intro q2 r2
   dsimp only
   obtain ⟨e0,st2,e1,h2⟩:=Zc1_ (l:=[⟨1,r1,⟨true,[]⟩⟩]) (bs:=[]) h1 2 false q2 r2 (by decide) rfl (by simp) rfl
   rw [e0,e1]
   simp only [List.nil_append,List.cons_append] at h2 ⊢
   refine WL.e Z8'<|WL.e Zl'<|WL.next<|WP.cond_f rfl<|WP.skip<|PO.next<|WP.seq<|WP.reg<|WL.e (Zu' z45 p45 (.o (.const (.string ⟨#[97]⟩)) rfl<|.o (.const (.string ⟨#[97]⟩)) rfl<|.n)) ?_
   refine WL.h (h_bs sl22 z45 (.a2 (.tmp 32) rfl<|.n) fun b1=>?_)
   refine WL.e Zb'<|WL.next<|WP.seq<|WP.reg<|WL.e Za'<|WL.e (Zu' z26 p26 (.o (.const (.int .u8 2)) rfl<|.o (.const (.string ⟨#[95,116]⟩)) rfl<|.z (.string .empty)<|.o (.const (.int .u32 1)) rfl<|.n)) ?_
   refine WL.h (Zg' (Qi' (E:=Xw' (g:=g)) (v:=(⟨st2,[⟨1,r1,⟨true,[]⟩⟩,⟨2,r2,⟨false,[]⟩⟩],[]⟩:SiteV Yl'.St)) 1 (Kc' keyT 1) (QR' (b:=20) ⟨YB'.mono h2.ok (by decide) (by decide),h2.txs,h2.his,h2.at_⟩ (by simp) (by simp) (by simp) (by simp) (by simp) (by simp))) k12 ?_)
   rw [ZgQ_ (M:=Yl') (v:=(⟨st2,[⟨1,r1,⟨true,[]⟩⟩,⟨2,r2,⟨false,[]⟩⟩],[]⟩:SiteV Yl'.St)) (m:=10) (t:=⟨1,r1,⟨true,[]⟩⟩) rfl (by rw [ZeE_];exact ZmT_) (Zn9_) (by decide)]
   dsimp only
   refine WL.e Za'<|WL.e Zf'<|WL.e Zf' ?_
   refine WL.h (Zw' z40 fun b2=>?_)
   refine WL.h' (Zk' s40 ?_)
   refine WL.e Zb'<|WL.next<|WP.seq<|WP.reg<|WL.e Za'<|WL.e (Zu' z26 p26 (.o (.const (.int .u8 2)) rfl<|.o (.const (.string ⟨#[97]⟩)) rfl<|.z (.string .empty)<|.o (.const (.int .u32 1)) rfl<|.n)) ?_
   refine WL.h (Zg' (Qi' (E:=Xw' (g:=g)) (v:=(⟨st2,[⟨1,r1,⟨true,[]⟩⟩,⟨2,r2,⟨false,[]⟩⟩],[]⟩:SiteV Yl'.St)) 1 (Kc' kA 1) (QR' (b:=20) ⟨YB'.mono h2.ok (by decide) (by decide),h2.txs,h2.his,h2.at_⟩ (by simp) (by simp) (by simp) (by simp) (by simp) (by simp))) k12 ?_)
   obtain ⟨st3,e3,h3⟩:=ZmR_ (n:=1) (l:=[⟨1,r1,⟨true,[]⟩⟩,⟨2,r2,⟨false,[]⟩⟩]) (bs:=[]) (u:=⟨1,r1,⟨true,[]⟩⟩) h2 rfl keyA 1 (by decide) rfl Zoa_
   rw [e3]
   dsimp only
   intro sv3
   try simp only [setU,List.map_cons,List.map_nil,List.nil_append,List.cons_append] at h3 ⊢
   try simp (config:={ decide:=true }) only [if_true,if_false] at h3 ⊢
   refine WL.e Za'<|WL.e Zf'<|WL.e Zf' ?_
   refine WL.h (Zw' z40 fun b3=>?_)
   refine WL.h' (Zk' s40 ?_)
   refine WL.e Zb'<|WL.next<|WP.seq<|WP.reg<|WL.e Za'<|WL.e Za' ?_
   refine WL.h (Zg' (JF' (E:=Xw' (g:=g)) (v:=(⟨st3,[⟨1,r1,⟨true,[one kA]⟩⟩,⟨2,r2,⟨false,[]⟩⟩],[]⟩:SiteV Yl'.St)) (l:=[one kA]) 2 9 (QR' (b:=20) ⟨YB'.mono h3.ok (by decide) (by decide),h3.txs,h3.his,h3.at_⟩ (by simp) (by simp) (by simp) (by simp) (by simp) (by simp)) (Z4' Ja' [one kA] rfl) (by decide)) k10 ?_)
   intro sv4
   have e4:Yt' (⟨st3,[⟨1,r1,⟨true,[one kA]⟩⟩,⟨2,r2,⟨false,[]⟩⟩],[]⟩:SiteV Yl'.St) 2 9 [one kA]=11:=by rw [ZbA_ rfl (fun _=>rfl),Zl0_];simp [ZmU_]
   rw [e4,show YC' (⟨st3,[⟨1,r1,⟨true,[one kA]⟩⟩,⟨2,r2,⟨false,[]⟩⟩],[]⟩:SiteV Yl'.St) 2 9 sv4 [one kA]=(⟨st3,[⟨1,r1,⟨true,[one kA]⟩⟩,⟨2,r2,⟨false,[]⟩⟩],[]⟩:SiteV Yl'.St) by rw [YC',e4];rfl]
   refine WL.e Zb'<|WL.next<|WP.seq<|WP.reg<|WL.e Za' ?_
   refine WL.h (Zg' (VY' (E:=Xw' (g:=g)) (v:=(⟨st3,[⟨1,r1,⟨true,[one kA]⟩⟩,⟨2,r2,⟨false,[]⟩⟩],[]⟩:SiteV Yl'.St)) 1 (QR' (b:=20) ⟨YB'.mono h3.ok (by decide) (by decide),h3.txs,h3.his,h3.at_⟩ (by simp) (by simp) (by simp) (by simp) (by simp) (by simp)).ok) k15 ?_)
   obtain ⟨e5,st5,e5b,h5⟩:=ZmS_ (n:=1) (l:=[⟨1,r1,⟨true,[one kA]⟩⟩,⟨2,r2,⟨false,[]⟩⟩]) (bs:=[]) h3 rfl
   dsimp only
   rw [e5,e5b,show delU ([⟨1,r1,⟨true,[one kA]⟩⟩,⟨2,r2,⟨false,[]⟩⟩]:List (TxU UInt32 SiX)) 1=[⟨2,r2,⟨false,[]⟩⟩] from rfl]
   replace h5:AtS YB' st5 [⟨2,q2,⟨0,[],[],[]⟩⟩] [] _:=h5
   refine WL.e Zb'<|WL.next<|WP.seq<|WP.reg<|WL.e Za'<|WL.e Za' ?_
   refine WL.h (Zg' (JF' (E:=Xw' (g:=g)) (v:=(⟨st5,[⟨2,r2,⟨false,[]⟩⟩],[]⟩:SiteV Yl'.St)) (l:=[one kA]) 2 9 (QR' (b:=20) ⟨YB'.mono h5.ok (by decide) (by decide),h5.txs,h5.his,h5.at_⟩ (by simp) (by simp) (by simp) (by simp) (by simp) (by simp)) (Z4' Ja' [one kA] rfl) (by decide)) k10 ?_)
   intro sv6
   have e6:Yt' (⟨st5,[⟨2,r2,⟨false,[]⟩⟩],[]⟩:SiteV Yl'.St) 2 9 [one kA]=0:=by rw [ZbA_ rfl (fun _=>rfl),Zl0_];simp
   rw [e6,show YC' (⟨st5,[⟨2,r2,⟨false,[]⟩⟩],[]⟩:SiteV Yl'.St) 2 9 sv6 [one kA]=(⟨st5,[⟨2,r2,⟨false,[]⟩⟩],[bnd9 sv6]⟩:SiteV Yl'.St) by rw [YC',if_pos e6];rfl]
   refine WL.e Zb'<|WL.next<|WP.seq<|WP.reg<|WL.e Za' ?_
   refine WL.h (Zg' (Kq' (E:=Xw' (g:=g)) (v:=(⟨st5,[⟨2,r2,⟨false,[]⟩⟩],[bnd9 sv6]⟩:SiteV Yl'.St)) 3 true) k9 ?_)
   intro q3 r3
   dsimp only
   obtain ⟨e0,st7,e1,h7⟩:=Zc1_ (l:=[⟨2,r2,⟨false,[]⟩⟩]) (bs:=[bnd9 sv6]) h5 3 true q3 r3 (by decide) rfl (by simp) rfl
   rw [e0,e1]
   simp only [List.nil_append,List.cons_append] at h7 ⊢
   refine WL.e Zb'<|WL.next<|WP.seq<|WP.reg<|WL.e Za'<|WL.e (Zu' z26 p26 (.o (.const (.int .u8 1)) rfl<|.o (.const (.string ⟨#[97]⟩)) rfl<|.z (.string .empty)<|.z (.int .u32 0)<|.n)) ?_
   refine WL.h (Zg' (Qi' (E:=Xw' (g:=g)) (v:=(⟨st7,[⟨2,r2,⟨false,[]⟩⟩,⟨3,r3,⟨true,[]⟩⟩],[bnd9 sv6]⟩:SiteV Yl'.St)) 3 (JP' kA) (QR' (b:=20) ⟨YB'.mono h7.ok (by decide) (by decide),h7.txs,h7.his,h7.at_⟩ (by simp) (by simp) (by simp) (by simp) (by simp) (fun x hx=>by rw [List.mem_singleton] at hx;subst hx;show [one kA].length≤_;decide))) k12 ?_)
   rw [ZgQ_ (M:=Yl') (v:=(⟨st7,[⟨2,r2,⟨false,[]⟩⟩,⟨3,r3,⟨true,[]⟩⟩],[bnd9 sv6]⟩:SiteV Yl'.St)) (m:=10) (t:=⟨3,r3,⟨true,[]⟩⟩) rfl (by rw [ZeF_];exact keyA) (Zob_ sv6) (by decide)]
   dsimp only
   refine WL.e Za'<|WL.e Zf'<|WL.e Zf' ?_
   refine WL.h (Zw' z40 fun b4=>?_)
   refine WL.h' (Zk' s40 ?_)
   refine WL.e Zb'<|WL.next<|WP.seq<|WP.reg<|WL.e Za'<|WL.e (Zu' z26 p26 (.o (.const (.int .u8 1)) rfl<|.o (.const (.string ⟨#[97]⟩)) rfl<|.z (.string .empty)<|.z (.int .u32 0)<|.n)) ?_
   refine WL.h (Zg' (Qi' (E:=Xw' (g:=g)) (v:=(⟨st7,[⟨2,r2,⟨false,[]⟩⟩,⟨3,r3,⟨true,[]⟩⟩],[bnd9 sv6]⟩:SiteV Yl'.St)) 2 (JP' kA) (QR' (b:=20) ⟨YB'.mono h7.ok (by decide) (by decide),h7.txs,h7.his,h7.at_⟩ (by simp) (by simp) (by simp) (by simp) (by simp) (fun x hx=>by rw [List.mem_singleton] at hx;subst hx;show [one kA].length≤_;decide))) k12 ?_)
   obtain ⟨st8,rw8,e8,h8⟩:=ZgR_ (n:=2) (l:=[⟨2,r2,⟨false,[]⟩⟩,⟨3,r3,⟨true,[]⟩⟩]) (bs:=[bnd9 sv6]) (u:=⟨2,r2,⟨false,[]⟩⟩) h7 rfl keyA (by decide) rfl (Zoc_ sv6)
   rw [e8]
   dsimp only
   intro a8 m8 c8
   try simp only [setU,List.map_cons,List.map_nil,List.nil_append,List.cons_append] at h8 ⊢
   try simp (config:={ decide:=true }) only [if_true,if_false] at h8 ⊢
   refine WL.e Za'<|WL.e Zf'<|WL.e Zf' ?_
   refine WL.h (Zw' z40 fun b5=>?_)
   refine WL.h' (Zk' s40 ?_)
   refine WL.e Zb'<|WL.next<|WP.seq<|WP.reg<|WL.e Za' ?_
   refine WL.h (Zg' (Zie_ (E:=Xw' (g:=g)) (v:=(⟨st8,[⟨2,r2,⟨false,[one kA]⟩⟩,⟨3,r3,⟨true,[]⟩⟩],[bnd9 sv6]⟩:SiteV Yl'.St)) 9) k16 ?_)
   rw [show UM' (⟨st8,[⟨2,r2,⟨false,[one kA]⟩⟩,⟨3,r3,⟨true,[]⟩⟩],[bnd9 sv6]⟩:SiteV Yl'.St) 9=0 from rfl,if_pos rfl,show Zfj_ (⟨st8,[⟨2,r2,⟨false,[one kA]⟩⟩,⟨3,r3,⟨true,[]⟩⟩],[bnd9 sv6]⟩:SiteV Yl'.St) 9=(⟨st8,[⟨2,r2,⟨false,[one kA]⟩⟩,⟨3,r3,⟨true,[]⟩⟩],[]⟩:SiteV Yl'.St) from rfl]
   refine WL.e Zb'<|WL.next<|WP.seq<|WP.reg<|WL.e Za'<|WL.e (Zu' z26 p26 (.o (.const (.int .u8 1)) rfl<|.o (.const (.string ⟨#[97]⟩)) rfl<|.z (.string .empty)<|.z (.int .u32 0)<|.n)) ?_
   refine WL.h (Zg' (Qi' (E:=Xw' (g:=g)) (v:=(⟨st8,[⟨2,r2,⟨false,[one kA]⟩⟩,⟨3,r3,⟨true,[]⟩⟩],[]⟩:SiteV Yl'.St)) 3 (JP' kA) (QR' (b:=20) ⟨YB'.mono h8.ok (by decide) (by decide),h8.txs,h8.his,h8.at_⟩ (by simp) (by simp) (by simp) (by simp) (by simp) (by simp))) k12 ?_)
   obtain ⟨st9,rw9,e9,h9⟩:=ZgR_ (n:=3) (l:=[⟨2,r2,⟨false,[one kA]⟩⟩,⟨3,r3,⟨true,[]⟩⟩]) (bs:=[]) (u:=⟨3,r3,⟨true,[]⟩⟩) h8 rfl keyA (by decide) rfl ZnH_
   rw [e9]
   dsimp only
   intro a9 m9 c9
   refine WL.e Za'<|WL.e Zf'<|WL.e Zf' ?_
   refine WL.h (Zw' z40 fun b6=>?_)
   refine WL.h' (Zk' s40 ?_)
   refine WL.e Zb'<|WL.next<|WP.seq<|WP.reg<|WL.e Zb'<|WL.next<|WP.seq<|WP.reg<|WL.e Za'<|WL.e ZG'<|WL.e Za' ?_
   refine WL.bool 78 rfl (fun y1=>?_) (fun y1=>?_)
   ·skip
    refine WL.e Za'<|WL.e ZG'<|WL.e Zm'<|WL.e Za' ?_
    refine WL.bool 82 rfl (fun y2=>?_) (fun y2=>?_)
    ·skip
     refine WL.e Za'<|WL.e ZG'<|WL.e Zm'<|WL.e Za' ?_
     refine WL.bool 86 rfl (fun y3=>?_) (fun y3=>?_)
     ·skip
      refine WL.e Za'<|WL.e ZG'<|WL.e Zm'<|WL.e Za' ?_
      refine WL.bool 90 rfl (fun y4=>?_) (fun y4=>?_)
      ·skip
       refine WL.e Za'<|WL.e ZG'<|WL.e Zm'<|WL.e Za' ?_
       refine WL.bool 94 rfl (fun y5=>?_) (fun y5=>?_)
       ·skip
        refine WL.e Za'<|WL.e ZG'<|WL.e Zm'<|WL.e Za' ?_
        refine WL.bool 98 rfl (fun y6=>?_) (fun y6=>?_)
        ·skip
         refine WL.e Za'<|WL.e ZG'<|WL.e Zm'<|WL.e Za' ?_
         refine WL.bool 102 rfl (fun y7=>?_) (fun y7=>?_)
         ·skip
          refine WL.e Za'<|WL.e ZG'<|WL.e Zm'<|WL.e Za' ?_
          refine WL.bool 106 rfl (fun y8=>?_) (fun y8=>?_)
          ·skip
           refine WL.e Za'<|WL.e ZG'<|WL.e Zm'<|WL.e Za' ?_
           refine WL.bool 110 rfl (fun y9=>?_) (fun y9=>?_)
           ·skip
            refine WL.e Za'<|WL.e ZG'<|WL.e Zm'<|WL.e Za' ?_
            refine WL.bool 114 rfl (fun y10=>?_) (fun y10=>?_)
            ·skip
             refine WL.e Za' ?_
             refine WL.h (Zg' (Zfo_ 1) k16 ?_)
             refine WL.e ZG'<|WL.e Zm'<|WL.e Za' ?_
             refine WL.bool 119 rfl (fun y11=>?_) (fun y11=>?_)
             ·skip
              refine WL.e Za' ?_
              refine WL.h (Zg' (ZdD_ 1) k17 ?_)
              refine WL.e ZC'<|WL.e Zm'<|WL.e Zb'<|WL.next<|WP.ret ?_
              exact PO.finE Tryz.results8 (Zd' Ze') rfl hK
             ·exact absurd y11 (by decide) 
            ·exact absurd y10 (by decide) 
           ·exact absurd y9 (by decide) 
          ·exact absurd y8 (by decide) 
         ·exact absurd y7 (by decide) 
        ·exact absurd y6 (by decide) 
       ·exact absurd y5 (by decide) 
      ·exact absurd y4 (by decide) 
     ·exact absurd y3 (by decide) 
    ·exact absurd y2 (by decide) 
   ·exact absurd y1 (by decide) 
end Go.SL
namespace Go.SL
open Go
section
variable {M : EngM} {v : SiteV M.St} {n g : UInt32} {l : List SpanM}
theorem ZcC_ {t:TxU UInt32 SiX} {x:BndV} (hb:v.bs=[x]) (hx:x.g=g) (hl:v.l=[t]) (ht:t.id=n):Yt' v n g l=if badS g l then 1 else 0:=by
  unfold Yt' badS
  rw [hb,hl]
  have h1:Zr' [t] n=some t:=by simp [Zr',ht]
  rw [h1]
  simp [hx,ht]
theorem ZcD_ {t:TxU UInt32 SiX} (hb:v.bs=[]) (hl:v.l=[t]) (ht:t.id=n):Yt' v n g l=if badS g l then 1 else 0:=by
  unfold Yt' badS
  rw [hb,hl]
  have h1:Zr' [t] n=some t:=by simp [Zr',ht]
  rw [h1]
  simp [ht]
end
end Go.SL
