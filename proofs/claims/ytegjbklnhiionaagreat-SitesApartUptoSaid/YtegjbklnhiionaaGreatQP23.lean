import Derived.Test.YtegjbklnhiionaaGreatQP22
set_option linter.unusedSimpArgs false
set_option linter.unusedVariables false
namespace Go.SL.Fc
open Go Go.Proofs Go.SL
theorem k29:Zh' Tryz.prog 29=true:=by kernel_rfl
theorem k31:Zh' Tryz.prog 31=true:=by kernel_rfl
theorem k32:Zh' Tryz.prog 32=true:=by kernel_rfl
theorem k48:Zh' Tryz.prog 48=true:=by kernel_rfl
theorem p89:Ya' Tryz.prog 89=some [(0,1),(1,1)]:=by kernel_rfl
end Go.SL.Fc
namespace Go.SL
open Go Go.Proofs Fc
theorem Zbk_ {g:World} {A:HP} {u:Value} {xs:List SpanM} (hA:RL A 2 SpanM.c u xs) (hb:xs.length≤68719476736):Spec Tryz.prog g 32 [u] [A] fun K R=>∀ a m c,K (.slice a m c) (Sl 45 2 SpanM.c (.slice a m c) xs::A::R):=by
 refine Spec.intro Tryz.func32 rfl Tryz.ntmps32 rfl fun R K hK=>?_
 refine WP.seq<|WP.reg<|WL.e Zb'<|WL.next<|WP.seq<|WP.seq<|WP.reg<|WL.e Za'<|WL.e (ZcO_ sl22 hA)<|WL.next ?_
 refine WP.cond rfl (fun h=>?_) (fun h=>?_)
 ·refine WP.know (φ:=xs=[]) (Pick.know (A:=A) (by exact .z) fun S hS=>?_) fun hx=>?_
  ·rcases hA S hS with ⟨h0,_⟩ | ⟨b,o,c,l,t,e,_⟩
   ·simpa using h0
   ·rw [e] at h;cases h
  subst hx
  refine WP.nils 45 2 SpanM.c none ?_
  refine WP.seq<|WP.reg<|WL.e Zb'<|WL.next<|WP.ret<|PO.past nofun ?_
  exact PO.fin Tryz.results32 (Zd' Zf') (hK none 0 0)
 ·skip
  refine WP.skip<|PO.next<|WP.seq<|WP.reg ?_
  refine WL.h (ZhA_ sl22 (enc:=SpanM.c) fun a1 n1 c1=>?_)
  refine WL.e Za' ?_
  refine WL.h (ZG' (xs:=[]) (ys:=xs) sl22 Jk' z45 hA (by simp;omega) fun a2 n2 c2=>?_)
  rw [List.nil_append]
  refine WL.e Zb'<|WL.next<|WP.ret ?_
  exact PO.fin Tryz.results32 (Zd' Zf') (hK a2 n2 c2)
theorem ZiJ_ {g:World} {B:HP} (x:SpanM):Spec Tryz.prog g 29 [.agg (SpanM.c x).toArray] [B] fun K R=>K (.bool (!meet x x)) (B::R):=by
 refine Spec.intro Tryz.func29 rfl Tryz.ntmps29 rfl fun R K hK=>?_
 refine WP.seq<|WP.reg ?_
 refine WL.h (ZL' fun b1=>?_)
 refine WL.e Zb'<|WL.next<|WP.seq<|WP.reg<|WL.e (Zm' a45)<|WL.e (Zm' a45) ?_
 refine WL.h (Zg' (Y8' ⟨_,_⟩ ⟨_,_⟩) k30 ?_)
 refine WL.e Zx'<|WL.e Zb'<|WL.next<|WP.ret ?_
 exact PO.fin Tryz.results29 (Zd' Zf') hK
theorem ZkF_ {g:World} {B:HP} {a2:Option Addr} {m2 c2:Nat} {l:List SpanM} {b:Nat} (hB:RL B 2 SpanM.c (.slice a2 m2 c2) l) (hn:l.length≤68719476736) (x:SpanM):Spec Tryz.prog g 48 [.agg (SpanM.c x).toArray,.pointer (some ⟨b,0,none⟩)] [cl b 22 [.slice a2 m2 c2],B] fun K R=>K (.bool (anyS x l)) ([cl b 22 [.slice a2 m2 c2],B]++R):=by
 refine Spec.intro Tryz.func48 rfl Tryz.ntmps48 rfl fun R K hK=>?_
 refine WP.seq<|WP.reg ?_
 refine WL.h (ZL' fun b1=>?_)
 refine WL.e Zb'<|WL.next<|WP.seq<|WP.reg<|WL.e (Zm' a45)<|WL.e (Zc' a22) ?_
 refine WL.h (Zg' (ZfE_ x hB hn) k13 ?_)
 refine WL.e Zb'<|WL.next<|WP.ret ?_
 exact PO.fin Tryz.results48 (Zd' Zf') hK
theorem QO' {g:World} {A B:HP} {u:Value} {a2:Option Addr} {m2 c2:Nat} {a l:List SpanM} (hA:RL A 2 SpanM.c u a) (hB:RL B 2 SpanM.c (.slice a2 m2 c2) l) (ha:a.length≤68719476736) (hn:l.length≤68719476736):Spec Tryz.prog g 31 [u,.slice a2 m2 c2] [A,B] fun K R=>K (.bool (Z9' a l)) (A::B::R):=by
 refine Spec.intro Tryz.func31 rfl Tryz.ntmps31 rfl fun R K hK=>?_
 refine WP.seq<|WP.reg ?_
 refine WL.h (ZL' fun b1=>?_)
 refine WL.e Zb'<|WL.next<|WP.seq<|WP.reg<|WL.e Za'<|WL.e Ym'<|WL.cls (A:=bun [cl b1 22 [.slice a2 m2 c2],B]) (B:=[cl b1 22 [.slice a2 m2 c2],B]) (fun S h=>h) ?_
 refine WL.h (Zg' (Kq' (p:=fun x=>anyS x l) hA ha (fun x=>CallV.bun (CallV.of_spec (fs:=[]) (cs:=[.pointer (some ⟨b1,0,none⟩)]) (ZkF_ hB hn x) k48))) k28 ?_)
 show WL _ _ _ _ _ _ _ _
 refine WL.opn (A:=bun [cl b1 22 [.slice a2 m2 c2],B]) (B:=fun _:Unit=>[cl b1 22 [.slice a2 m2 c2],B]) (fun S h=>⟨(),h⟩) fun _=>?_
 refine WL.e Zb'<|WL.next<|WP.ret ?_
 exact PO.fin Tryz.results31 (Zd' Zf') hK
set_option maxHeartbeats 4000000 in
theorem ZcJ_ {g:World} {M:EngM} {E:Eng Tryz.prog g 105 M} {sp dp:Nat} {v:SiteV M.St} {A:HP} {a2:Option Addr} {m2 c2:Nat} {l:List SpanM} {b:Nat} (n gg:UInt32) (hs:SiOk v b) (hA:RL A 2 SpanM.c (.slice a2 m2 c2) l) (hl:l.length≤1000000):Spec Tryz.prog g 10 [.pointer (some ⟨sp,0,none⟩),.int .u32 n.toNat,.int .u32 gg.toNat,.slice a2 m2 c2] [Si E sp dp v,A] fun K R=>∀ sv,K (.int .i64 (Y3' v n gg l)) (Si E sp dp (X0' v n gg sv l)::A::R):=by
 refine Spec.intro Tryz.func10 rfl Tryz.ntmps10 rfl fun R K hK=>?_
 refine WP.seq<|WP.reg<|WL.e Zb'<|WL.next<|WP.seq<|WP.seq<|WP.reg<|WL.e Za' ?_
 refine WL.h (Zg' (Ji') k27 ?_)
 refine WL.e Zx'<|WL.next<|WP.cond_f rfl<|WP.skip<|PO.next<|WP.seq<|WP.seq<|WP.reg<|WL.e Za'<|WL.e (Jt' (b:=0))<|WL.e Za' ?_
 refine WL.bool 18 rfl (fun h1=>?_) (fun h1=>?_)
 ·replace h1:(gg == 0)=true:=h1
  have hc:(gg == 0 || l.length == 0 || l.any fun p=>!meet p p)=true:=by rw [h1];rfl
  refine WL.skip<|WL.skip<|WL.skip<|WL.e Zn'<|WL.e Za'<|WL.skip<|WL.skip<|WL.e Zn'<|WL.next<|WP.cond_t rfl<|WP.seq<|WP.reg<|WL.e Zb'<|WL.next<|WP.ret<|PO.past nofun ?_
  have hE:Y3' v n gg l=1:=by unfold Y3';rw [if_pos hc]
  have hK:=hK ⟨none,0,0⟩
  rw [X0',hE,if_neg (by decide)] at hK
  exact PO.fin Tryz.results10 (Zd' Zf') hK
 ·replace h1:(gg == 0)=false:=h1
  refine WL.e Za'<|WL.e (ZD' (xs:=l) sl22 hA)<|WL.e ZM'<|WL.e Zl'<|WL.e Za' ?_
  refine WL.bool 23 rfl (fun h2=>?_) (fun h2=>?_)
  ·replace h2:(l.length == 0)=true:=by simpa using h2
   have hc:(gg == 0 || l.length == 0 || l.any fun p=>!meet p p)=true:=by rw [h1,h2];rfl
   refine WL.skip<|WL.skip<|WL.e Zn'<|WL.next<|WP.cond_t rfl<|WP.seq<|WP.reg<|WL.e Zb'<|WL.next<|WP.ret<|PO.past nofun ?_
   have hE:Y3' v n gg l=1:=by unfold Y3';rw [if_pos hc]
   have hK:=hK ⟨none,0,0⟩
   rw [X0',hE,if_neg (by decide)] at hK
   exact PO.fin Tryz.results10 (Zd' Zf') hK
  ·replace h2:(l.length == 0)=false:=by simpa using h2
   refine WL.e Za'<|WL.conv (M:=pu True::_) (fun S h=>Yt' trivial h) ?_
   refine WL.h (Zg' (Kq' (B:=pu True) (p:=fun x=>!meet x x) hA (by omega) (fun x=>CallV.of_spec (fs:=[]) (cs:=[]) (ZiJ_ x) k29)) k28 ?_)
   refine WL.e Zl'<|WL.next ?_
   refine WP.cond rfl (fun h3=>?_) (fun h3=>?_)
   ·replace h3:(l.any fun p=>!meet p p)=true:=h3
    have hc:(gg == 0 || l.length == 0 || l.any fun p=>!meet p p)=true:=by rw [h1,h2,h3];rfl
    refine WP.seq<|WP.reg<|WL.e Zb'<|WL.next<|WP.ret<|PO.past nofun ?_
    have hE:Y3' v n gg l=1:=by unfold Y3';rw [if_pos hc]
    have hK:=hK ⟨none,0,0⟩
    rw [X0',hE,if_neg (by decide)] at hK
    exact PO.fin Tryz.results10 (Zd' Zf') hK
   ·replace h3:(l.any fun p=>!meet p p)=false:=h3
    have hc:(gg == 0 || l.length == 0 || l.any fun p=>!meet p p)=false:=by rw [h1,h2,h3];rfl
    refine WP.opn (KM' (E:=E) (sp:=sp) (dp:=dp) (v:=v)) fun x=>?_
    obtain ⟨p,lm,bm⟩:=x
    dsimp only
    refine WP.skip<|PO.next<|WP.seq<|WP.seq<|WP.reg<|WL.e Za'<|WL.e (XE' (b:=0))<|WL.e Za' ?_
    refine WL.bool 29 rfl (fun h4=>?_) (fun h4=>?_)
    ·replace h4:(n != 0)=true:=h4
     refine WL.e Za'<|WL.e Zk'<|WL.e (e_fa Vj')<|WL.e (Zc' a78)<|WL.e Za'<|WL.e (JV' (n:=n) (ts:=v.l) Tryz.underlying78 (ZQ' Tryz.underlying24) zz82)<|WL.e (JW' pt82)<|WL.e Zn'<|WL.next ?_
     refine WP.cond rfl (fun h5=>?_) (fun h5=>?_)
     ·have hf:Zs' v.l n=none:=by cases e:Zs' v.l n with
       | none=>rfl
       | some t=>rw [e] at h5;cases h5
      have hd:(n != 0 && (Zs' v.l n).isNone)=true:=by rw [h4,hf];rfl
      refine WP.seq<|WP.reg<|WL.e Zb'<|WL.next<|WP.ret<|PO.past nofun ?_
      have hE:Y3' v n gg l=6:=by unfold Y3';rw [if_neg (by rw [hc];decide),if_pos hd]
      have hK:=hK ⟨none,0,0⟩
      rw [X0',hE,if_neg (by decide)] at hK
      refine PO.cls (A:=Si E sp dp (v)) (B:=[cl sp 81 [.iface E.T (.pointer (some ⟨p,0,none⟩)),.map (some lm),.map (some bm)],E.pc p dp (v.st),Mp eU32 (.map (some lm)) (List.map kvU (v.l)),TxsU TPS (v.l),Mp eU32 (.map (some bm)) (List.map kvB (v.bs)),Bnds 45 (v.bs)]) (fun S h=>⟨(p,lm,bm),h⟩) ?_
      exact PO.fin Tryz.results10 (Zd' Zf') hK
     ·have hd:(n != 0 && (Zs' v.l n).isNone)=false:=by cases e:Zs' v.l n with
       | none=>rw [e] at h5;cases h5
       | some t=>rw [h4];rfl
      refine WP.skip<|PO.next<|WP.seq<|WP.seq<|WP.reg<|WL.e Za'<|WL.e Zk'<|WL.e (e_fa Vk')<|WL.e (Zc' a79) ?_
      refine WL.h (Xt' (kvs:=List.map kvB v.bs) Tryz.underlying79 fun it=>?_)
      refine WL.next<|WP.block<|WP.loopK (fun (x:List BndV × Option (UInt32 × Value))=>[]) (fun (x:List BndV × Option (UInt32 × Value))=>MpIt eU32 (.map (some bm)) it (List.map kvB v.bs) (List.map kvB x.1) (x.2)::cl sp 81 [.iface E.T (.pointer (some ⟨p,0,none⟩)),.map (some lm),.map (some bm)]::E.pc p dp (v.st)::Mp eU32 (.map (some lm)) (List.map kvU (v.l))::TxsU TPS (v.l)::Bnds 45 (v.bs)::A::R) [(0,_),(1,_),(2,_),(3,_),(42,_)] (fun (x:List BndV × Option (UInt32 × Value))=>x.1.any (fun b:BndV=>b.g != gg && Z9' b.sp l)=v.bs.any (fun b:BndV=>b.g != gg && Z9' b.sp l)∧∀ y ∈ x.1,y ∈ v.bs) (fun (x:List BndV × Option (UInt32 × Value))=>x.1.length) (v.bs,none) (⟨rfl,fun _ h=>h⟩) ?_
      rintro ⟨left,cur⟩ ⟨hx1,hx2⟩
      simp only at hx1 hx2
      dsimp only
      refine WP.seq<|WP.reg ?_
      refine WL.h (XY' (fun h0=>?_) (fun a y0 b hx=>?_))
      ·have hl0:left=[]:=by simpa using h0
       subst hl0
       have h1b:v.bs.any (fun b:BndV=>b.g != gg && Z9' b.sp l)=false:=by rw [← hx1];rfl
       clear hx1 hx2 h0
       refine WL.e Ze'<|WL.next<|WP.seq<|WP.cond_f rfl<|WP.exit<|PO.past nofun<|PO.round nofun<|PO.blockX<|PO.next<|WP.seq<|WP.seq<|WP.reg<|WL.e Za'<|WL.e Zk'<|WL.e (e_fa Vj')<|WL.e (Zc' a78) ?_
       refine WL.h (Xt' (kvs:=List.map kvU v.l) Tryz.underlying78 fun it2=>?_)
       refine WL.next<|WP.block<|WP.loopK (fun (x:List (TxU UInt32 SiX) × Option (UInt32 × Value))=>[]) (fun (x:List (TxU UInt32 SiX) × Option (UInt32 × Value))=>MpIt eU32 (.map (some lm)) it2 (List.map kvU v.l) (List.map kvU x.1) (x.2)::cl sp 81 [.iface E.T (.pointer (some ⟨p,0,none⟩)),.map (some lm),.map (some bm)]::E.pc p dp (v.st)::TxsU TPS (v.l)::Mp eU32 (.map (some bm)) (List.map kvB (v.bs))::Bnds 45 (v.bs)::A::R) [(0,_),(1,_),(2,_),(3,_),(61,_)] (fun (x:List (TxU UInt32 SiX) × Option (UInt32 × Value))=>x.1.any (fun t:TxU UInt32 SiX=>t.id != n && Z9' t.x.sp l)=v.l.any (fun t:TxU UInt32 SiX=>t.id != n && Z9' t.x.sp l)∧∀ y ∈ x.1,y ∈ v.l) (fun (x:List (TxU UInt32 SiX) × Option (UInt32 × Value))=>x.1.length) (v.l,none) (⟨rfl,fun _ h=>h⟩) ?_
       rintro ⟨left,cur⟩ ⟨hx1,hx2⟩
       simp only at hx1 hx2
       dsimp only
       refine WP.seq<|WP.reg ?_
       refine WL.h (XY' (fun h0=>?_) (fun a y0 b hx=>?_))
       ·have hl0:left=[]:=by simpa using h0
        subst hl0
        have h2b:v.l.any (fun t:TxU UInt32 SiX=>t.id != n && Z9' t.x.sp l)=false:=by rw [← hx1];rfl
        refine WL.e Ze'<|WL.next<|WP.seq<|WP.cond_f rfl<|WP.exit<|PO.past nofun<|PO.round nofun<|PO.blockX<|PO.next<|WP.seq<|WP.draws Zq' 10<|RW.e 0 rfl Za'<|RW.e 1 rfl Zk'<|RW.e 2 rfl (e_fa Vk')<|RW.e 3 rfl (Zc' a79)<|RW.e 4 rfl Za'<|RW.e 5 rfl Za'<|RW.e 6 rfl Za' ?_
        refine RW.any (is:=[7]) rfl ⟨?_,trivial⟩
        refine RWat.h rfl rfl rfl ?_
        refine (Zg' (Zbk_ hA (by omega)) k32 ?_)
        intro a9 m9 c9
        refine ⟨⟨⟨_,rfl,.inl ⟨rfl,Za'⟩⟩,⟨_,rfl,.inl ⟨rfl,Za'⟩⟩,⟨_,rfl,.inl ⟨rfl,(Zc' a79)⟩⟩,⟨_,rfl,.inl ⟨rfl,(e_fa Vk')⟩⟩,⟨_,rfl,.inl ⟨rfl,Zk'⟩⟩,⟨_,rfl,.inl ⟨rfl,Za'⟩⟩,trivial⟩,?_⟩
        refine RW.e 8 rfl (Zv' z89 p89 (.o (.tmp 83) rfl<|.o (.tmp 85) rfl<|.n)) ?_
        refine RW.any (is:=[9]) rfl ⟨?_,trivial⟩
        refine RWat.h' rfl rfl rfl ?_
        refine (YI' (k:=gg) (kvs:=List.map kvB v.bs) Tryz.underlying79 (ZQ' Tryz.underlying24) ?_)
        rw [show mset (List.map kvB v.bs) gg (.agg #[.int .u32 n.toNat,.slice a9 m9 c9])=List.map kvB (setB v.bs ⟨gg,n,⟨a9,m9,c9⟩,l⟩) from Zfy_ v.bs ⟨gg,n,⟨a9,m9,c9⟩,l⟩]
        refine ⟨trivial,?_⟩
        refine RW.done<|PO.next<|WP.seq<|WP.reg<|WL.e Zb'<|WL.next<|WP.ret<|PO.cls (A:=Bnds 45 (setB v.bs ⟨gg,n,⟨a9,m9,c9⟩,l⟩)) (B:=[Sl 45 2 SpanM.c (.slice a9 m9 c9) l,Bnds 45 v.bs]) (fun S h=>ZfC_ (b:=⟨gg,n,⟨a9,m9,c9⟩,l⟩) S h) ?_
        have hE:Y3' v n gg l=0:=by unfold Y3';rw [if_neg (by rw [hc];decide),if_neg (by rw [hd];decide),if_neg (by rw [h1b];decide),if_neg (by rw [h2b];decide)]
        have hK:=hK ⟨a9,m9,c9⟩
        rw [X0',hE,if_pos rfl] at hK
        refine PO.cls (A:=Si E sp dp ({ v with bs:=setB v.bs ⟨gg,n,⟨a9,m9,c9⟩,l⟩ })) (B:=[cl sp 81 [.iface E.T (.pointer (some ⟨p,0,none⟩)),.map (some lm),.map (some bm)],E.pc p dp (v.st),Mp eU32 (.map (some lm)) (List.map kvU (v.l)),TxsU TPS (v.l),Mp eU32 (.map (some bm)) (List.map kvB (setB v.bs ⟨gg,n,⟨a9,m9,c9⟩,l⟩)),Bnds 45 (setB v.bs ⟨gg,n,⟨a9,m9,c9⟩,l⟩)]) (fun S h=>⟨(p,lm,bm),h⟩) ?_
        exact PO.fin Tryz.results10 (Zd' Zf') hK
       ·obtain ⟨A1,y,B1,hl,rfl,rfl,rfl⟩:=Xw' hx
        have hy:=hx2 y (by rw [hl];simp)
        obtain ⟨A2,B2,hAB⟩:=List.append_of_mem hy
        refine WL.opn (Y5' (TP:=TPS) hAB) fun _=>?_
        refine WL.opn (Qz' (t:=y)) fun y2=>?_
        try dsimp only
        refine WL.e Ze'<|WL.next<|WP.seq<|WP.cond_t rfl<|WP.skip<|PO.next<|WP.block<|WP.seq<|WP.reg<|WL.e Xi'<|WL.e Ze'<|WL.e Ze'<|WL.e Zb'<|WL.e Zb'<|WL.next<|WP.seq<|WP.reg<|WL.e Za'<|WL.e Za'<|WL.e (XE')<|WL.e Za' ?_
        refine WL.bool 70 rfl (fun h8=>?_) (fun h8=>?_)
        ·replace h8:(y.id != n)=true:=h8
         refine WL.e Za'<|WL.e Zk'<|WL.e (e_fa J2')<|WL.e (Zc' a22)<|WL.e Za' ?_
         refine WL.h (Zg' (QO' (Zr' (xs:=y.x.sp)) hA (by have:=hs.lens y hy;have:=M.okBB hs.ok;omega) (by omega)) k31 ?_)
         refine WL.e Zn'<|WL.next ?_
         refine WP.cond rfl (fun h9=>?_) (fun h9=>?_)
         ·replace h9:Z9' y.x.sp l=true:=h9
          have h2b:v.l.any (fun t:TxU UInt32 SiX=>t.id != n && Z9' t.x.sp l)=true:=by rw [← hx1,hl,Xx',show (y.id != n && Z9' y.x.sp l)=true by rw [h8,h9];rfl];rfl
          refine WP.seq<|WP.reg<|WL.e Zb'<|WL.next<|WP.ret<|PO.blockR<|PO.round nofun<|PO.blockR<|PO.past nofun ?_
          have hE:Y3' v n gg l=11:=by unfold Y3';rw [if_neg (by rw [hc];decide),if_neg (by rw [hd];decide),if_neg (by rw [h1b];decide),if_pos h2b]
          have hK:=hK ⟨none,0,0⟩
          rw [X0',hE,if_neg (by decide)] at hK
          refine PO.cls (A:=SiX_ y) (B:=[cl y.q 84 [.bool y.x.loc,y2.v],Sl 45 2 SpanM.c y2.v y.x.sp]) (fun S h=>⟨y2,h⟩) ?_
          refine PO.cls (A:=TxsU TPS v.l) (B:=[SiX_ y,TxsU TPS (A2++B2)]) (fun S h=>hAB ▸ Yb' (TP:=TPS) (t:=y) S h) ?_
          refine PO.conv (YS' (A:=MpIt eU32 (.map (some lm)) it2 (List.map kvU v.l) _ _) (B:=Mp eU32 (.map (some lm)) (List.map kvU v.l)) JT' (by repeat first | exact .z | apply Put.s)) ?_
          refine PO.cls (A:=Si E sp dp (v)) (B:=[cl sp 81 [.iface E.T (.pointer (some ⟨p,0,none⟩)),.map (some lm),.map (some bm)],E.pc p dp (v.st),Mp eU32 (.map (some lm)) (List.map kvU (v.l)),TxsU TPS (v.l),Mp eU32 (.map (some bm)) (List.map kvB (v.bs)),Bnds 45 (v.bs)]) (fun S h=>⟨(p,lm,bm),h⟩) ?_
          exact PO.fin Tryz.results10 (Zd' Zf') hK
         ·replace h9:Z9' y.x.sp l=false:=h9
          refine WP.skip<|PO.blockN<|PO.cls (A:=SiX_ y) (B:=[cl y.q 84 [.bool y.x.loc,y2.v],Sl 45 2 SpanM.c y2.v y.x.sp]) (fun S h=>⟨y2,h⟩) ?_
          refine PO.cls (A:=TxsU TPS v.l) (B:=[SiX_ y,TxsU TPS (A2++B2)]) (fun S h=>hAB ▸ Yb' (TP:=TPS) (t:=y) S h) ?_
          rw [← List.map_append]
          exact PO.againK (A1++B1,_) ⟨by simp only;rw [← hx1,hl,Xx',show (y.id != n && Z9' y.x.sp l)=false by rw [h8,h9];rfl];rfl,fun t ht=>hx2 t (by rw [hl];rcases List.mem_append.1 ht with h | h <;> simp [h])⟩ (by simp only [hl,List.length_append,List.length_cons];omega)
        ·replace h8:(y.id != n)=false:=h8
         refine WL.skip<|WL.skip<|WL.skip<|WL.skip<|WL.skip<|WL.skip<|WL.e Zl'<|WL.next<|WP.cond_f rfl<|WP.skip<|PO.blockN<|PO.cls (A:=SiX_ y) (B:=[cl y.q 84 [.bool y.x.loc,y2.v],Sl 45 2 SpanM.c y2.v y.x.sp]) (fun S h=>⟨y2,h⟩) ?_
         refine PO.cls (A:=TxsU TPS v.l) (B:=[SiX_ y,TxsU TPS (A2++B2)]) (fun S h=>hAB ▸ Yb' (TP:=TPS) (t:=y) S h) ?_
         rw [← List.map_append]
         exact PO.againK (A1++B1,_) ⟨by simp only;rw [← hx1,hl,Xx',show (y.id != n && Z9' y.x.sp l)=false by rw [h8];rfl];rfl,fun t ht=>hx2 t (by rw [hl];rcases List.mem_append.1 ht with h | h <;> simp [h])⟩ (by simp only [hl,List.length_append,List.length_cons];omega)
      ·obtain ⟨A1,y,B1,hl,rfl,rfl,rfl⟩:=Xw' hx
       have hy:=hx2 y (by rw [hl];simp)
       obtain ⟨A2,B2,hAB⟩:=List.append_of_mem hy
       refine WL.opn (ZbI_ (E:=45) hAB) fun _=>?_
       refine WL.e Ze'<|WL.next<|WP.seq<|WP.cond_t rfl<|WP.skip<|PO.next<|WP.block<|WP.seq<|WP.reg<|WL.e Xi'<|WL.e Ze'<|WL.e Ze' ?_
       refine WL.h (Zu' z89 fun b1=>?_)
       refine WL.e Zb' ?_
       refine WL.h' (Zj' s89 ?_)
       refine WL.next<|WP.seq<|WP.reg<|WL.e Za'<|WL.e Za'<|WL.e (XE')<|WL.e Za' ?_
       refine WL.bool 51 rfl (fun h6=>?_) (fun h6=>?_)
       ·replace h6:(y.g != gg)=true:=h6
        refine WL.e (e_fa ZiF_)<|WL.e (Zc' a22)<|WL.e Za' ?_
        refine WL.h (Zg' (QO' (Zr' (xs:=y.sp)) hA (hs.bsp y hy) (by omega)) k31 ?_)
        refine WL.e Zn'<|WL.next ?_
        refine WP.cond rfl (fun h7=>?_) (fun h7=>?_)
        ·replace h7:Z9' y.sp l=true:=h7
         have h1b:v.bs.any (fun b:BndV=>b.g != gg && Z9' b.sp l)=true:=by rw [← hx1,hl,Xx',show (y.g != gg && Z9' y.sp l)=true by rw [h6,h7];rfl];rfl
         refine WP.seq<|WP.reg<|WL.e Zb'<|WL.next<|WP.ret<|PO.blockR<|PO.round nofun<|PO.blockR<|PO.past nofun ?_
         have hE:Y3' v n gg l=11:=by unfold Y3';rw [if_neg (by rw [hc];decide),if_neg (by rw [hd];decide),if_pos h1b]
         have hK:=hK ⟨none,0,0⟩
         rw [X0',hE,if_neg (by decide)] at hK
         refine PO.cls (A:=Bnds 45 v.bs) (B:=[Sl 45 2 SpanM.c y.sv.v y.sp,Bnds 45 (A2++B2)]) (fun S h=>hAB ▸ Jv' S h) ?_
         refine PO.conv (YS' (A:=MpIt eU32 (.map (some bm)) it (List.map kvB v.bs) _ _) (B:=Mp eU32 (.map (some bm)) (List.map kvB v.bs)) JT' (by repeat first | exact .z | apply Put.s)) ?_
         refine PO.cls (A:=Si E sp dp (v)) (B:=[cl sp 81 [.iface E.T (.pointer (some ⟨p,0,none⟩)),.map (some lm),.map (some bm)],E.pc p dp (v.st),Mp eU32 (.map (some lm)) (List.map kvU (v.l)),TxsU TPS (v.l),Mp eU32 (.map (some bm)) (List.map kvB (v.bs)),Bnds 45 (v.bs)]) (fun S h=>⟨(p,lm,bm),h⟩) ?_
         exact PO.fin Tryz.results10 (Zd' Zf') hK
        ·replace h7:Z9' y.sp l=false:=h7
         refine WP.skip<|PO.blockN<|PO.cls (A:=Bnds 45 v.bs) (B:=[Sl 45 2 SpanM.c y.sv.v y.sp,Bnds 45 (A2++B2)]) (fun S h=>hAB ▸ Jv' S h) ?_
         rw [← List.map_append]
         exact PO.againK (A1++B1,_) ⟨by simp only;rw [← hx1,hl,Xx',show (y.g != gg && Z9' y.sp l)=false by rw [h6,h7];rfl];rfl,fun t ht=>hx2 t (by rw [hl];rcases List.mem_append.1 ht with h | h <;> simp [h])⟩ (by simp only [hl,List.length_append,List.length_cons];omega)
       ·replace h6:(y.g != gg)=false:=h6
        refine WL.skip<|WL.skip<|WL.skip<|WL.skip<|WL.e Zl'<|WL.next<|WP.cond_f rfl<|WP.skip<|PO.blockN<|PO.cls (A:=Bnds 45 v.bs) (B:=[Sl 45 2 SpanM.c y.sv.v y.sp,Bnds 45 (A2++B2)]) (fun S h=>hAB ▸ Jv' S h) ?_
        rw [← List.map_append]
        exact PO.againK (A1++B1,_) ⟨by simp only;rw [← hx1,hl,Xx',show (y.g != gg && Z9' y.sp l)=false by rw [h6];rfl];rfl,fun t ht=>hx2 t (by rw [hl];rcases List.mem_append.1 ht with h | h <;> simp [h])⟩ (by simp only [hl,List.length_append,List.length_cons];omega)
    ·replace h4:(n != 0)=false:=h4
     have hd:(n != 0 && (Zs' v.l n).isNone)=false:=by rw [h4];rfl
     refine WL.skip<|WL.skip<|WL.skip<|WL.skip<|WL.skip<|WL.skip<|WL.skip<|WL.e Zl'<|WL.next<|WP.cond_f rfl<|WP.skip<|PO.next<|WP.seq<|WP.seq<|WP.reg<|WL.e Za'<|WL.e Zk'<|WL.e (e_fa Vk')<|WL.e (Zc' a79) ?_
     refine WL.h (Xt' (kvs:=List.map kvB v.bs) Tryz.underlying79 fun it=>?_)
     refine WL.next<|WP.block<|WP.loopK (fun (x:List BndV × Option (UInt32 × Value))=>[]) (fun (x:List BndV × Option (UInt32 × Value))=>MpIt eU32 (.map (some bm)) it (List.map kvB v.bs) (List.map kvB x.1) (x.2)::cl sp 81 [.iface E.T (.pointer (some ⟨p,0,none⟩)),.map (some lm),.map (some bm)]::E.pc p dp (v.st)::Mp eU32 (.map (some lm)) (List.map kvU (v.l))::TxsU TPS (v.l)::Bnds 45 (v.bs)::A::R) [(0,_),(1,_),(2,_),(3,_),(42,_)] (fun (x:List BndV × Option (UInt32 × Value))=>x.1.any (fun b:BndV=>b.g != gg && Z9' b.sp l)=v.bs.any (fun b:BndV=>b.g != gg && Z9' b.sp l)∧∀ y ∈ x.1,y ∈ v.bs) (fun (x:List BndV × Option (UInt32 × Value))=>x.1.length) (v.bs,none) (⟨rfl,fun _ h=>h⟩) ?_
     rintro ⟨left,cur⟩ ⟨hx1,hx2⟩
     simp only at hx1 hx2
     dsimp only
     refine WP.seq<|WP.reg ?_
     refine WL.h (XY' (fun h0=>?_) (fun a y0 b hx=>?_))
     ·have hl0:left=[]:=by simpa using h0
      subst hl0
      have h1b:v.bs.any (fun b:BndV=>b.g != gg && Z9' b.sp l)=false:=by rw [← hx1];rfl
      clear hx1 hx2 h0
      refine WL.e Ze'<|WL.next<|WP.seq<|WP.cond_f rfl<|WP.exit<|PO.past nofun<|PO.round nofun<|PO.blockX<|PO.next<|WP.seq<|WP.seq<|WP.reg<|WL.e Za'<|WL.e Zk'<|WL.e (e_fa Vj')<|WL.e (Zc' a78) ?_
      refine WL.h (Xt' (kvs:=List.map kvU v.l) Tryz.underlying78 fun it2=>?_)
      refine WL.next<|WP.block<|WP.loopK (fun (x:List (TxU UInt32 SiX) × Option (UInt32 × Value))=>[]) (fun (x:List (TxU UInt32 SiX) × Option (UInt32 × Value))=>MpIt eU32 (.map (some lm)) it2 (List.map kvU v.l) (List.map kvU x.1) (x.2)::cl sp 81 [.iface E.T (.pointer (some ⟨p,0,none⟩)),.map (some lm),.map (some bm)]::E.pc p dp (v.st)::TxsU TPS (v.l)::Mp eU32 (.map (some bm)) (List.map kvB (v.bs))::Bnds 45 (v.bs)::A::R) [(0,_),(1,_),(2,_),(3,_),(61,_)] (fun (x:List (TxU UInt32 SiX) × Option (UInt32 × Value))=>x.1.any (fun t:TxU UInt32 SiX=>t.id != n && Z9' t.x.sp l)=v.l.any (fun t:TxU UInt32 SiX=>t.id != n && Z9' t.x.sp l)∧∀ y ∈ x.1,y ∈ v.l) (fun (x:List (TxU UInt32 SiX) × Option (UInt32 × Value))=>x.1.length) (v.l,none) (⟨rfl,fun _ h=>h⟩) ?_
      rintro ⟨left,cur⟩ ⟨hx1,hx2⟩
      simp only at hx1 hx2
      dsimp only
      refine WP.seq<|WP.reg ?_
      refine WL.h (XY' (fun h0=>?_) (fun a y0 b hx=>?_))
      ·have hl0:left=[]:=by simpa using h0
       subst hl0
       have h2b:v.l.any (fun t:TxU UInt32 SiX=>t.id != n && Z9' t.x.sp l)=false:=by rw [← hx1];rfl
       refine WL.e Ze'<|WL.next<|WP.seq<|WP.cond_f rfl<|WP.exit<|PO.past nofun<|PO.round nofun<|PO.blockX<|PO.next<|WP.seq<|WP.draws Zq' 10<|RW.e 0 rfl Za'<|RW.e 1 rfl Zk'<|RW.e 2 rfl (e_fa Vk')<|RW.e 3 rfl (Zc' a79)<|RW.e 4 rfl Za'<|RW.e 5 rfl Za'<|RW.e 6 rfl Za' ?_
       refine RW.any (is:=[7]) rfl ⟨?_,trivial⟩
       refine RWat.h rfl rfl rfl ?_
       refine (Zg' (Zbk_ hA (by omega)) k32 ?_)
       intro a9 m9 c9
       refine ⟨⟨⟨_,rfl,.inl ⟨rfl,Za'⟩⟩,⟨_,rfl,.inl ⟨rfl,Za'⟩⟩,⟨_,rfl,.inl ⟨rfl,(Zc' a79)⟩⟩,⟨_,rfl,.inl ⟨rfl,(e_fa Vk')⟩⟩,⟨_,rfl,.inl ⟨rfl,Zk'⟩⟩,⟨_,rfl,.inl ⟨rfl,Za'⟩⟩,trivial⟩,?_⟩
       refine RW.e 8 rfl (Zv' z89 p89 (.o (.tmp 83) rfl<|.o (.tmp 85) rfl<|.n)) ?_
       refine RW.any (is:=[9]) rfl ⟨?_,trivial⟩
       refine RWat.h' rfl rfl rfl ?_
       refine (YI' (k:=gg) (kvs:=List.map kvB v.bs) Tryz.underlying79 (ZQ' Tryz.underlying24) ?_)
       rw [show mset (List.map kvB v.bs) gg (.agg #[.int .u32 n.toNat,.slice a9 m9 c9])=List.map kvB (setB v.bs ⟨gg,n,⟨a9,m9,c9⟩,l⟩) from Zfy_ v.bs ⟨gg,n,⟨a9,m9,c9⟩,l⟩]
       refine ⟨trivial,?_⟩
       refine RW.done<|PO.next<|WP.seq<|WP.reg<|WL.e Zb'<|WL.next<|WP.ret<|PO.cls (A:=Bnds 45 (setB v.bs ⟨gg,n,⟨a9,m9,c9⟩,l⟩)) (B:=[Sl 45 2 SpanM.c (.slice a9 m9 c9) l,Bnds 45 v.bs]) (fun S h=>ZfC_ (b:=⟨gg,n,⟨a9,m9,c9⟩,l⟩) S h) ?_
       have hE:Y3' v n gg l=0:=by unfold Y3';rw [if_neg (by rw [hc];decide),if_neg (by rw [hd];decide),if_neg (by rw [h1b];decide),if_neg (by rw [h2b];decide)]
       have hK:=hK ⟨a9,m9,c9⟩
       rw [X0',hE,if_pos rfl] at hK
       refine PO.cls (A:=Si E sp dp ({ v with bs:=setB v.bs ⟨gg,n,⟨a9,m9,c9⟩,l⟩ })) (B:=[cl sp 81 [.iface E.T (.pointer (some ⟨p,0,none⟩)),.map (some lm),.map (some bm)],E.pc p dp (v.st),Mp eU32 (.map (some lm)) (List.map kvU (v.l)),TxsU TPS (v.l),Mp eU32 (.map (some bm)) (List.map kvB (setB v.bs ⟨gg,n,⟨a9,m9,c9⟩,l⟩)),Bnds 45 (setB v.bs ⟨gg,n,⟨a9,m9,c9⟩,l⟩)]) (fun S h=>⟨(p,lm,bm),h⟩) ?_
       exact PO.fin Tryz.results10 (Zd' Zf') hK
      ·obtain ⟨A1,y,B1,hl,rfl,rfl,rfl⟩:=Xw' hx
       have hy:=hx2 y (by rw [hl];simp)
       obtain ⟨A2,B2,hAB⟩:=List.append_of_mem hy
       refine WL.opn (Y5' (TP:=TPS) hAB) fun _=>?_
       refine WL.opn (Qz' (t:=y)) fun y2=>?_
       try dsimp only
       refine WL.e Ze'<|WL.next<|WP.seq<|WP.cond_t rfl<|WP.skip<|PO.next<|WP.block<|WP.seq<|WP.reg<|WL.e Xi'<|WL.e Ze'<|WL.e Ze'<|WL.e Zb'<|WL.e Zb'<|WL.next<|WP.seq<|WP.reg<|WL.e Za'<|WL.e Za'<|WL.e (XE')<|WL.e Za' ?_
       refine WL.bool 70 rfl (fun h8=>?_) (fun h8=>?_)
       ·replace h8:(y.id != n)=true:=h8
        refine WL.e Za'<|WL.e Zk'<|WL.e (e_fa J2')<|WL.e (Zc' a22)<|WL.e Za' ?_
        refine WL.h (Zg' (QO' (Zr' (xs:=y.x.sp)) hA (by have:=hs.lens y hy;have:=M.okBB hs.ok;omega) (by omega)) k31 ?_)
        refine WL.e Zn'<|WL.next ?_
        refine WP.cond rfl (fun h9=>?_) (fun h9=>?_)
        ·replace h9:Z9' y.x.sp l=true:=h9
         have h2b:v.l.any (fun t:TxU UInt32 SiX=>t.id != n && Z9' t.x.sp l)=true:=by rw [← hx1,hl,Xx',show (y.id != n && Z9' y.x.sp l)=true by rw [h8,h9];rfl];rfl
         refine WP.seq<|WP.reg<|WL.e Zb'<|WL.next<|WP.ret<|PO.blockR<|PO.round nofun<|PO.blockR<|PO.past nofun ?_
         have hE:Y3' v n gg l=11:=by unfold Y3';rw [if_neg (by rw [hc];decide),if_neg (by rw [hd];decide),if_neg (by rw [h1b];decide),if_pos h2b]
         have hK:=hK ⟨none,0,0⟩
         rw [X0',hE,if_neg (by decide)] at hK
         refine PO.cls (A:=SiX_ y) (B:=[cl y.q 84 [.bool y.x.loc,y2.v],Sl 45 2 SpanM.c y2.v y.x.sp]) (fun S h=>⟨y2,h⟩) ?_
         refine PO.cls (A:=TxsU TPS v.l) (B:=[SiX_ y,TxsU TPS (A2++B2)]) (fun S h=>hAB ▸ Yb' (TP:=TPS) (t:=y) S h) ?_
         refine PO.conv (YS' (A:=MpIt eU32 (.map (some lm)) it2 (List.map kvU v.l) _ _) (B:=Mp eU32 (.map (some lm)) (List.map kvU v.l)) JT' (by repeat first | exact .z | apply Put.s)) ?_
         refine PO.cls (A:=Si E sp dp (v)) (B:=[cl sp 81 [.iface E.T (.pointer (some ⟨p,0,none⟩)),.map (some lm),.map (some bm)],E.pc p dp (v.st),Mp eU32 (.map (some lm)) (List.map kvU (v.l)),TxsU TPS (v.l),Mp eU32 (.map (some bm)) (List.map kvB (v.bs)),Bnds 45 (v.bs)]) (fun S h=>⟨(p,lm,bm),h⟩) ?_
         exact PO.fin Tryz.results10 (Zd' Zf') hK
        ·replace h9:Z9' y.x.sp l=false:=h9
         refine WP.skip<|PO.blockN<|PO.cls (A:=SiX_ y) (B:=[cl y.q 84 [.bool y.x.loc,y2.v],Sl 45 2 SpanM.c y2.v y.x.sp]) (fun S h=>⟨y2,h⟩) ?_
         refine PO.cls (A:=TxsU TPS v.l) (B:=[SiX_ y,TxsU TPS (A2++B2)]) (fun S h=>hAB ▸ Yb' (TP:=TPS) (t:=y) S h) ?_
         rw [← List.map_append]
         exact PO.againK (A1++B1,_) ⟨by simp only;rw [← hx1,hl,Xx',show (y.id != n && Z9' y.x.sp l)=false by rw [h8,h9];rfl];rfl,fun t ht=>hx2 t (by rw [hl];rcases List.mem_append.1 ht with h | h <;> simp [h])⟩ (by simp only [hl,List.length_append,List.length_cons];omega)
       ·replace h8:(y.id != n)=false:=h8
        refine WL.skip<|WL.skip<|WL.skip<|WL.skip<|WL.skip<|WL.skip<|WL.e Zl'<|WL.next<|WP.cond_f rfl<|WP.skip<|PO.blockN<|PO.cls (A:=SiX_ y) (B:=[cl y.q 84 [.bool y.x.loc,y2.v],Sl 45 2 SpanM.c y2.v y.x.sp]) (fun S h=>⟨y2,h⟩) ?_
        refine PO.cls (A:=TxsU TPS v.l) (B:=[SiX_ y,TxsU TPS (A2++B2)]) (fun S h=>hAB ▸ Yb' (TP:=TPS) (t:=y) S h) ?_
        rw [← List.map_append]
        exact PO.againK (A1++B1,_) ⟨by simp only;rw [← hx1,hl,Xx',show (y.id != n && Z9' y.x.sp l)=false by rw [h8];rfl];rfl,fun t ht=>hx2 t (by rw [hl];rcases List.mem_append.1 ht with h | h <;> simp [h])⟩ (by simp only [hl,List.length_append,List.length_cons];omega)
     ·obtain ⟨A1,y,B1,hl,rfl,rfl,rfl⟩:=Xw' hx
      have hy:=hx2 y (by rw [hl];simp)
      obtain ⟨A2,B2,hAB⟩:=List.append_of_mem hy
      refine WL.opn (ZbI_ (E:=45) hAB) fun _=>?_
      refine WL.e Ze'<|WL.next<|WP.seq<|WP.cond_t rfl<|WP.skip<|PO.next<|WP.block<|WP.seq<|WP.reg<|WL.e Xi'<|WL.e Ze'<|WL.e Ze' ?_
      refine WL.h (Zu' z89 fun b2=>?_)
      refine WL.e Zb' ?_
      refine WL.h' (Zj' s89 ?_)
      refine WL.next<|WP.seq<|WP.reg<|WL.e Za'<|WL.e Za'<|WL.e (XE')<|WL.e Za' ?_
      refine WL.bool 51 rfl (fun h6=>?_) (fun h6=>?_)
      ·replace h6:(y.g != gg)=true:=h6
       refine WL.e (e_fa ZiF_)<|WL.e (Zc' a22)<|WL.e Za' ?_
       refine WL.h (Zg' (QO' (Zr' (xs:=y.sp)) hA (hs.bsp y hy) (by omega)) k31 ?_)
       refine WL.e Zn'<|WL.next ?_
       refine WP.cond rfl (fun h7=>?_) (fun h7=>?_)
       ·replace h7:Z9' y.sp l=true:=h7
        have h1b:v.bs.any (fun b:BndV=>b.g != gg && Z9' b.sp l)=true:=by rw [← hx1,hl,Xx',show (y.g != gg && Z9' y.sp l)=true by rw [h6,h7];rfl];rfl
        refine WP.seq<|WP.reg<|WL.e Zb'<|WL.next<|WP.ret<|PO.blockR<|PO.round nofun<|PO.blockR<|PO.past nofun ?_
        have hE:Y3' v n gg l=11:=by unfold Y3';rw [if_neg (by rw [hc];decide),if_neg (by rw [hd];decide),if_pos h1b]
        have hK:=hK ⟨none,0,0⟩
        rw [X0',hE,if_neg (by decide)] at hK
        refine PO.cls (A:=Bnds 45 v.bs) (B:=[Sl 45 2 SpanM.c y.sv.v y.sp,Bnds 45 (A2++B2)]) (fun S h=>hAB ▸ Jv' S h) ?_
        refine PO.conv (YS' (A:=MpIt eU32 (.map (some bm)) it (List.map kvB v.bs) _ _) (B:=Mp eU32 (.map (some bm)) (List.map kvB v.bs)) JT' (by repeat first | exact .z | apply Put.s)) ?_
        refine PO.cls (A:=Si E sp dp (v)) (B:=[cl sp 81 [.iface E.T (.pointer (some ⟨p,0,none⟩)),.map (some lm),.map (some bm)],E.pc p dp (v.st),Mp eU32 (.map (some lm)) (List.map kvU (v.l)),TxsU TPS (v.l),Mp eU32 (.map (some bm)) (List.map kvB (v.bs)),Bnds 45 (v.bs)]) (fun S h=>⟨(p,lm,bm),h⟩) ?_
        exact PO.fin Tryz.results10 (Zd' Zf') hK
       ·replace h7:Z9' y.sp l=false:=h7
        refine WP.skip<|PO.blockN<|PO.cls (A:=Bnds 45 v.bs) (B:=[Sl 45 2 SpanM.c y.sv.v y.sp,Bnds 45 (A2++B2)]) (fun S h=>hAB ▸ Jv' S h) ?_
        rw [← List.map_append]
        exact PO.againK (A1++B1,_) ⟨by simp only;rw [← hx1,hl,Xx',show (y.g != gg && Z9' y.sp l)=false by rw [h6,h7];rfl];rfl,fun t ht=>hx2 t (by rw [hl];rcases List.mem_append.1 ht with h | h <;> simp [h])⟩ (by simp only [hl,List.length_append,List.length_cons];omega)
      ·replace h6:(y.g != gg)=false:=h6
       refine WL.skip<|WL.skip<|WL.skip<|WL.skip<|WL.e Zl'<|WL.next<|WP.cond_f rfl<|WP.skip<|PO.blockN<|PO.cls (A:=Bnds 45 v.bs) (B:=[Sl 45 2 SpanM.c y.sv.v y.sp,Bnds 45 (A2++B2)]) (fun S h=>hAB ▸ Jv' S h) ?_
       rw [← List.map_append]
       exact PO.againK (A1++B1,_) ⟨by simp only;rw [← hx1,hl,Xx',show (y.g != gg && Z9' y.sp l)=false by rw [h6];rfl];rfl,fun t ht=>hx2 t (by rw [hl];rcases List.mem_append.1 ht with h | h <;> simp [h])⟩ (by simp only [hl,List.length_append,List.length_cons];omega)
end Go.SL
set_option linter.unusedSectionVars false
namespace Go.SL
open Go
theorem Zhh_ {M:EngM} {v:SiteV M.St} {n:UInt32} {x:OpM} {t:TxU UInt32 SiX} {m:Nat} (hf:Zs' v.l n=some t) (hx:opOk x=true) (hm:mayS v.bs n t.x.loc (Zi' x)=m) (h0:m≠0):doSi v n x=.err v m:=by
  unfold doSi;rw [hf];simp only [K3' hx,if_true,hm,h0,if_false,hx]
section
variable {st : StV} {ts : List TxT} {b : Nat} {l : List (TxU UInt32 SiX)} {bs : List BndV}
theorem Zdb_ (h:AtS YC' st ts [] b) (n:UInt32) (loc:Bool) (q q2:Nat) (h0:n≠0) (hf:Zs' ts n=none) (hl:ts.length < 32) (hfl:Zs' l n=none) :
    Yk'.begE st n=0∧∃ st':StV,Qi' (M:=Yk') ⟨st,l,bs⟩ n loc q q2=⟨st',l++[⟨n,q2,⟨loc,[]⟩⟩],bs⟩∧AtS YC' st' (ts++[⟨n,q,⟨0,[],[],[]⟩⟩]) [] b:=by
  obtain ⟨e,h2⟩:=h.beg n q h0 hf hl
  have e':Yk'.begE st n=0:=e
  refine ⟨e',begS st n q,?_,h2⟩
  unfold Qi'
  rw [if_pos e',Zmb_ hfl];rfl
theorem ZnA_ (h:AtS YC' st ts [] b) {n:UInt32} {t:TxT} (hf:Zs' ts n=some t) {k:ByteArray} (hk:Yz' k=true) (v:UInt32) (hb:b≤1000) {u:TxU UInt32 SiX} (hfl:Zs' l n=some u) (hm:mayS bs n u.x.loc (one k)=0) :
    ∃ st':StV,doSi (M:=Yk') ⟨st,l,bs⟩ n (Ko' k v)=.put (fun _=>⟨st',setU l n { u.x with sp:=u.x.sp++[one k] },bs⟩)∧AtS YC' st' (setU ts n { t.x with own:=t.x.own++[⟨k,v,false⟩] }) [] (b+1):=by
  obtain ⟨s',e,h2⟩:=h.put hf hk v hb
  have hx:opOk (Ko' k v)=true:=by rw [ZeR_];exact hk
  have e2:Yk'.doS st n (Ko' k v)=.put fun _=>s':=by show (doB st n (Ko' k v)).e=_;rw [e];rfl
  refine ⟨s',?_,h2⟩
  unfold doSi
  simp only [hfl,K3' hx,if_true,show mayS bs n u.x.loc (Zi' (Ko' k v))=0 from hm,e2]
  rfl
theorem Zhi_ (h:AtS YC' st ts [] b) {n:UInt32} {t:TxT} (hf:Zs' ts n=some t) {k:ByteArray} (hk:Yz' k=true) (hb:b≤1000) {u:TxU UInt32 SiX} (hfl:Zs' l n=some u) (hm:mayS bs n u.x.loc (one k)=0) :
    ∃ (st':StV) (r:List RowM),doSi (M:=Yk') ⟨st,l,bs⟩ n (J0' k)=.look ⟨st',setU l n { u.x with sp:=u.x.sp++[one k] },bs⟩ r∧AtS YC' st' (setU ts n { t.x with looked:=t.x.looked++[one k] }) [] (b+1):=by
  obtain ⟨s',e,h2⟩:=h.get hf hk hb
  have hx:opOk (J0' k)=true:=by rw [ZeS_];exact hk
  have e2:Yk'.doS st n (J0' k)=.look s' (ZT' (Zw' (ZJ' [] t.x.at_.toNat) t.x.own) (one k) 256):=by show (doB st n (J0' k)).e=_;rw [e];rfl
  refine ⟨s',ZT' (Zw' (ZJ' [] t.x.at_.toNat) t.x.own) (one k) 256,?_,h2⟩
  unfold doSi
  simp only [hfl,K3' hx,if_true,show mayS bs n u.x.loc (Zi' (J0' k))=0 from hm,e2]
  rfl
theorem ZnB_ (h:AtS YC' st ts [] b) {n:UInt32} {t:TxT} (hf:Zs' ts n=some t):Yk'.aboE st n=0∧∃ st':StV,UV' (M:=Yk') ⟨st,l,bs⟩ n=⟨st',delU l n,bs⟩∧AtS YC' st' (delU ts n) [] b:=by
  obtain ⟨e,h2⟩:=h.abo hf
  exact ⟨e,aboS YG' st n,rfl,h2⟩
theorem Q5' (h:AtS YC' st ts [] b) (hz:∀ t ∈ ts,t.id≠0) (hn:(l.map (·.id)).Nodup) (hs:∀ t ∈ l,t.x.sp.length≤b) (hl:l.length≤b) (hb:bs.length≤b) (hbs:∀ x ∈ bs,x.sp.length≤68719476736):SiOk (M:=Yk') ⟨st,l,bs⟩ b:=
  ⟨⟨h.ok,fun t ht=>hz t (by rw [← h.txs];exact ht)⟩,hn,hs,hl,hb,hbs⟩
theorem ZkG_:AtS YC' stF [] [] 10:=⟨YC'.mono ZdD_ (by decide) (by decide),rfl,rfl,Nat.zero_le _⟩
end
def keyT:ByteArray:=⟨#[95,116]⟩
theorem ZnC_:Yz' keyT=true:=by
  have h1:sEq keyT ⟨#[]⟩=false:=Zjy_ (by simp [keyT])
  have h2:allR Xu' keyT=true:=by decide +kernel
  simp [Yz',h1,h2];decide
theorem ZoO_:mayS [] 1 true (one keyT)=10:=by decide +kernel
theorem ZoP_:mayS [] 1 true (one kA)=0:=by decide +kernel
def bnd9 (sv:SV):BndV:=⟨9,2,sv,[one kA]⟩
theorem ZoQ_ (sv:SV):mayS [bnd9 sv] 3 true (one kA)=10:=by
  have:anyS (one kA) [one kA]=true:=by decide +kernel
  simp [mayS,XJ',bnd9,this]
theorem ZoR_ (sv:SV):mayS [bnd9 sv] 2 false (one kA)=0:=by simp [mayS,XJ',bnd9]
theorem Zoo_:mayS [] 3 true (one kA)=0:=by decide +kernel
theorem ZmG_:badS 9 [one kA]=false:=by decide +kernel
theorem ZnD_:Z9' [one kA] [one kA]=true:=by decide +kernel
end Go.SL
namespace Go.SL.Fc
open Go Go.Proofs Go.SL
theorem k10:Zh' Tryz.prog 10=true:=by kernel_rfl
theorem k12:Zh' Tryz.prog 12=true:=by kernel_rfl
theorem k15:Zh' Tryz.prog 15=true:=by kernel_rfl
theorem k16:Zh' Tryz.prog 16=true:=by kernel_rfl
theorem k17:Zh' Tryz.prog 17=true:=by kernel_rfl
theorem k25:Zh' Tryz.prog 25=true:=by kernel_rfl
theorem k26:Zh' Tryz.prog 26=true:=by kernel_rfl
theorem k42:Zh' Tryz.prog 42=true:=by kernel_rfl
theorem k43:Zh' Tryz.prog 43=true:=by kernel_rfl
theorem k44:Zh' Tryz.prog 44=true:=by kernel_rfl
theorem k7:Zh' Tryz.prog 7=true:=by kernel_rfl
theorem k9:Zh' Tryz.prog 9=true:=by kernel_rfl
theorem p26:Ya' Tryz.prog 26=some [(0,1),(1,1),(2,1),(3,1)]:=by kernel_rfl
theorem p81:Ya' Tryz.prog 81=some [(0,1),(1,1),(2,1)]:=by kernel_rfl
theorem z26:ZH' Tryz.prog 26=some [.int .u8 0,.string .empty,.string .empty,.int .u32 0]:=by kernel_rfl
theorem z81:ZH' Tryz.prog 81=some [.nilIface,.map none,.map none]:=by kernel_rfl
end Go.SL.Fc
namespace Go.SL
open Go Go.Proofs Fc
theorem ZiK_ {g:World} {dp:Nat}:Spec Tryz.prog g 26 [.int .u8 1,.pointer (some ⟨dp,0,none⟩)] [Dk dp (Z0' 4096)] fun K R=>∀ sp,K (.tuple #[.pointer (some ⟨sp,0,none⟩),.int .i64 0]) (Si (JR' (g:=g)) sp dp ⟨KE'.first,[],[]⟩::R):=by
 refine Spec.intro Tryz.func26 rfl Tryz.ntmps26 rfl fun R K hK=>?_
 refine WP.seq<|WP.reg<|WL.e Zb'<|WL.e Zb'<|WL.next<|WP.seq<|WP.reg<|WL.e Zb'<|WL.next<|WP.seq<|WP.reg<|WL.e Zb'<|WL.next<|WP.seq<|WP.seq<|WP.reg<|WL.e Za'<|WL.next<|WP.block<|WP.seq<|WP.reg<|WL.e ZM'<|WL.e Zb'<|WL.next ?_
 refine WP.cond_t rfl<|WP.reg<|WL.e Za' ?_
 refine WL.h (Zg' (ZdK_ (d:=Z0' 4096) (at0:=0) [] DiskLogB.first (by simp) (by simp)) k42 ?_)
 intro p
 refine WL.e Za'<|WL.e Ze'<|WL.e (Uq' Tryz.underlying108)<|WL.e Ze'<|WL.e Zb'<|WL.e Zb'<|WL.nil<|PO.blockN<|PO.next<|WP.seq<|WP.seq<|WP.reg<|WL.e Za'<|WL.e Z2'<|WL.next<|WP.cond_f rfl<|WP.skip<|PO.next<|WP.seq<|WP.reg<|WL.e Za' ?_
 refine WL.h (YN' (ek:=eU32) fun lm=>?_)
 refine WL.h (YN' (ek:=eU32) fun bm=>?_)
 refine WL.e (Zv' z81 p81 (.o (.tmp 36) rfl<|.o (.tmp 37) rfl<|.o (.tmp 38) rfl<|.n)) ?_
 refine WL.h (ZL' fun b1=>?_)
 refine WL.e Zb'<|WL.e Zb'<|WL.next<|WP.ret<|PO.cls (A:=(JR' (g:=g)).pc p dp (stF)) (B:=[As p dp stF,TxsU TPA []]) (fun S h=>h) ?_
 refine PO.conv (fun S h=>Vz' (TP:=TPS) h) ?_
 refine PO.conv (fun S h=>ZbH_ (E:=45) h) ?_
 refine PO.cls (A:=Si (JR' (g:=g)) b1 dp ⟨KE'.first,[],[]⟩) (B:=[cl b1 81 [.iface (JR' (g:=g)).T (.pointer (some ⟨p,0,none⟩)),.map (some lm),.map (some bm)],(JR' (g:=g)).pc p dp (stF),Mp eU32 (.map (some lm)) (List.map kvU ([])),TxsU TPS ([]),Mp eU32 (.map (some bm)) (List.map kvB ([])),Bnds 45 ([])]) (fun S h=>⟨(p,lm,bm),h⟩) ?_
 exact PO.fin Tryz.results26 (Zd' (Zd' Zf')) (hK b1)
theorem ZfG_ {g:World}:Spec Tryz.prog g 7 [.int .u8 1] [] fun K R=>∀ sp dp,K (.pointer (some ⟨sp,0,none⟩)) (Si (JR' (g:=g)) sp dp ⟨KE'.first,[],[]⟩::R):=by
 refine Spec.intro Tryz.func7 rfl Tryz.ntmps7 rfl fun R K hK=>?_
 refine WP.seq<|WP.reg<|WL.e Zb'<|WL.next<|WP.seq<|WP.reg ?_
 refine WL.h (Zg' (Qn' 4096 (by decide)) k25 ?_)
 refine ⟨fun h=>absurd h (by omega),fun _ _ dp=>?_⟩
 refine WL.e Za'<|WL.e Ze'<|WL.e Ze'<|WL.e Zb'<|WL.e Zb'<|WL.next<|WP.seq<|WP.reg<|WL.e Za'<|WL.e Za' ?_
 refine WL.h (Zg' (ZiK_) k26 ?_)
 intro sp
 refine WL.e Za'<|WL.e Ze'<|WL.e Ze'<|WL.e Zb'<|WL.e Zb'<|WL.next<|WP.seq<|WP.seq<|WP.reg<|WL.e Za'<|WL.e Z2'<|WL.e Za' ?_
 refine WL.bool 19 rfl (fun hg=>?_) (fun hg=>?_)
 ·exact absurd hg (by decide) 
 ·skip
  refine WL.e Za'<|WL.e Z2'<|WL.e Zl'<|WL.next<|WP.cond_f rfl<|WP.skip<|PO.next<|WP.seq<|WP.reg<|WL.e Za'<|WL.e Zb'<|WL.next<|WP.ret ?_
  exact PO.fin Tryz.results7 (Zd' Zf') (hK sp dp)
theorem ZfH_ {g:World}:Spec Tryz.prog g 23 [.int .u8 1] [] fun K R=>∀ p dp,K (.iface (JR' (g:=g)).T (.pointer (some ⟨p,0,none⟩))) ((JR' (g:=g)).pc p dp KE'.first::R):=by
 refine Spec.intro Tryz.func23 rfl Tryz.ntmps23 rfl fun R K hK=>?_
 refine WP.seq<|WP.reg<|WL.e Zb'<|WL.next<|WP.seq<|WP.reg ?_
 refine WL.h (Zg' (Qn' 4096 (by decide)) k25 ?_)
 refine ⟨fun h=>absurd h (by omega),fun _ _ dp=>?_⟩
 refine WL.e Za'<|WL.e Ze'<|WL.e Ze'<|WL.e Zb'<|WL.e Zb'<|WL.next<|WP.seq<|WP.seq<|WP.reg<|WL.e Za'<|WL.next<|WP.block<|WP.seq<|WP.reg<|WL.e ZM'<|WL.e Zb'<|WL.next<|WP.cond_t rfl<|WP.seq<|WP.reg<|WL.e Za' ?_
 refine WL.h (Zg' (ZdK_ (d:=Z0' 4096) (at0:=0) [] DiskLogB.first (by simp) (by simp)) k42 ?_)
 intro p
 refine WL.e Za'<|WL.e Ze'<|WL.e Ze'<|WL.e Zb'<|WL.e Zb'<|WL.next<|WP.seq<|WP.reg<|WL.e Za'<|WL.e (Uq' Tryz.underlying108)<|WL.e Zb'<|WL.next<|WP.ret<|PO.blockR<|PO.past nofun<|PO.cls (A:=(JR' (g:=g)).pc p dp (stF)) (B:=[As p dp stF,TxsU TPA []]) (fun S h=>h) ?_
 exact PO.fin Tryz.results23 (Zd' Zf') (hK p dp)
theorem ZiL_ {g:World} {dp:Nat}:Spec Tryz.prog g 26 [.int .u8 2,.pointer (some ⟨dp,0,none⟩)] [Dk dp (Z0' 4096)] fun K R=>∀ sp,K (.tuple #[.pointer (some ⟨sp,0,none⟩),.int .i64 0]) (Si (Xc' (g:=g)) sp dp ⟨Yk'.first,[],[]⟩::R):=by
 refine Spec.intro Tryz.func26 rfl Tryz.ntmps26 rfl fun R K hK=>?_
 refine WP.seq<|WP.reg<|WL.e Zb'<|WL.e Zb'<|WL.next<|WP.seq<|WP.reg<|WL.e Zb'<|WL.next<|WP.seq<|WP.reg<|WL.e Zb'<|WL.next<|WP.seq<|WP.seq<|WP.reg<|WL.e Za'<|WL.next<|WP.block<|WP.seq<|WP.reg<|WL.e ZM'<|WL.e Zb'<|WL.next ?_
 refine WP.cond_f rfl<|WP.seq<|WP.reg<|WL.e ZM'<|WL.e Zb'<|WL.next<|WP.cond_t rfl<|WP.reg<|WL.e Za' ?_
 refine WL.h (Zg' (ZdL_ (d:=Z0' 4096) (at0:=0) [] DiskLogB.first (by simp)) k43 ?_)
 intro p
 refine WL.e Za'<|WL.e Ze'<|WL.e (Uq' Tryz.underlying111)<|WL.e Ze'<|WL.e Zb'<|WL.e Zb'<|WL.nil<|PO.blockN<|PO.next<|WP.seq<|WP.seq<|WP.reg<|WL.e Za'<|WL.e Z2'<|WL.next<|WP.cond_f rfl<|WP.skip<|PO.next<|WP.seq<|WP.reg<|WL.e Za' ?_
 refine WL.h (YN' (ek:=eU32) fun lm=>?_)
 refine WL.h (YN' (ek:=eU32) fun bm=>?_)
 refine WL.e (Zv' z81 p81 (.o (.tmp 36) rfl<|.o (.tmp 37) rfl<|.o (.tmp 38) rfl<|.n)) ?_
 refine WL.h (ZL' fun b1=>?_)
 refine WL.e Zb'<|WL.e Zb'<|WL.next<|WP.ret<|PO.cls (A:=(Xc' (g:=g)).pc p dp (stF)) (B:=[Bs p dp stF,TxsU TPB []]) (fun S h=>h) ?_
 refine PO.conv (fun S h=>Vz' (TP:=TPS) h) ?_
 refine PO.conv (fun S h=>ZbH_ (E:=45) h) ?_
 refine PO.cls (A:=Si (Xc' (g:=g)) b1 dp ⟨Yk'.first,[],[]⟩) (B:=[cl b1 81 [.iface (Xc' (g:=g)).T (.pointer (some ⟨p,0,none⟩)),.map (some lm),.map (some bm)],(Xc' (g:=g)).pc p dp (stF),Mp eU32 (.map (some lm)) (List.map kvU ([])),TxsU TPS ([]),Mp eU32 (.map (some bm)) (List.map kvB ([])),Bnds 45 ([])]) (fun S h=>⟨(p,lm,bm),h⟩) ?_
 exact PO.fin Tryz.results26 (Zd' (Zd' Zf')) (hK b1)
theorem ZaF_ {g:World}:Spec Tryz.prog g 7 [.int .u8 2] [] fun K R=>∀ sp dp,K (.pointer (some ⟨sp,0,none⟩)) (Si (Xc' (g:=g)) sp dp ⟨Yk'.first,[],[]⟩::R):=by
 refine Spec.intro Tryz.func7 rfl Tryz.ntmps7 rfl fun R K hK=>?_
 refine WP.seq<|WP.reg<|WL.e Zb'<|WL.next<|WP.seq<|WP.reg ?_
 refine WL.h (Zg' (Qn' 4096 (by decide)) k25 ?_)
 refine ⟨fun h=>absurd h (by omega),fun _ _ dp=>?_⟩
 refine WL.e Za'<|WL.e Ze'<|WL.e Ze'<|WL.e Zb'<|WL.e Zb'<|WL.next<|WP.seq<|WP.reg<|WL.e Za'<|WL.e Za' ?_
 refine WL.h (Zg' (ZiL_) k26 ?_)
 intro sp
 refine WL.e Za'<|WL.e Ze'<|WL.e Ze'<|WL.e Zb'<|WL.e Zb'<|WL.next<|WP.seq<|WP.seq<|WP.reg<|WL.e Za'<|WL.e Z2'<|WL.e Za' ?_
 refine WL.bool 19 rfl (fun hg=>?_) (fun hg=>?_)
 ·exact absurd hg (by decide) 
 ·skip
  refine WL.e Za'<|WL.e Z2'<|WL.e Zl'<|WL.next<|WP.cond_f rfl<|WP.skip<|PO.next<|WP.seq<|WP.reg<|WL.e Za'<|WL.e Zb'<|WL.next<|WP.ret ?_
  exact PO.fin Tryz.results7 (Zd' Zf') (hK sp dp)
theorem ZfI_ {g:World}:Spec Tryz.prog g 23 [.int .u8 2] [] fun K R=>∀ p dp,K (.iface (Xc' (g:=g)).T (.pointer (some ⟨p,0,none⟩))) ((Xc' (g:=g)).pc p dp Yk'.first::R):=by
 refine Spec.intro Tryz.func23 rfl Tryz.ntmps23 rfl fun R K hK=>?_
 refine WP.seq<|WP.reg<|WL.e Zb'<|WL.next<|WP.seq<|WP.reg ?_
 refine WL.h (Zg' (Qn' 4096 (by decide)) k25 ?_)
 refine ⟨fun h=>absurd h (by omega),fun _ _ dp=>?_⟩
 refine WL.e Za'<|WL.e Ze'<|WL.e Ze'<|WL.e Zb'<|WL.e Zb'<|WL.next<|WP.seq<|WP.seq<|WP.reg<|WL.e Za'<|WL.next<|WP.block<|WP.seq<|WP.reg<|WL.e ZM'<|WL.e Zb'<|WL.next<|WP.cond_f rfl<|WP.seq<|WP.reg<|WL.e ZM'<|WL.e Zb'<|WL.next<|WP.cond_t rfl ?_
 refine WP.seq<|WP.reg<|WL.e Za' ?_
 refine WL.h (Zg' (ZdL_ (d:=Z0' 4096) (at0:=0) [] DiskLogB.first (by simp)) k43 ?_)
 intro p
 refine WL.e Za'<|WL.e Ze'<|WL.e Ze'<|WL.e Zb'<|WL.e Zb'<|WL.next<|WP.seq<|WP.reg<|WL.e Za'<|WL.e (Uq' Tryz.underlying111)<|WL.e Zb'<|WL.next<|WP.ret<|PO.blockR<|PO.past nofun<|PO.cls (A:=(Xc' (g:=g)).pc p dp (stF)) (B:=[Bs p dp stF,TxsU TPB []]) (fun S h=>h) ?_
 exact PO.fin Tryz.results23 (Zd' Zf') (hK p dp)
theorem ZiM_ {g:World} {dp:Nat}:Spec Tryz.prog g 26 [.int .u8 3,.pointer (some ⟨dp,0,none⟩)] [Dk dp (Z0' 4096)] fun K R=>∀ sp,K (.tuple #[.pointer (some ⟨sp,0,none⟩),.int .i64 0]) (Si (JS' (g:=g)) sp dp ⟨KF'.first,[],[]⟩::R):=by
 refine Spec.intro Tryz.func26 rfl Tryz.ntmps26 rfl fun R K hK=>?_
 refine WP.seq<|WP.reg<|WL.e Zb'<|WL.e Zb'<|WL.next<|WP.seq<|WP.reg<|WL.e Zb'<|WL.next<|WP.seq<|WP.reg<|WL.e Zb'<|WL.next<|WP.seq<|WP.seq<|WP.reg<|WL.e Za'<|WL.next<|WP.block<|WP.seq<|WP.reg<|WL.e ZM'<|WL.e Zb'<|WL.next ?_
 refine WP.cond_f rfl<|WP.seq<|WP.reg<|WL.e ZM'<|WL.e Zb'<|WL.next<|WP.cond_f rfl<|WP.seq<|WP.reg<|WL.e ZM'<|WL.e Zb'<|WL.next<|WP.cond_t rfl<|WP.reg<|WL.e Za' ?_
 refine WL.h (Zg' (ZdM_ (d:=Z0' 4096) YQ'.ok (by rw [YQ'.waits];simp) (by rw [VC'];exact Zao_ _ (by decide)) (by rw [YQ'.len];exact Zdu_)) k44 ?_)
 intro p
 refine WL.e Za'<|WL.e Ze'<|WL.e (Uq' Tryz.underlying114)<|WL.e Ze'<|WL.e Zb'<|WL.e Zb'<|WL.nil<|PO.blockN<|PO.next<|WP.seq<|WP.seq<|WP.reg<|WL.e Za'<|WL.e Z2'<|WL.next<|WP.cond_f rfl<|WP.skip<|PO.next<|WP.seq<|WP.reg<|WL.e Za' ?_
 refine WL.h (YN' (ek:=eU32) fun lm=>?_)
 refine WL.h (YN' (ek:=eU32) fun bm=>?_)
 refine WL.e (Zv' z81 p81 (.o (.tmp 36) rfl<|.o (.tmp 37) rfl<|.o (.tmp 38) rfl<|.n)) ?_
 refine WL.h (ZL' fun b1=>?_)
 refine WL.e Zb'<|WL.e Zb'<|WL.next<|WP.ret<|PO.cls (A:=(JS' (g:=g)).pc p dp (gam0 (Z0' 4096).sync)) (B:=[Gs p dp (gam0 (Z0' 4096).sync),Txs []]) (fun S h=>h) ?_
 refine PO.conv (fun S h=>Vz' (TP:=TPS) h) ?_
 refine PO.conv (fun S h=>ZbH_ (E:=45) h) ?_
 refine PO.cls (A:=Si (JS' (g:=g)) b1 dp ⟨KF'.first,[],[]⟩) (B:=[cl b1 81 [.iface (JS' (g:=g)).T (.pointer (some ⟨p,0,none⟩)),.map (some lm),.map (some bm)],(JS' (g:=g)).pc p dp (gam0 (Z0' 4096).sync),Mp eU32 (.map (some lm)) (List.map kvU ([])),TxsU TPS ([]),Mp eU32 (.map (some bm)) (List.map kvB ([])),Bnds 45 ([])]) (fun S h=>⟨(p,lm,bm),h⟩) ?_
 exact PO.fin Tryz.results26 (Zd' (Zd' Zf')) (hK b1)
theorem ZfJ_ {g:World}:Spec Tryz.prog g 7 [.int .u8 3] [] fun K R=>∀ sp dp,K (.pointer (some ⟨sp,0,none⟩)) (Si (JS' (g:=g)) sp dp ⟨KF'.first,[],[]⟩::R):=by
 refine Spec.intro Tryz.func7 rfl Tryz.ntmps7 rfl fun R K hK=>?_
 refine WP.seq<|WP.reg<|WL.e Zb'<|WL.next<|WP.seq<|WP.reg ?_
 refine WL.h (Zg' (Qn' 4096 (by decide)) k25 ?_)
 refine ⟨fun h=>absurd h (by omega),fun _ _ dp=>?_⟩
 refine WL.e Za'<|WL.e Ze'<|WL.e Ze'<|WL.e Zb'<|WL.e Zb'<|WL.next<|WP.seq<|WP.reg<|WL.e Za'<|WL.e Za' ?_
 refine WL.h (Zg' (ZiM_) k26 ?_)
 intro sp
 refine WL.e Za'<|WL.e Ze'<|WL.e Ze'<|WL.e Zb'<|WL.e Zb'<|WL.next<|WP.seq<|WP.seq<|WP.reg<|WL.e Za'<|WL.e Z2'<|WL.e Za' ?_
 refine WL.bool 19 rfl (fun hg=>?_) (fun hg=>?_)
 ·exact absurd hg (by decide) 
 ·skip
  refine WL.e Za'<|WL.e Z2'<|WL.e Zl'<|WL.next<|WP.cond_f rfl<|WP.skip<|PO.next<|WP.seq<|WP.reg<|WL.e Za'<|WL.e Zb'<|WL.next<|WP.ret ?_
  exact PO.fin Tryz.results7 (Zd' Zf') (hK sp dp)
theorem ZfK_ {g:World}:Spec Tryz.prog g 23 [.int .u8 3] [] fun K R=>∀ p dp,K (.iface (JS' (g:=g)).T (.pointer (some ⟨p,0,none⟩))) ((JS' (g:=g)).pc p dp KF'.first::R):=by
 refine Spec.intro Tryz.func23 rfl Tryz.ntmps23 rfl fun R K hK=>?_
 refine WP.seq<|WP.reg<|WL.e Zb'<|WL.next<|WP.seq<|WP.reg ?_
 refine WL.h (Zg' (Qn' 4096 (by decide)) k25 ?_)
 refine ⟨fun h=>absurd h (by omega),fun _ _ dp=>?_⟩
 refine WL.e Za'<|WL.e Ze'<|WL.e Ze'<|WL.e Zb'<|WL.e Zb'<|WL.next<|WP.seq<|WP.seq<|WP.reg<|WL.e Za'<|WL.next<|WP.block<|WP.seq<|WP.reg<|WL.e ZM'<|WL.e Zb'<|WL.next<|WP.cond_f rfl<|WP.seq<|WP.reg<|WL.e ZM'<|WL.e Zb'<|WL.next<|WP.cond_f rfl ?_
 refine WP.skip<|PO.blockN<|PO.next<|WP.seq<|WP.reg<|WL.e Za' ?_
 refine WL.h (Zg' (ZdM_ (d:=Z0' 4096) YQ'.ok (by rw [YQ'.waits];simp) (by rw [VC'];exact Zao_ _ (by decide)) (by rw [YQ'.len];exact Zdu_)) k44 ?_)
 intro p
 refine WL.e Za'<|WL.e Ze'<|WL.e Ze'<|WL.e Zb'<|WL.e Zb'<|WL.next<|WP.seq<|WP.reg<|WL.e Za'<|WL.e (Uq' Tryz.underlying114)<|WL.e Zb'<|WL.next<|WP.ret<|PO.cls (A:=(JS' (g:=g)).pc p dp (gam0 (Z0' 4096).sync)) (B:=[Gs p dp (gam0 (Z0' 4096).sync),Txs []]) (fun S h=>h) ?_
 exact PO.fin Tryz.results23 (Zd' Zf') (hK p dp)
theorem Zgs_ {g:World} (en:Nat) (h:en=1∨en=2∨en=3):Spec Tryz.prog g 7 [.int .u8 en] [] fun K R=>∀ sp dp (M:EngM) (E:Eng Tryz.prog g 105 M),(⟨M,E⟩:(M:EngM) × Eng Tryz.prog g 105 M)=Zd1_ g en→K (.pointer (some ⟨sp,0,none⟩)) (Si E sp dp ⟨M.first,[],[]⟩::R):=by
 rcases h with rfl | rfl | rfl
 ·exact fun R K w hw hT=>ZfG_ R K w hw fun sp dp=>hT sp dp KE' JR' rfl
 ·exact fun R K w hw hT=>ZaF_ R K w hw fun sp dp=>hT sp dp Yk' Xc' rfl
 ·exact fun R K w hw hT=>ZfJ_ R K w hw fun sp dp=>hT sp dp KF' JS' rfl
theorem Zgt_ {g:World} (en:Nat) (h:en=1∨en=2∨en=3):Spec Tryz.prog g 23 [.int .u8 en] [] fun K R=>∀ p dp (M:EngM) (E:Eng Tryz.prog g 105 M),(⟨M,E⟩:(M:EngM) × Eng Tryz.prog g 105 M)=Zd1_ g en→K (.iface E.T (.pointer (some ⟨p,0,none⟩))) (E.pc p dp M.first::R):=by
 rcases h with rfl | rfl | rfl
 ·exact fun R K w hw hT=>ZfH_ R K w hw fun sp dp=>hT sp dp KE' JR' rfl
 ·exact fun R K w hw hT=>ZfI_ R K w hw fun sp dp=>hT sp dp Yk' Xc' rfl
 ·exact fun R K w hw hT=>ZfK_ R K w hw fun sp dp=>hT sp dp KF' JS' rfl
theorem UZ' {g:World}:Spec Tryz.prog g 27 [.pointer none] [] fun K R=>K (.bool false) R:=by
 refine Spec.intro Tryz.func27 rfl Tryz.ntmps27 rfl fun R K hK=>?_
 refine WP.seq<|WP.reg<|WL.e Zb'<|WL.next<|WP.seq<|WP.reg<|WL.e Za'<|WL.e (JX' pt29)<|WL.e Za' ?_
 refine WL.bool 5 rfl (fun h=>?_) (fun h=>?_)
 ·cases h 
 ·skip
  refine WL.skip<|WL.skip<|WL.skip<|WL.skip<|WL.skip<|WL.e Zl'<|WL.e Zb'<|WL.next<|WP.ret ?_
  exact PO.fin Tryz.results27 (Zd' Zf') hK
theorem ZfL_ {g:World} (n:UInt32):Spec Tryz.prog g 16 [.pointer none,.int .u32 n.toNat] [] fun K R=>K (.int .i64 2) R:=by
 refine Spec.intro Tryz.func16 rfl Tryz.ntmps16 rfl fun R K hK=>?_
 refine WP.seq<|WP.reg<|WL.e Zb'<|WL.next<|WP.seq<|WP.seq<|WP.reg<|WL.e Za' ?_
 refine WL.h (Zg' (UZ') k27 ?_)
 refine WL.e Zx'<|WL.next<|WP.cond_t rfl<|WP.seq<|WP.reg<|WL.e Zb'<|WL.next<|WP.ret<|PO.past nofun ?_
 exact PO.fin Tryz.results16 (Zd' Zf') hK
theorem ZdR_ {g:World} (n:UInt32):Spec Tryz.prog g 17 [.pointer none,.int .u32 n.toNat] [] fun K R=>K (.bool false) R:=by
 refine Spec.intro Tryz.func17 rfl Tryz.ntmps17 rfl fun R K hK=>?_
 refine WP.seq<|WP.reg<|WL.e Zb'<|WL.next<|WP.seq<|WP.reg<|WL.e Za' ?_
 refine WL.h (Zg' (UZ') k27 ?_)
 refine WL.e Za' ?_
 refine WL.bool 7 rfl (fun h1=>?_) (fun h1=>?_)
 ·cases h1 
 ·skip
  refine WL.skip<|WL.skip<|WL.skip<|WL.skip<|WL.skip<|WL.skip<|WL.skip<|WL.e Zl'<|WL.e Zb'<|WL.next<|WP.ret ?_
  exact PO.fin Tryz.results17 (Zd' Zf') hK
set_option maxHeartbeats 4000000 in
theorem ZcK_ {g:World}:Spec Tryz.prog g 8 [] [] fun K R=>K (.bool true) R:=by
 refine Spec.intro Tryz.func8 rfl Tryz.ntmps8 rfl fun R K hK=>?_
 refine WP.seq<|WP.reg<|WL.e Zb'<|WL.next<|WP.seq<|WP.reg ?_
 refine WL.h (Zg' (ZaF_) k7 ?_)
 intro sp dp
 refine WL.e Zb'<|WL.next<|WP.seq<|WP.seq<|WP.reg<|WL.e Za'<|WL.e (JW' pt29)<|WL.e Za' ?_
 refine WL.bool 22 rfl (fun g0=>?_) (fun g0=>?_)
 ·cases g0 
 ·skip
  refine WL.e Za' ?_
  refine WL.h (Zg' (QN' (E:=Xc' (g:=g)) (v:=(⟨stF,[],[]⟩:SiteV Yk'.St)) 1 true) k9 ?_)
  intro q1 r1
  dsimp only
  obtain ⟨e0,st1,e1,h1⟩:=Zdb_ (l:=[]) (bs:=[]) ZkG_ 1 true q1 r1 (by decide) rfl (by simp) rfl
  rw [e0,e1]
  simp only [List.nil_append,List.cons_append] at h1 ⊢
  refine WL.e Z2'<|WL.e Zl'<|WL.e Za' ?_
  refine WL.bool 27 rfl (fun g1=>?_) (fun g1=>?_)
  ·exact absurd g1 (by decide) 
  ·skip
   refine WL.e Za' ?_
   refine WL.h (Zg' (QN' (E:=Xc' (g:=g)) (v:=(⟨st1,[⟨1,r1,⟨true,[]⟩⟩],[]⟩:SiteV Yk'.St)) 2 false) k9 ?_)
   intro q2 r2
   dsimp only
   obtain ⟨e0,st2,e1,h2⟩:=Zdb_ (l:=[⟨1,r1,⟨true,[]⟩⟩]) (bs:=[]) h1 2 false q2 r2 (by decide) rfl (by simp) rfl
   rw [e0,e1]
   simp only [List.nil_append,List.cons_append] at h2 ⊢
   refine WL.e Z2'<|WL.e Zl'<|WL.next<|WP.cond_f rfl<|WP.skip<|PO.next<|WP.seq<|WP.reg<|WL.e (Zv' z45 p45 (.o (.const (.string ⟨#[97]⟩)) rfl<|.o (.const (.string ⟨#[97]⟩)) rfl<|.n)) ?_
   refine WL.h (h_bs sl22 z45 (.a2 (.tmp 32) rfl<|.n) fun b1=>?_)
   refine WL.e Zb'<|WL.next<|WP.seq<|WP.reg<|WL.e Za'<|WL.e (Zv' z26 p26 (.o (.const (.int .u8 2)) rfl<|.o (.const (.string ⟨#[95,116]⟩)) rfl<|.z (.string .empty)<|.o (.const (.int .u32 1)) rfl<|.n)) ?_
   refine WL.h (Zg' (QA' (E:=Xc' (g:=g)) (v:=(⟨st2,[⟨1,r1,⟨true,[]⟩⟩,⟨2,r2,⟨false,[]⟩⟩],[]⟩:SiteV Yk'.St)) 1 (Ko' keyT 1) (Q5' (b:=20) ⟨YC'.mono h2.ok (by decide) (by decide),h2.txs,h2.his,h2.at_⟩ (by simp) (by simp) (by simp) (by simp) (by simp) (by simp))) k12 ?_)
   rw [Zhh_ (M:=Yk') (v:=(⟨st2,[⟨1,r1,⟨true,[]⟩⟩,⟨2,r2,⟨false,[]⟩⟩],[]⟩:SiteV Yk'.St)) (m:=10) (t:=⟨1,r1,⟨true,[]⟩⟩) rfl (by rw [ZeR_];exact ZnC_) (ZoO_) (by decide)]
   dsimp only
   refine WL.e Za'<|WL.e Ze'<|WL.e Ze' ?_
   refine WL.h (Zu' z40 fun b2=>?_)
   refine WL.h' (Zj' s40 ?_)
   refine WL.e Zb'<|WL.next<|WP.seq<|WP.reg<|WL.e Za'<|WL.e (Zv' z26 p26 (.o (.const (.int .u8 2)) rfl<|.o (.const (.string ⟨#[97]⟩)) rfl<|.z (.string .empty)<|.o (.const (.int .u32 1)) rfl<|.n)) ?_
   refine WL.h (Zg' (QA' (E:=Xc' (g:=g)) (v:=(⟨st2,[⟨1,r1,⟨true,[]⟩⟩,⟨2,r2,⟨false,[]⟩⟩],[]⟩:SiteV Yk'.St)) 1 (Ko' kA 1) (Q5' (b:=20) ⟨YC'.mono h2.ok (by decide) (by decide),h2.txs,h2.his,h2.at_⟩ (by simp) (by simp) (by simp) (by simp) (by simp) (by simp))) k12 ?_)
   obtain ⟨st3,e3,h3⟩:=ZnA_ (n:=1) (l:=[⟨1,r1,⟨true,[]⟩⟩,⟨2,r2,⟨false,[]⟩⟩]) (bs:=[]) (u:=⟨1,r1,⟨true,[]⟩⟩) h2 rfl keyA 1 (by decide) rfl ZoP_
   rw [e3]
   dsimp only
   intro sv3
   try simp only [setU,List.map_cons,List.map_nil,List.nil_append,List.cons_append] at h3 ⊢
   try simp (config:={ decide:=true }) only [if_true,if_false] at h3 ⊢
   refine WL.e Za'<|WL.e Ze'<|WL.e Ze' ?_
   refine WL.h (Zu' z40 fun b3=>?_)
   refine WL.h' (Zj' s40 ?_)
   refine WL.e Zb'<|WL.next<|WP.seq<|WP.reg<|WL.e Za'<|WL.e Za' ?_
   refine WL.h (Zg' (ZcJ_ (E:=Xc' (g:=g)) (v:=(⟨st3,[⟨1,r1,⟨true,[one kA]⟩⟩,⟨2,r2,⟨false,[]⟩⟩],[]⟩:SiteV Yk'.St)) (l:=[one kA]) 2 9 (Q5' (b:=20) ⟨YC'.mono h3.ok (by decide) (by decide),h3.txs,h3.his,h3.at_⟩ (by simp) (by simp) (by simp) (by simp) (by simp) (by simp)) (Z7' Jk' [one kA] rfl) (by decide)) k10 ?_)
   intro sv4
   have e4:Y3' (⟨st3,[⟨1,r1,⟨true,[one kA]⟩⟩,⟨2,r2,⟨false,[]⟩⟩],[]⟩:SiteV Yk'.St) 2 9 [one kA]=11:=by rw [ZfD_ rfl (fun _=>rfl),ZmG_];simp [ZnD_]
   rw [e4,show X0' (⟨st3,[⟨1,r1,⟨true,[one kA]⟩⟩,⟨2,r2,⟨false,[]⟩⟩],[]⟩:SiteV Yk'.St) 2 9 sv4 [one kA]=(⟨st3,[⟨1,r1,⟨true,[one kA]⟩⟩,⟨2,r2,⟨false,[]⟩⟩],[]⟩:SiteV Yk'.St) by rw [X0',e4];rfl]
   refine WL.e Zb'<|WL.next<|WP.seq<|WP.reg<|WL.e Za' ?_
   refine WL.h (Zg' (Zbj_ (E:=Xc' (g:=g)) (v:=(⟨st3,[⟨1,r1,⟨true,[one kA]⟩⟩,⟨2,r2,⟨false,[]⟩⟩],[]⟩:SiteV Yk'.St)) 1 (Q5' (b:=20) ⟨YC'.mono h3.ok (by decide) (by decide),h3.txs,h3.his,h3.at_⟩ (by simp) (by simp) (by simp) (by simp) (by simp) (by simp)).ok) k15 ?_)
   obtain ⟨e5,st5,e5b,h5⟩:=ZnB_ (n:=1) (l:=[⟨1,r1,⟨true,[one kA]⟩⟩,⟨2,r2,⟨false,[]⟩⟩]) (bs:=[]) h3 rfl
   dsimp only
   rw [e5,e5b,show delU ([⟨1,r1,⟨true,[one kA]⟩⟩,⟨2,r2,⟨false,[]⟩⟩]:List (TxU UInt32 SiX)) 1=[⟨2,r2,⟨false,[]⟩⟩] from rfl]
   replace h5:AtS YC' st5 [⟨2,q2,⟨0,[],[],[]⟩⟩] [] _:=h5
   refine WL.e Zb'<|WL.next<|WP.seq<|WP.reg<|WL.e Za'<|WL.e Za' ?_
   refine WL.h (Zg' (ZcJ_ (E:=Xc' (g:=g)) (v:=(⟨st5,[⟨2,r2,⟨false,[]⟩⟩],[]⟩:SiteV Yk'.St)) (l:=[one kA]) 2 9 (Q5' (b:=20) ⟨YC'.mono h5.ok (by decide) (by decide),h5.txs,h5.his,h5.at_⟩ (by simp) (by simp) (by simp) (by simp) (by simp) (by simp)) (Z7' Jk' [one kA] rfl) (by decide)) k10 ?_)
   intro sv6
   have e6:Y3' (⟨st5,[⟨2,r2,⟨false,[]⟩⟩],[]⟩:SiteV Yk'.St) 2 9 [one kA]=0:=by rw [ZfD_ rfl (fun _=>rfl),ZmG_];simp
   rw [e6,show X0' (⟨st5,[⟨2,r2,⟨false,[]⟩⟩],[]⟩:SiteV Yk'.St) 2 9 sv6 [one kA]=(⟨st5,[⟨2,r2,⟨false,[]⟩⟩],[bnd9 sv6]⟩:SiteV Yk'.St) by rw [X0',if_pos e6];rfl]
   refine WL.e Zb'<|WL.next<|WP.seq<|WP.reg<|WL.e Za' ?_
   refine WL.h (Zg' (QN' (E:=Xc' (g:=g)) (v:=(⟨st5,[⟨2,r2,⟨false,[]⟩⟩],[bnd9 sv6]⟩:SiteV Yk'.St)) 3 true) k9 ?_)
   intro q3 r3
   dsimp only
   obtain ⟨e0,st7,e1,h7⟩:=Zdb_ (l:=[⟨2,r2,⟨false,[]⟩⟩]) (bs:=[bnd9 sv6]) h5 3 true q3 r3 (by decide) rfl (by simp) rfl
   rw [e0,e1]
   simp only [List.nil_append,List.cons_append] at h7 ⊢
   refine WL.e Zb'<|WL.next<|WP.seq<|WP.reg<|WL.e Za'<|WL.e (Zv' z26 p26 (.o (.const (.int .u8 1)) rfl<|.o (.const (.string ⟨#[97]⟩)) rfl<|.z (.string .empty)<|.z (.int .u32 0)<|.n)) ?_
   refine WL.h (Zg' (QA' (E:=Xc' (g:=g)) (v:=(⟨st7,[⟨2,r2,⟨false,[]⟩⟩,⟨3,r3,⟨true,[]⟩⟩],[bnd9 sv6]⟩:SiteV Yk'.St)) 3 (J0' kA) (Q5' (b:=20) ⟨YC'.mono h7.ok (by decide) (by decide),h7.txs,h7.his,h7.at_⟩ (by simp) (by simp) (by simp) (by simp) (by simp) (fun x hx=>by rw [List.mem_singleton] at hx;subst hx;show [one kA].length≤_;decide))) k12 ?_)
   rw [Zhh_ (M:=Yk') (v:=(⟨st7,[⟨2,r2,⟨false,[]⟩⟩,⟨3,r3,⟨true,[]⟩⟩],[bnd9 sv6]⟩:SiteV Yk'.St)) (m:=10) (t:=⟨3,r3,⟨true,[]⟩⟩) rfl (by rw [ZeS_];exact keyA) (ZoQ_ sv6) (by decide)]
   dsimp only
   refine WL.e Za'<|WL.e Ze'<|WL.e Ze' ?_
   refine WL.h (Zu' z40 fun b4=>?_)
   refine WL.h' (Zj' s40 ?_)
   refine WL.e Zb'<|WL.next<|WP.seq<|WP.reg<|WL.e Za'<|WL.e (Zv' z26 p26 (.o (.const (.int .u8 1)) rfl<|.o (.const (.string ⟨#[97]⟩)) rfl<|.z (.string .empty)<|.z (.int .u32 0)<|.n)) ?_
   refine WL.h (Zg' (QA' (E:=Xc' (g:=g)) (v:=(⟨st7,[⟨2,r2,⟨false,[]⟩⟩,⟨3,r3,⟨true,[]⟩⟩],[bnd9 sv6]⟩:SiteV Yk'.St)) 2 (J0' kA) (Q5' (b:=20) ⟨YC'.mono h7.ok (by decide) (by decide),h7.txs,h7.his,h7.at_⟩ (by simp) (by simp) (by simp) (by simp) (by simp) (fun x hx=>by rw [List.mem_singleton] at hx;subst hx;show [one kA].length≤_;decide))) k12 ?_)
   obtain ⟨st8,rw8,e8,h8⟩:=Zhi_ (n:=2) (l:=[⟨2,r2,⟨false,[]⟩⟩,⟨3,r3,⟨true,[]⟩⟩]) (bs:=[bnd9 sv6]) (u:=⟨2,r2,⟨false,[]⟩⟩) h7 rfl keyA (by decide) rfl (ZoR_ sv6)
   rw [e8]
   dsimp only
   intro a8 m8 c8
   try simp only [setU,List.map_cons,List.map_nil,List.nil_append,List.cons_append] at h8 ⊢
   try simp (config:={ decide:=true }) only [if_true,if_false] at h8 ⊢
   refine WL.e Za'<|WL.e Ze'<|WL.e Ze' ?_
   refine WL.h (Zu' z40 fun b5=>?_)
   refine WL.h' (Zj' s40 ?_)
   refine WL.e Zb'<|WL.next<|WP.seq<|WP.reg<|WL.e Za' ?_
   refine WL.h (Zg' (ZiI_ (E:=Xc' (g:=g)) (v:=(⟨st8,[⟨2,r2,⟨false,[one kA]⟩⟩,⟨3,r3,⟨true,[]⟩⟩],[bnd9 sv6]⟩:SiteV Yk'.St)) 9) k16 ?_)
   rw [show UW' (⟨st8,[⟨2,r2,⟨false,[one kA]⟩⟩,⟨3,r3,⟨true,[]⟩⟩],[bnd9 sv6]⟩:SiteV Yk'.St) 9=0 from rfl,if_pos rfl,show ZfA_ (⟨st8,[⟨2,r2,⟨false,[one kA]⟩⟩,⟨3,r3,⟨true,[]⟩⟩],[bnd9 sv6]⟩:SiteV Yk'.St) 9=(⟨st8,[⟨2,r2,⟨false,[one kA]⟩⟩,⟨3,r3,⟨true,[]⟩⟩],[]⟩:SiteV Yk'.St) from rfl]
   refine WL.e Zb'<|WL.next<|WP.seq<|WP.reg<|WL.e Za'<|WL.e (Zv' z26 p26 (.o (.const (.int .u8 1)) rfl<|.o (.const (.string ⟨#[97]⟩)) rfl<|.z (.string .empty)<|.z (.int .u32 0)<|.n)) ?_
   refine WL.h (Zg' (QA' (E:=Xc' (g:=g)) (v:=(⟨st8,[⟨2,r2,⟨false,[one kA]⟩⟩,⟨3,r3,⟨true,[]⟩⟩],[]⟩:SiteV Yk'.St)) 3 (J0' kA) (Q5' (b:=20) ⟨YC'.mono h8.ok (by decide) (by decide),h8.txs,h8.his,h8.at_⟩ (by simp) (by simp) (by simp) (by simp) (by simp) (by simp))) k12 ?_)
   obtain ⟨st9,rw9,e9,h9⟩:=Zhi_ (n:=3) (l:=[⟨2,r2,⟨false,[one kA]⟩⟩,⟨3,r3,⟨true,[]⟩⟩]) (bs:=[]) (u:=⟨3,r3,⟨true,[]⟩⟩) h8 rfl keyA (by decide) rfl Zoo_
   rw [e9]
   dsimp only
   intro a9 m9 c9
   refine WL.e Za'<|WL.e Ze'<|WL.e Ze' ?_
   refine WL.h (Zu' z40 fun b6=>?_)
   refine WL.h' (Zj' s40 ?_)
   refine WL.e Zb'<|WL.next<|WP.seq<|WP.reg<|WL.e Zb'<|WL.next<|WP.seq<|WP.reg<|WL.e Za'<|WL.e ZM'<|WL.e Za' ?_
   refine WL.bool 78 rfl (fun y1=>?_) (fun y1=>?_)
   ·skip
    refine WL.e Za'<|WL.e ZM'<|WL.e Zn'<|WL.e Za' ?_
    refine WL.bool 82 rfl (fun y2=>?_) (fun y2=>?_)
    ·skip
     refine WL.e Za'<|WL.e ZM'<|WL.e Zn'<|WL.e Za' ?_
     refine WL.bool 86 rfl (fun y3=>?_) (fun y3=>?_)
     ·skip
      refine WL.e Za'<|WL.e ZM'<|WL.e Zn'<|WL.e Za' ?_
      refine WL.bool 90 rfl (fun y4=>?_) (fun y4=>?_)
      ·skip
       refine WL.e Za'<|WL.e ZM'<|WL.e Zn'<|WL.e Za' ?_
       refine WL.bool 94 rfl (fun y5=>?_) (fun y5=>?_)
       ·skip
        refine WL.e Za'<|WL.e ZM'<|WL.e Zn'<|WL.e Za' ?_
        refine WL.bool 98 rfl (fun y6=>?_) (fun y6=>?_)
        ·skip
         refine WL.e Za'<|WL.e ZM'<|WL.e Zn'<|WL.e Za' ?_
         refine WL.bool 102 rfl (fun y7=>?_) (fun y7=>?_)
         ·skip
          refine WL.e Za'<|WL.e ZM'<|WL.e Zn'<|WL.e Za' ?_
          refine WL.bool 106 rfl (fun y8=>?_) (fun y8=>?_)
          ·skip
           refine WL.e Za'<|WL.e ZM'<|WL.e Zn'<|WL.e Za' ?_
           refine WL.bool 110 rfl (fun y9=>?_) (fun y9=>?_)
           ·skip
            refine WL.e Za'<|WL.e ZM'<|WL.e Zn'<|WL.e Za' ?_
            refine WL.bool 114 rfl (fun y10=>?_) (fun y10=>?_)
            ·skip
             refine WL.e Za' ?_
             refine WL.h (Zg' (ZfL_ 1) k16 ?_)
             refine WL.e ZM'<|WL.e Zn'<|WL.e Za' ?_
             refine WL.bool 119 rfl (fun y11=>?_) (fun y11=>?_)
             ·skip
              refine WL.e Za' ?_
              refine WL.h (Zg' (ZdR_ 1) k17 ?_)
              refine WL.e Zx'<|WL.e Zn'<|WL.e Zb'<|WL.next<|WP.ret ?_
              exact PO.finE Tryz.results8 (Zd' Zf') rfl hK
             ·exact absurd y11 (by decide) 
            ·exact absurd y10 (by decide) 
           ·exact absurd y9 (by decide) 
          ·exact absurd y8 (by decide) 
         ·exact absurd y7 (by decide) 
        ·exact absurd y6 (by decide) 
       ·exact absurd y5 (by decide) 
      ·exact absurd y4 (by decide) 
     ·exact absurd y3 (by decide) 
    ·exact absurd y2 (by decide) 
   ·exact absurd y1 (by decide) 
end Go.SL
namespace Go.SL
open Go
section
variable {M1 M2 M3 : EngM} {s1 : M1.St} {s2 : M2.St} {s3 : M3.St} {own : List ChgM} {rs : List RowM} {c k b : Nat} {ids : List UInt32}
def Fr3 (s1:M1.St) (s2:M2.St) (s3:M3.St) (ids:List UInt32) (own:List ChgM) (rs:List RowM) (c k b:Nat):Prop:=
  (∃ k1,M1.Fr s1 ids 1 own rs c k1 b)∧(∃ k2,M2.Fr s2 ids 1 own rs c k2 b)∧M3.Fr s3 ids 1 own rs c k b
theorem Fr3.ok3 (h:Fr3 s1 s2 s3 ids own rs c k b):M3.Ok s3 b:=let ⟨_,_,h⟩:=h;M3.frOk h
theorem Fr3.rows (h:Fr3 s1 s2 s3 ids own rs c k b):M1.rows s1=rs∧M2.rows s2=rs∧M3.rows s3=rs∧rs.length≤b:=by
  have h0:=h.ok3
  obtain ⟨⟨_,h1⟩,⟨_,h2⟩,h3⟩:=h
  have:=M3.rowsLe h0
  rw [M3.frRows h3] at this
  exact ⟨M1.frRows h1,M2.frRows h2,M3.frRows h3,this⟩
theorem Fr3.first:Fr3 M1.first M2.first M3.first [] [] [] 0 0 0:=⟨⟨0,M1.frFirst 1⟩,⟨0,M2.frFirst 1⟩,M3.frFirst 1⟩
theorem Fr3.beg (h:Fr3 s1 s2 s3 [] [] rs c k b) (hb:b+1≤1000000000):M1.begE s1 1=0∧M2.begE s2 1=0∧M3.begE s3 1=0∧∀ q1 q2 q3,Fr3 (M1.begS s1 1 q1) (M2.begS s2 1 q2) (M3.begS s3 1 q3) [1] [] rs c k (b+1):=by
  obtain ⟨⟨k1,h1⟩,⟨k2,h2⟩,h3⟩:=h
  obtain ⟨a1,b1⟩:=M1.frBeg h1 hb 1 (by decide) (by simp) (by simp)
  obtain ⟨a2,b2⟩:=M2.frBeg h2 hb 1 (by decide) (by simp) (by simp)
  obtain ⟨a3,b3⟩:=M3.frBeg h3 hb 1 (by decide) (by simp) (by simp)
  exact ⟨a1,a2,a3,fun q1 q2 q3=>⟨⟨k1,b1 q1⟩,⟨k2,b2 q2⟩,b3 q3⟩⟩
theorem Fr3.abo (h:Fr3 s1 s2 s3 [1] own rs c k b):M1.aboE s1 1=0∧M2.aboE s2 1=0∧M3.aboE s3 1=0∧∃ k',k≤k'∧Fr3 (M1.aboS s1 1) (M2.aboS s2 1) (M3.aboS s3 1) [] [] rs c k' b:=by
  obtain ⟨⟨k1,h1⟩,⟨k2,h2⟩,h3⟩:=h
  obtain ⟨a1,b1⟩:=M1.frAbo h1 (by simp)
  obtain ⟨a2,b2⟩:=M2.frAbo h2 (by simp)
  obtain ⟨a3,b3⟩:=M3.frAbo h3 (by simp)
  obtain ⟨k1',_,c1⟩:=b1 rfl
  obtain ⟨k2',_,c2⟩:=b2 rfl
  obtain ⟨k3',l3,c3⟩:=b3 rfl
  exact ⟨a1,a2,a3,k3',l3,⟨k1',c1 1⟩,⟨k2',c2 1⟩,c3 1⟩
theorem Fr3.com (h:Fr3 s1 s2 s3 [1] own rs c k b) (hb:b+1≤1000000000) (hl:own.length≤80) (hc:c≤40):M1.comE s1 1=0∧M2.comE s2 1=0∧M3.comE s3 1=0∧k < (M3.comN s3 1).toNat∧Fr3 (M1.comS s1 1) (M2.comS s2 1) (M3.comS s3 1) [] [] (Zw' rs own) (c+1) (M3.comN s3 1).toNat (b+1):=by
  obtain ⟨⟨k1,h1⟩,⟨k2,h2⟩,h3⟩:=h
  obtain ⟨a1,b1⟩:=M1.frCom h1 hb (by simp) hl hc
  obtain ⟨a2,b2⟩:=M2.frCom h2 hb (by simp) hl hc
  obtain ⟨a3,b3⟩:=M3.frCom h3 hb (by simp) hl hc
  exact ⟨a1,a2,a3,(b3 rfl).1,⟨_,(b1 rfl).2 1⟩,⟨_,(b2 rfl).2 1⟩,(b3 rfl).2 1⟩
theorem Fr3.do_ {r1 r2 r3:Nat} {ss:List SpanM} (h:Fr3 s1 s2 s3 [1] own rs c k b) (hb:b+1≤1000000000) (x:OpM) :
    (∃ m,m≠0∧doSi (⟨s1,[⟨1,r1,⟨true,ss⟩⟩],[]⟩:SiteV M1.St) 1 x=.err ⟨s1,[⟨1,r1,⟨true,ss⟩⟩],[]⟩ m∧doSi (⟨s2,[⟨1,r2,⟨true,ss⟩⟩],[]⟩:SiteV M2.St) 1 x=.err ⟨s2,[⟨1,r2,⟨true,ss⟩⟩],[]⟩ m∧doSi (⟨s3,[⟨1,r3,⟨true,ss⟩⟩],[]⟩:SiteV M3.St) 1 x=.err ⟨s3,[⟨1,r3,⟨true,ss⟩⟩],[]⟩ m) ∨
    (∃ (f1:SV→M1.St) (f2:SV→M2.St) (f3:SV→M3.St),doSi (⟨s1,[⟨1,r1,⟨true,ss⟩⟩],[]⟩:SiteV M1.St) 1 x=.put (fun sv=>⟨f1 sv,[⟨1,r1,⟨true,ss++[Zi' x]⟩⟩],[]⟩)∧doSi (⟨s2,[⟨1,r2,⟨true,ss⟩⟩],[]⟩:SiteV M2.St) 1 x=.put (fun sv=>⟨f2 sv,[⟨1,r2,⟨true,ss++[Zi' x]⟩⟩],[]⟩)∧doSi (⟨s3,[⟨1,r3,⟨true,ss⟩⟩],[]⟩:SiteV M3.St) 1 x=.put (fun sv=>⟨f3 sv,[⟨1,r3,⟨true,ss++[Zi' x]⟩⟩],[]⟩)∧∀ a1 a2 a3,Fr3 (f1 a1) (f2 a2) (f3 a3) [1] (own++[Z4' x]) rs c k (b+1)) ∨
    (∃ (t1:M1.St) (t2:M2.St) (t3:M3.St) (rw:List RowM),doSi (⟨s1,[⟨1,r1,⟨true,ss⟩⟩],[]⟩:SiteV M1.St) 1 x=.look ⟨t1,[⟨1,r1,⟨true,ss++[Zi' x]⟩⟩],[]⟩ rw∧doSi (⟨s2,[⟨1,r2,⟨true,ss⟩⟩],[]⟩:SiteV M2.St) 1 x=.look ⟨t2,[⟨1,r2,⟨true,ss++[Zi' x]⟩⟩],[]⟩ rw∧doSi (⟨s3,[⟨1,r3,⟨true,ss⟩⟩],[]⟩:SiteV M3.St) 1 x=.look ⟨t3,[⟨1,r3,⟨true,ss++[Zi' x]⟩⟩],[]⟩ rw∧rw.length≤256∧Fr3 t1 t2 t3 [1] own rs c k (b+1)):=by
  cases hx:opOk x with
  | false=>exact .inl ⟨1,by decide,Qy' hx,Qy' hx,Qy' hx⟩
  | true=>
    obtain ⟨⟨k1,h1⟩,⟨k2,h2⟩,h3⟩:=h
    rcases Zda_ (v:=(⟨s1,[⟨1,r1,⟨true,ss⟩⟩],[]⟩:SiteV M1.St)) (n:=1) (t:=⟨1,r1,⟨true,ss⟩⟩) rfl h1 (by simp) hx hb with ⟨g1,e1⟩ | ⟨g1,w1,f1,e1,i1⟩ | ⟨g1,w1,t1,e1,i1⟩ <;>
    rcases Zda_ (v:=(⟨s2,[⟨1,r2,⟨true,ss⟩⟩],[]⟩:SiteV M2.St)) (n:=1) (t:=⟨1,r2,⟨true,ss⟩⟩) rfl h2 (by simp) hx hb with ⟨g2,e2⟩ | ⟨g2,w2,f2,e2,i2⟩ | ⟨g2,w2,t2,e2,i2⟩ <;>
    rcases Zda_ (v:=(⟨s3,[⟨1,r3,⟨true,ss⟩⟩],[]⟩:SiteV M3.St)) (n:=1) (t:=⟨1,r3,⟨true,ss⟩⟩) rfl h3 (by simp) hx hb with ⟨g3,e3⟩ | ⟨g3,w3,f3,e3,i3⟩ | ⟨g3,w3,t3,e3,i3⟩ <;>
    first
      | exact absurd g1 g2
      | exact absurd g2 g1
      | exact absurd g1 g3
      | exact absurd g3 g1
      | exact absurd (w1.symm.trans w2) (by decide)
      | exact absurd (w1.symm.trans w3) (by decide)
      | exact .inl ⟨_,g1,e1,e2,e3⟩
      | exact .inr (.inl ⟨f1,f2,f3,e1,e2,e3,fun a1 a2 a3=>⟨⟨k1,i1 a1⟩,⟨k2,i2 a2⟩,i3 a3⟩⟩)
      | exact .inr (.inr ⟨t1,t2,t3,_,e1,e2,e3,List.length_take_le _ _,⟨k1,i1⟩,⟨k2,i2⟩,i3⟩)
end
end Go.SL
