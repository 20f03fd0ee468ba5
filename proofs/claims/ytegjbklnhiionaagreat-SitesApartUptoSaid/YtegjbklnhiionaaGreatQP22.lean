import Derived.Test.YtegjbklnhiionaaGreatQP21
set_option linter.unusedSimpArgs false
set_option linter.unusedVariables false
namespace Go.SL.Fc
open Go Go.Proofs Go.SL
theorem a29:ZK' Tryz.prog 29=some none:=by kernel_rfl
theorem a77:ZK' Tryz.prog 77=some none:=by kernel_rfl
theorem a78:ZK' Tryz.prog 78=some none:=by kernel_rfl
theorem a79:ZK' Tryz.prog 79=some none:=by kernel_rfl
theorem KL':ZO' Tryz.prog 81 0=some 0:=by kernel_rfl
theorem Vj':ZO' Tryz.prog 81 1=some 1:=by kernel_rfl
theorem Vk':ZO' Tryz.prog 81 2=some 2:=by kernel_rfl
theorem ZoM_:ZO' Tryz.prog 84 0=some 0:=by kernel_rfl
theorem J2':ZO' Tryz.prog 84 1=some 1:=by kernel_rfl
theorem ZoN_:ZO' Tryz.prog 89 0=some 0:=by kernel_rfl
theorem ZiF_:ZO' Tryz.prog 89 1=some 1:=by kernel_rfl
theorem k13:Zh' Tryz.prog 13=true:=by kernel_rfl
theorem k27:Zh' Tryz.prog 27=true:=by kernel_rfl
theorem k36:Zh' Tryz.prog 36=true:=by kernel_rfl
theorem k37:Zh' Tryz.prog 37=true:=by kernel_rfl
theorem k38:Zh' Tryz.prog 38=true:=by kernel_rfl
theorem k39:Zh' Tryz.prog 39=true:=by kernel_rfl
theorem k40:Zh' Tryz.prog 40=true:=by kernel_rfl
theorem k41:Zh' Tryz.prog 41=true:=by kernel_rfl
theorem k52:Zh' Tryz.prog 52=true:=by kernel_rfl
theorem k53:Zh' Tryz.prog 53=true:=by kernel_rfl
theorem k54:Zh' Tryz.prog 54=true:=by kernel_rfl
theorem p84:Ya' Tryz.prog 84=some [(0,1),(1,1)]:=by kernel_rfl
theorem pt29:X3' Tryz.prog 29=true:=by kernel_rfl
theorem pt82:X3' Tryz.prog 82=true:=by kernel_rfl
theorem s89:szOf Tryz.prog 89=some 2:=by kernel_rfl
theorem z84:ZH' Tryz.prog 84=some [.bool false,.slice none 0 0]:=by kernel_rfl
theorem z89:ZH' Tryz.prog 89=some [.int .u32 0,.slice none 0 0]:=by kernel_rfl
theorem zg89:(Tryz.prog.info? 89).bind (·.zero)=some (.agg #[.int .u32 0,.slice none 0 0]):=by kernel_rfl
theorem zz82:(Tryz.prog.info? 82).bind (·.zero)=some (.pointer none):=by kernel_rfl
end Go.SL.Fc
namespace Go.SL
open Go Go.Proofs Fc
theorem Zmg_ {g:World} (x:SpanM) {b:Nat} (p0:SpanM):Spec Tryz.prog g 54 [.agg (SpanM.c x).toArray,.pointer (some ⟨b,0,none⟩)] [cl b 45 [.string p0.a,.string p0.b]] fun K R=>K (.bool (meet p0 x)) (cl b 45 [.string p0.a,.string p0.b]::R):=by
 refine Spec.intro Tryz.func54 rfl Tryz.ntmps54 rfl fun R K hK=>?_
 refine WP.seq<|WP.reg ?_
 refine WL.h (ZL' fun b1=>?_)
 refine WL.e Zb'<|WL.next<|WP.seq<|WP.reg<|WL.e (Zm' a45)<|WL.e (Zm' a45) ?_
 refine WL.h (Zg' (Y8' ⟨_,_⟩ ⟨_,_⟩) k30 ?_)
 refine WL.e Zb'<|WL.next<|WP.ret ?_
 exact PO.fin Tryz.results54 (Zd' Zf') hK
theorem Zgq_ {g:World} {A:HP} {u:Value} {l:List SpanM} (p0:SpanM) (hA:RL A 2 SpanM.c u l) (hn:l.length≤68719476736):Spec Tryz.prog g 37 [p0.v,u] [A] fun K R=>K (.bool (anyS p0 l)) (A::R):=by
 refine Spec.intro Tryz.func37 rfl Tryz.ntmps37 rfl fun R K hK=>?_
 refine WP.seq<|WP.reg ?_
 refine WL.h (ZL' fun b1=>?_)
 refine WL.e Zb'<|WL.next<|WP.seq<|WP.reg<|WL.e Za'<|WL.e Ym' ?_
 refine WL.h (Zg' (Kq' (p:=fun x=>meet p0 x) hA hn (fun x=>CallV.of_spec (fs:=[]) (cs:=[.pointer (some ⟨b1,0,none⟩)]) (Zmg_ x p0) k54)) k28 ?_)
 refine WL.e Zb'<|WL.next<|WP.ret ?_
 exact PO.fin Tryz.results37 (Zd' Zf') hK
theorem ZfE_ {g:World} {A:HP} {u:Value} {l:List SpanM} (p0:SpanM) (hA:RL A 2 SpanM.c u l) (hn:l.length≤68719476736):Spec Tryz.prog g 13 [p0.v,u] [A] fun K R=>K (.bool (anyS p0 l)) (A::R):=by
 refine Spec.intro Tryz.func13 rfl Tryz.ntmps13 rfl fun R K hK=>?_
 refine WP.seq<|WP.reg ?_
 refine WL.h (ZL' fun b1=>?_)
 refine WL.e Zb'<|WL.next<|WP.seq<|WP.reg<|WL.e (Zm' a45)<|WL.e Za' ?_
 refine WL.h (Zg' (Zgq_ p0 hA hn) k37 ?_)
 refine WL.e Zb'<|WL.next<|WP.ret ?_
 exact PO.fin Tryz.results13 (Zd' Zf') hK
def SiX_ (t:TxU UInt32 SiX):HP:=fun S=>∃ x:SV,Zo' [cl t.q 84 [.bool t.x.loc,x.v],Sl 45 2 SpanM.c x.v t.x.sp] S
theorem Qz' {t:TxU UInt32 SiX}:∀ S,SiX_ t S→∃ x:SV,Zo' [cl t.q 84 [.bool t.x.loc,x.v],Sl 45 2 SpanM.c x.v t.x.sp] S:=fun _ h=>h
def TPS (t:TxU UInt32 SiX):List HP:=[SiX_ t]
def Si {g:World} {M:EngM} (E:Eng Tryz.prog g 105 M) (sp dp:Nat) (v:SiteV M.St):HP:=fun S=>∃ x:Nat × Nat × Nat,Zo' [cl sp 81 [.iface E.T (.pointer (some ⟨x.1,0,none⟩)),.map (some x.2.1),.map (some x.2.2)],E.pc x.1 dp (v.st),Mp eU32 (.map (some x.2.1)) (List.map kvU (v.l)),TxsU TPS (v.l),Mp eU32 (.map (some x.2.2)) (List.map kvB (v.bs)),Bnds 45 (v.bs)] S
theorem KM' {g:World} {M:EngM} {E:Eng Tryz.prog g 105 M} {sp dp:Nat} {v:SiteV M.St}:∀ S,Si E sp dp v S→∃ x:Nat × Nat × Nat,Zo' [cl sp 81 [.iface E.T (.pointer (some ⟨x.1,0,none⟩)),.map (some x.2.1),.map (some x.2.2)],E.pc x.1 dp (v.st),Mp eU32 (.map (some x.2.1)) (List.map kvU (v.l)),TxsU TPS (v.l),Mp eU32 (.map (some x.2.2)) (List.map kvB (v.bs)),Bnds 45 (v.bs)] S:=fun _ h=>h
theorem Ji' {g:World} {M:EngM} {E:Eng Tryz.prog g 105 M} {sp dp:Nat} {v:SiteV M.St}:Spec Tryz.prog g 27 [.pointer (some ⟨sp,0,none⟩)] [Si E sp dp v] fun K R=>K (.bool true) (Si E sp dp v::R):=by
 refine Spec.intro Tryz.func27 rfl Tryz.ntmps27 rfl fun R K hK=>?_
 refine WP.opn (KM' (E:=E) (sp:=sp) (dp:=dp) (v:=v)) fun x=>?_
 obtain ⟨p,lm,bm⟩:=x
 dsimp only
 refine WP.seq<|WP.reg<|WL.e Zb'<|WL.next<|WP.seq<|WP.reg<|WL.e Za'<|WL.e (JX' pt29)<|WL.e Za' ?_
 refine WL.bool 5 rfl (fun h=>?_) (fun h=>?_)
 ·skip
  refine WL.e Za'<|WL.e Zk'<|WL.e (e_fa KL')<|WL.e (Zc' a77)<|WL.e (Zny_ (by kernel_rfl))<|WL.e Zn'<|WL.e Zb'<|WL.next<|WP.ret<|PO.cls (A:=Si E sp dp (v)) (B:=[cl sp 81 [.iface E.T (.pointer (some ⟨p,0,none⟩)),.map (some lm),.map (some bm)],E.pc p dp (v.st),Mp eU32 (.map (some lm)) (List.map kvU (v.l)),TxsU TPS (v.l),Mp eU32 (.map (some bm)) (List.map kvB (v.bs)),Bnds 45 (v.bs)]) (fun S h=>⟨(p,lm,bm),h⟩) ?_
  exact PO.fin Tryz.results27 (Zd' Zf') hK
 ·cases h 
theorem ZkB_ {g:World}:Spec Tryz.prog g 53 [] [] fun K R=>K resS.v R:=by
 refine Spec.intro Tryz.func53 rfl Tryz.ntmps53 rfl fun R K hK=>?_
 refine WP.seq<|WP.reg ?_
 refine WL.h (Zu' z45 fun b1=>?_)
 refine WL.next<|WP.seq<|WP.reg<|WL.e (Zv' z45 p45 (.o (.const (.string ⟨#[95]⟩)) rfl<|.o (.const (.string ⟨#[95,122,122,122,122,122,122,122,122,122,122,122,122,122,122,122]⟩)) rfl<|.n)) ?_
 refine WL.h' (Zj' s45 ?_)
 refine WL.next<|WP.ret ?_
 exact PO.fin Tryz.results53 (ZB' a45 Zf') hK
theorem QN' {g:World} {M:EngM} {E:Eng Tryz.prog g 105 M} {sp dp:Nat} {v:SiteV M.St} (n:UInt32) (loc:Bool):Spec Tryz.prog g 9 [.pointer (some ⟨sp,0,none⟩),.int .u32 n.toNat,.bool loc] [Si E sp dp v] fun K R=>∀ q q2,K (.int .i64 (M.begE v.st n)) (Si E sp dp (Qi' v n loc q q2)::R):=by
 refine Spec.intro Tryz.func9 rfl Tryz.ntmps9 rfl fun R K hK=>?_
 refine WP.seq<|WP.reg<|WL.e Zb'<|WL.next<|WP.seq<|WP.seq<|WP.reg<|WL.e Za' ?_
 refine WL.h (Zg' (Ji') k27 ?_)
 refine WL.e Zx'<|WL.next<|WP.cond_f rfl<|WP.opn (KM' (E:=E) (sp:=sp) (dp:=dp) (v:=v)) fun x=>?_
 obtain ⟨p,lm,bm⟩:=x
 dsimp only
 refine WP.skip<|PO.next<|WP.seq<|WP.reg<|WL.e Za'<|WL.e Zk'<|WL.e (e_fa KL')<|WL.e (Zc' a77)<|WL.e Za' ?_
 refine WL.h (Yi' E.mB (E.sB n) E.cB ?_)
 intro q
 refine WL.e Zb'<|WL.next<|WP.seq<|WP.seq<|WP.reg<|WL.e Za'<|WL.e ZM'<|WL.next ?_
 refine WP.cond rfl (fun h1=>?_) (fun h1=>?_)
 ·replace h1:M.begE v.st n=0:=by simpa using h1
  refine WP.reg<|WL.e Za'<|WL.e Zk'<|WL.e (e_fa Vj')<|WL.e (Zc' a78)<|WL.e Za'<|WL.e Za'<|WL.e (Zv' z84 p84 (.o (.tmp 24) rfl<|.z (.slice none 0 0)<|.n)) ?_
  refine WL.h (ZL' fun b1=>?_)
  refine WL.h' (YI' (k:=n) (kvs:=List.map kvU v.l) Tryz.underlying78 (ZQ' Tryz.underlying24) ?_)
  rw [show mset (List.map kvU v.l) n (.pointer (some ⟨b1,0,none⟩))=List.map kvU (putU v.l ⟨n,b1,⟨loc,[]⟩⟩) from Zky_ v.l ⟨n,b1,⟨loc,[]⟩⟩]
  refine WL.next<|WP.seq<|WP.reg<|WL.e Za'<|WL.e Zb'<|WL.next<|WP.ret<|PO.nils 45 2 SpanM.c none ?_
  refine PO.cls (A:=SiX_ ⟨n,b1,⟨loc,[]⟩⟩) (B:=[cl b1 84 [.bool loc,.slice none 0 0],Sl 45 2 SpanM.c (.slice none 0 0) []]) (fun S h=>⟨⟨none,0,0⟩,h⟩) ?_
  refine PO.cls (A:=TxsU TPS (putU v.l ⟨n,b1,⟨loc,[]⟩⟩)) (B:=[SiX_ ⟨n,b1,⟨loc,[]⟩⟩,TxsU TPS v.l]) (fun S h=>Zmf_ (TP:=TPS) (t:=⟨n,b1,⟨loc,[]⟩⟩) S h) ?_
  have hK:=hK q b1
  rw [Qi',if_pos h1] at hK
  refine PO.cls (A:=Si E sp dp ({ v with st:=M.begS v.st n q,l:=putU v.l ⟨n,b1,⟨loc,[]⟩⟩ })) (B:=[cl sp 81 [.iface E.T (.pointer (some ⟨p,0,none⟩)),.map (some lm),.map (some bm)],E.pc p dp (M.begS v.st n q),Mp eU32 (.map (some lm)) (List.map kvU (putU v.l ⟨n,b1,⟨loc,[]⟩⟩)),TxsU TPS (putU v.l ⟨n,b1,⟨loc,[]⟩⟩),Mp eU32 (.map (some bm)) (List.map kvB (v.bs)),Bnds 45 (v.bs)]) (fun S h=>⟨(p,lm,bm),h⟩) ?_
  exact PO.fin Tryz.results9 (Zd' Zf') hK
 ·replace h1:¬ M.begE v.st n=0:=by simpa using h1
  refine WP.skip<|PO.next<|WP.seq<|WP.reg<|WL.e Za'<|WL.e Zb'<|WL.next<|WP.ret ?_
  have hK:=hK q 0
  rw [Qi',if_neg h1] at hK
  refine PO.cls (A:=Si E sp dp ({ v with st:=M.begS v.st n q })) (B:=[cl sp 81 [.iface E.T (.pointer (some ⟨p,0,none⟩)),.map (some lm),.map (some bm)],E.pc p dp (M.begS v.st n q),Mp eU32 (.map (some lm)) (List.map kvU (v.l)),TxsU TPS (v.l),Mp eU32 (.map (some bm)) (List.map kvB (v.bs)),Bnds 45 (v.bs)]) (fun S h=>⟨(p,lm,bm),h⟩) ?_
  exact PO.fin Tryz.results9 (Zd' Zf') hK
theorem Zgr_ {g:World} {M:EngM} {E:Eng Tryz.prog g 105 M} {sp dp:Nat} {v:SiteV M.St} (n:UInt32) (p0:SpanM) (hb:∀ x ∈ v.bs,x.sp.length≤68719476736):Spec Tryz.prog g 52 [.pointer (some ⟨sp,0,none⟩),.int .u32 n.toNat,p0.v] [Si E sp dp v] fun K R=>K (.bool (XJ' v.bs n p0)) (Si E sp dp v::R):=by
 refine Spec.intro Tryz.func52 rfl Tryz.ntmps52 rfl fun R K hK=>?_
 refine WP.opn (KM' (E:=E) (sp:=sp) (dp:=dp) (v:=v)) fun x=>?_
 obtain ⟨p,lm,bm⟩:=x
 dsimp only
 refine WP.seq<|WP.reg ?_
 refine WL.h (ZL' fun b1=>?_)
 refine WL.e Zb'<|WL.next<|WP.seq<|WP.seq<|WP.reg<|WL.e Za'<|WL.e Zk'<|WL.e (e_fa Vk')<|WL.e (Zc' a79) ?_
 refine WL.h (Xt' (kvs:=List.map kvB v.bs) Tryz.underlying79 fun it=>?_)
 refine WL.next<|WP.block<|WP.loopK (fun (x:List BndV × Option (UInt32 × Value))=>[]) (fun (x:List BndV × Option (UInt32 × Value))=>MpIt eU32 (.map (some bm)) it (List.map kvB (v.bs)) (List.map kvB x.1) (x.2)::cl sp 81 [.iface E.T (.pointer (some ⟨p,0,none⟩)),.map (some lm),.map (some bm)]::E.pc p dp (v.st)::Mp eU32 (.map (some lm)) (List.map kvU (v.l))::TxsU TPS (v.l)::Bnds 45 (v.bs)::cl b1 45 [.string p0.a,.string p0.b]::R) [(1,_),(5,_),(13,_)] (fun (x:List BndV × Option (UInt32 × Value))=>x.1.any (fun b:BndV=>b.tx != n && anyS p0 b.sp)=v.bs.any (fun b:BndV=>b.tx != n && anyS p0 b.sp)∧∀ y ∈ x.1,y ∈ v.bs) (fun (x:List BndV × Option (UInt32 × Value))=>x.1.length) (v.bs,none) (⟨rfl,fun _ h=>h⟩) ?_
 rintro ⟨left,cur⟩ ⟨hx1,hx2⟩
 simp only at hx1 hx2
 dsimp only
 refine WP.seq<|WP.reg ?_
 refine WL.h (XY' (fun h0=>?_) (fun a y0 b hx=>?_))
 ·have hl0:left=[]:=by simpa using h0
  subst hl0
  have hf:XJ' v.bs n p0=false:=by unfold XJ';rw [← hx1];rfl
  refine WL.e Ze'<|WL.next<|WP.seq<|WP.cond_f rfl<|WP.exit<|PO.past nofun<|PO.round nofun<|PO.blockX<|PO.next<|WP.seq<|WP.reg<|WL.e Zb'<|WL.next<|WP.ret<|PO.cls (A:=Si E sp dp (v)) (B:=[cl sp 81 [.iface E.T (.pointer (some ⟨p,0,none⟩)),.map (some lm),.map (some bm)],E.pc p dp (v.st),Mp eU32 (.map (some lm)) (List.map kvU (v.l)),TxsU TPS (v.l),Mp eU32 (.map (some bm)) (List.map kvB (v.bs)),Bnds 45 (v.bs)]) (fun S h=>⟨(p,lm,bm),h⟩) ?_
  rw [hf] at hK
  exact PO.fin Tryz.results52 (Zd' Zf') hK
 ·obtain ⟨A1,y,B1,hl,rfl,rfl,rfl⟩:=Xw' hx
  have hy:=hx2 y (by rw [hl];simp)
  obtain ⟨A2,B2,hAB⟩:=List.append_of_mem hy
  refine WL.opn (ZbI_ (E:=45) hAB) fun _=>?_
  refine WL.e Ze'<|WL.next<|WP.seq<|WP.cond_t rfl<|WP.skip<|PO.next<|WP.block<|WP.seq<|WP.reg<|WL.e Xi'<|WL.e Ze' ?_
  refine WL.h (Zu' z89 fun b2=>?_)
  refine WL.h' (Zj' s89 ?_)
  refine WL.next<|WP.seq<|WP.reg<|WL.e (e_fa ZoN_)<|WL.e (Zc' a24)<|WL.e Za'<|WL.e (XE')<|WL.e Za' ?_
  refine WL.bool 22 rfl (fun h2=>?_) (fun h2=>?_)
  ·replace h2:(y.tx != n)=true:=h2
   refine WL.e (Zm' a45)<|WL.e (e_fa ZiF_)<|WL.e (Zc' a22) ?_
   refine WL.h (Zg' (ZfE_ p0 (Zr' (xs:=y.sp)) (hb y hy)) k13 ?_)
   refine WL.e Zn'<|WL.next ?_
   refine WP.cond rfl (fun h3=>?_) (fun h3=>?_)
   ·replace h3:anyS p0 y.sp=true:=h3
    have hf:XJ' v.bs n p0=true:=by unfold XJ';rw [← hx1,hl,Xx',show (y.tx != n && anyS p0 y.sp)=true by rw [h2,h3];rfl];rfl
    refine WP.seq<|WP.reg<|WL.e Zb'<|WL.next<|WP.ret<|PO.blockR<|PO.round nofun<|PO.blockR<|PO.past nofun<|PO.cls (A:=Bnds 45 v.bs) (B:=[Sl 45 2 SpanM.c y.sv.v y.sp,Bnds 45 (A2++B2)]) (fun S h=>hAB ▸ Jv' S h) ?_
    refine PO.conv (YS' (A:=MpIt eU32 (.map (some bm)) it (List.map kvB v.bs) _ _) (B:=Mp eU32 (.map (some bm)) (List.map kvB v.bs)) JT' (by repeat first | exact .z | apply Put.s)) ?_
    refine PO.cls (A:=Si E sp dp (v)) (B:=[cl sp 81 [.iface E.T (.pointer (some ⟨p,0,none⟩)),.map (some lm),.map (some bm)],E.pc p dp (v.st),Mp eU32 (.map (some lm)) (List.map kvU (v.l)),TxsU TPS (v.l),Mp eU32 (.map (some bm)) (List.map kvB (v.bs)),Bnds 45 (v.bs)]) (fun S h=>⟨(p,lm,bm),h⟩) ?_
    rw [hf] at hK
    exact PO.fin Tryz.results52 (Zd' Zf') hK
   ·replace h3:anyS p0 y.sp=false:=h3
    refine WP.skip<|PO.blockN<|PO.cls (A:=Bnds 45 v.bs) (B:=[Sl 45 2 SpanM.c y.sv.v y.sp,Bnds 45 (A2++B2)]) (fun S h=>hAB ▸ Jv' S h) ?_
    rw [← List.map_append]
    exact PO.againK (A1++B1,_) ⟨by simp only;rw [← hx1,hl,Xx',show (y.tx != n && anyS p0 y.sp)=false by rw [h2,h3];rfl];rfl,fun t ht=>hx2 t (by rw [hl];rcases List.mem_append.1 ht with h | h <;> simp [h])⟩ (by simp only [hl,List.length_append,List.length_cons];omega)
  ·replace h2:(y.tx != n)=false:=h2
   refine WL.skip<|WL.skip<|WL.skip<|WL.skip<|WL.e Zl'<|WL.next<|WP.cond_f rfl<|WP.skip<|PO.blockN<|PO.cls (A:=Bnds 45 v.bs) (B:=[Sl 45 2 SpanM.c y.sv.v y.sp,Bnds 45 (A2++B2)]) (fun S h=>hAB ▸ Jv' S h) ?_
   rw [← List.map_append]
   exact PO.againK (A1++B1,_) ⟨by simp only;rw [← hx1,hl,Xx',show (y.tx != n && anyS p0 y.sp)=false by rw [h2];rfl];rfl,fun t ht=>hx2 t (by rw [hl];rcases List.mem_append.1 ht with h | h <;> simp [h])⟩ (by simp only [hl,List.length_append,List.length_cons];omega)
theorem ZkC_ {g:World} {M:EngM} {E:Eng Tryz.prog g 105 M} {sp dp:Nat} {v:SiteV M.St} {t:TxU UInt32 SiX} {A B:List (TxU UInt32 SiX)} (n:UInt32) (x:OpM) (hts:v.l=A++t::B) (hb:∀ x ∈ v.bs,x.sp.length≤68719476736):Spec Tryz.prog g 36 [.pointer (some ⟨sp,0,none⟩),.int .u32 n.toNat,.pointer (some ⟨t.q,0,none⟩),x.v] [Si E sp dp v] fun K R=>K (.tuple #[(Zi' x).v,.int .i64 (mayS v.bs n t.x.loc (Zi' x))]) (Si E sp dp v::R):=by
 refine Spec.intro Tryz.func36 rfl Tryz.ntmps36 rfl fun R K hK=>?_
 refine WP.seq<|WP.reg ?_
 refine WL.h (ZL' fun b1=>?_)
 refine WL.h (Zu' z45 fun b2=>?_)
 refine WL.e Zb'<|WL.next<|WP.seq<|WP.reg<|WL.e (Zm' a26) ?_
 refine WL.h (Zg' (Kk' _) k14 ?_)
 refine WL.h (Zu' z45 fun b3=>?_)
 refine WL.h' (Zj' s45 ?_)
 refine WL.next<|WP.seq<|WP.seq<|WP.reg<|WL.e Za'<|WL.e Za'<|WL.e (Zm' a45) ?_
 refine WL.h (Zg' (Zgr_ n (Zi' x) hb) k52 ?_)
 refine WL.opn (KM' (E:=E) (sp:=sp) (dp:=dp) (v:=v)) fun x=>?_
 obtain ⟨p,lm,bm⟩:=x
 dsimp only
 refine WL.opn (Y5' (TP:=TPS) hts) fun _=>?_
 refine WL.opn (Qz' (t:=t)) fun y=>?_
 try dsimp only
 refine WL.e Zb'<|WL.next<|WP.block<|WP.seq<|WP.draws Zq' 13<|RW.e 0 rfl Za'<|RW.e 1 rfl Zk'<|RW.e 2 rfl (e_fa ZoM_)<|RW.e 3 rfl (Zc' a4)<|RW.e 4 rfl Za' ?_
 refine RW.bool 23 rfl (fun g1=>?_) (fun g1=>?_)
 ·replace g1:t.x.loc=true:=g1
  refine RW.e 5 rfl Za'<|RW.e 6 rfl Za' ?_
  refine RW.bool 25 rfl (fun g2=>?_) (fun g2=>?_)
  ·replace g2:XJ' v.bs n (Zi' x)=true:=g2
   refine RW.skip 7 rfl<|RW.skip 8 rfl<|RW.skip 9 rfl<|RW.e 10 rfl Zn'<|RW.e 11 rfl Zn'<|RW.e 12 rfl Zb'<|RW.done<|PO.next<|WP.cond_t rfl<|WP.seq<|WP.reg<|WL.e (Zm' a45) ?_
   refine WL.h' (Zj' s45 ?_)
   refine WL.e Zb'<|WL.next<|WP.ret<|PO.blockR<|PO.past nofun<|PO.cls (A:=SiX_ t) (B:=[cl t.q 84 [.bool t.x.loc,y.v],Sl 45 2 SpanM.c y.v t.x.sp]) (fun S h=>⟨y,h⟩) ?_
   refine PO.cls (A:=TxsU TPS v.l) (B:=[SiX_ t,TxsU TPS (A++B)]) (fun S h=>hts ▸ Yb' (TP:=TPS) (t:=t) S h) ?_
   refine PO.cls (A:=Si E sp dp (v)) (B:=[cl sp 81 [.iface E.T (.pointer (some ⟨p,0,none⟩)),.map (some lm),.map (some bm)],E.pc p dp (v.st),Mp eU32 (.map (some lm)) (List.map kvU (v.l)),TxsU TPS (v.l),Mp eU32 (.map (some bm)) (List.map kvB (v.bs)),Bnds 45 (v.bs)]) (fun S h=>⟨(p,lm,bm),h⟩) ?_
   rw [show mayS v.bs n t.x.loc (Zi' x)=10 by simp [mayS,g1,g2]] at hK
   exact PO.fin Tryz.results36 (ZB' a45 (Zd' Zf')) hK
  ·replace g2:XJ' v.bs n (Zi' x)=false:=g2
   refine RW.e 7 rfl (Zm' a45) ?_
   refine RW.any (is:=[8]) rfl ⟨?_,trivial⟩
   refine RWat.h rfl rfl rfl ?_
   refine (Zg' (ZkB_) k53 ?_)
   refine ⟨⟨⟨_,rfl,.inl ⟨rfl,(Zm' a45)⟩⟩,trivial⟩,?_⟩
   refine RW.any (is:=[9]) rfl ⟨?_,trivial⟩
   refine RWat.h rfl rfl rfl ?_
   refine (Zg' (Y8' ⟨_,_⟩ ⟨_,_⟩) k30 ?_)
   refine ⟨trivial,?_⟩
   refine RW.e 10 rfl Zl'<|RW.e 11 rfl Zn'<|RW.e 12 rfl Zb'<|RW.done<|PO.next ?_
   refine WP.cond rfl (fun g3=>?_) (fun g3=>?_)
   ·replace g3:meet (Zi' x) resS=true:=g3
    refine WP.seq<|WP.reg<|WL.e (Zm' a45) ?_
    refine WL.h' (Zj' s45 ?_)
    refine WL.e Zb'<|WL.next<|WP.ret<|PO.blockR<|PO.past nofun<|PO.cls (A:=SiX_ t) (B:=[cl t.q 84 [.bool t.x.loc,y.v],Sl 45 2 SpanM.c y.v t.x.sp]) (fun S h=>⟨y,h⟩) ?_
    refine PO.cls (A:=TxsU TPS v.l) (B:=[SiX_ t,TxsU TPS (A++B)]) (fun S h=>hts ▸ Yb' (TP:=TPS) (t:=t) S h) ?_
    refine PO.cls (A:=Si E sp dp (v)) (B:=[cl sp 81 [.iface E.T (.pointer (some ⟨p,0,none⟩)),.map (some lm),.map (some bm)],E.pc p dp (v.st),Mp eU32 (.map (some lm)) (List.map kvU (v.l)),TxsU TPS (v.l),Mp eU32 (.map (some bm)) (List.map kvB (v.bs)),Bnds 45 (v.bs)]) (fun S h=>⟨(p,lm,bm),h⟩) ?_
    rw [show mayS v.bs n t.x.loc (Zi' x)=10 by simp [mayS,g1,g2,g3]] at hK
    exact PO.fin Tryz.results36 (ZB' a45 (Zd' Zf')) hK
   ·replace g3:meet (Zi' x) resS=false:=g3
    refine WP.seq<|WP.reg<|WL.e Za'<|WL.e Zb'<|WL.next ?_
    refine WP.cond rfl (fun g4=>?_) (fun g4=>?_)
    ·exact absurd (g4.symm.trans g2) (by decide)
    ·skip
     refine WP.skip<|PO.blockN<|PO.next<|WP.seq<|WP.reg<|WL.e (Zm' a45) ?_
     refine WL.h' (Zj' s45 ?_)
     refine WL.e Zb'<|WL.next<|WP.ret<|PO.cls (A:=SiX_ t) (B:=[cl t.q 84 [.bool t.x.loc,y.v],Sl 45 2 SpanM.c y.v t.x.sp]) (fun S h=>⟨y,h⟩) ?_
     refine PO.cls (A:=TxsU TPS v.l) (B:=[SiX_ t,TxsU TPS (A++B)]) (fun S h=>hts ▸ Yb' (TP:=TPS) (t:=t) S h) ?_
     refine PO.cls (A:=Si E sp dp (v)) (B:=[cl sp 81 [.iface E.T (.pointer (some ⟨p,0,none⟩)),.map (some lm),.map (some bm)],E.pc p dp (v.st),Mp eU32 (.map (some lm)) (List.map kvU (v.l)),TxsU TPS (v.l),Mp eU32 (.map (some bm)) (List.map kvB (v.bs)),Bnds 45 (v.bs)]) (fun S h=>⟨(p,lm,bm),h⟩) ?_
     rw [show mayS v.bs n t.x.loc (Zi' x)=0 by simp [mayS,g1,g2,g3]] at hK
     exact PO.fin Tryz.results36 (ZB' a45 (Zd' Zf')) hK
 ·replace g1:t.x.loc=false:=g1
  refine RW.skip 5 rfl<|RW.skip 6 rfl<|RW.skip 7 rfl<|RW.skip 8 rfl<|RW.skip 9 rfl<|RW.skip 10 rfl<|RW.e 11 rfl Zl'<|RW.e 12 rfl Zb'<|RW.done<|PO.next<|WP.cond_f rfl<|WP.seq<|WP.reg<|WL.e Za'<|WL.e Zb'<|WL.next ?_
  refine WP.cond rfl (fun g4=>?_) (fun g4=>?_)
  ·replace g4:XJ' v.bs n (Zi' x)=true:=g4
   refine WP.seq<|WP.reg<|WL.e (Zm' a45) ?_
   refine WL.h' (Zj' s45 ?_)
   refine WL.e Zb'<|WL.next<|WP.ret<|PO.blockR<|PO.past nofun<|PO.cls (A:=SiX_ t) (B:=[cl t.q 84 [.bool t.x.loc,y.v],Sl 45 2 SpanM.c y.v t.x.sp]) (fun S h=>⟨y,h⟩) ?_
   refine PO.cls (A:=TxsU TPS v.l) (B:=[SiX_ t,TxsU TPS (A++B)]) (fun S h=>hts ▸ Yb' (TP:=TPS) (t:=t) S h) ?_
   refine PO.cls (A:=Si E sp dp (v)) (B:=[cl sp 81 [.iface E.T (.pointer (some ⟨p,0,none⟩)),.map (some lm),.map (some bm)],E.pc p dp (v.st),Mp eU32 (.map (some lm)) (List.map kvU (v.l)),TxsU TPS (v.l),Mp eU32 (.map (some bm)) (List.map kvB (v.bs)),Bnds 45 (v.bs)]) (fun S h=>⟨(p,lm,bm),h⟩) ?_
   rw [show mayS v.bs n t.x.loc (Zi' x)=8 by simp [mayS,g1,g4]] at hK
   exact PO.fin Tryz.results36 (ZB' a45 (Zd' Zf')) hK
  ·replace g4:XJ' v.bs n (Zi' x)=false:=g4
   refine WP.skip<|PO.blockN<|PO.next<|WP.seq<|WP.reg<|WL.e (Zm' a45) ?_
   refine WL.h' (Zj' s45 ?_)
   refine WL.e Zb'<|WL.next<|WP.ret<|PO.cls (A:=SiX_ t) (B:=[cl t.q 84 [.bool t.x.loc,y.v],Sl 45 2 SpanM.c y.v t.x.sp]) (fun S h=>⟨y,h⟩) ?_
   refine PO.cls (A:=TxsU TPS v.l) (B:=[SiX_ t,TxsU TPS (A++B)]) (fun S h=>hts ▸ Yb' (TP:=TPS) (t:=t) S h) ?_
   refine PO.cls (A:=Si E sp dp (v)) (B:=[cl sp 81 [.iface E.T (.pointer (some ⟨p,0,none⟩)),.map (some lm),.map (some bm)],E.pc p dp (v.st),Mp eU32 (.map (some lm)) (List.map kvU (v.l)),TxsU TPS (v.l),Mp eU32 (.map (some bm)) (List.map kvB (v.bs)),Bnds 45 (v.bs)]) (fun S h=>⟨(p,lm,bm),h⟩) ?_
   rw [show mayS v.bs n t.x.loc (Zi' x)=0 by simp [mayS,g1,g4]] at hK
   exact PO.fin Tryz.results36 (ZB' a45 (Zd' Zf')) hK
theorem ZiG_ {g:World} {M:EngM} {E:Eng Tryz.prog g 105 M} {sp dp p lm bm:Nat} {v:SiteV M.St} {y val:Value} {B C:HP} (n:UInt32) (hy:CallV Tryz.prog g y [.int .u32 n.toNat] [cl sp 81 [.iface E.T (.pointer (some ⟨p,0,none⟩)),.map (some lm),.map (some bm)],B] fun K R=>K val (C::cl sp 81 [.iface E.T (.pointer (some ⟨p,0,none⟩)),.map (some lm),.map (some bm)]::R)):Spec Tryz.prog g 38 [.pointer (some ⟨sp,0,none⟩),.int .u32 n.toNat,y] [cl sp 81 [.iface E.T (.pointer (some ⟨p,0,none⟩)),.map (some lm),.map (some bm)],Mp eU32 (.map (some lm)) (List.map kvU (v.l)),TxsU TPS v.l,B] fun K R=>K val (C::cl sp 81 [.iface E.T (.pointer (some ⟨p,0,none⟩)),.map (some lm),.map (some bm)]::Mp eU32 (.map (some lm)) (List.map kvU (delU v.l n))::TxsU TPS (delU v.l n)::R):=by
 refine Spec.intro Tryz.func38 rfl Tryz.ntmps38 rfl fun R K hK=>?_
 refine WP.seq<|WP.reg<|WL.e Zb'<|WL.next<|WP.seq<|WP.reg<|WL.e Za'<|WL.e Zk'<|WL.e (e_fa Vj')<|WL.e (Zc' a78)<|WL.e Za' ?_
 refine WL.h' (Jg' (k:=n) (kvs:=List.map kvU v.l) Tryz.underlying78 (ZQ' Tryz.underlying24) ?_)
 rw [KP']
 refine WL.cls (A:=TxsU TPS (delU v.l n)) (B:=[TxsU TPS v.l]) (fun S h=>Q4' Z8' (J9' h)) ?_
 refine WL.next<|WP.seq<|WP.reg<|WL.e Za'<|WL.e Za' ?_
 refine WL.h (YE' hy ?_)
 refine WL.e Zb'<|WL.next<|WP.ret ?_
 exact PO.fin Tryz.results38 (Zd' Zf') hK
theorem ZiH_ {g:World} {M:EngM} {E:Eng Tryz.prog g 105 M} {sp dp p lm bm:Nat} {v:SiteV M.St} {y val:Value} {B C:HP} (n:UInt32) (hy:CallV Tryz.prog g y [.int .u32 n.toNat] [cl sp 81 [.iface E.T (.pointer (some ⟨p,0,none⟩)),.map (some lm),.map (some bm)],B] fun K R=>K val (C::cl sp 81 [.iface E.T (.pointer (some ⟨p,0,none⟩)),.map (some lm),.map (some bm)]::R)):Spec Tryz.prog g 39 [.pointer (some ⟨sp,0,none⟩),.int .u32 n.toNat,y] [cl sp 81 [.iface E.T (.pointer (some ⟨p,0,none⟩)),.map (some lm),.map (some bm)],Mp eU32 (.map (some lm)) (List.map kvU (v.l)),TxsU TPS v.l,B] fun K R=>K val (C::cl sp 81 [.iface E.T (.pointer (some ⟨p,0,none⟩)),.map (some lm),.map (some bm)]::Mp eU32 (.map (some lm)) (List.map kvU (delU v.l n))::TxsU TPS (delU v.l n)::R):=by
 refine Spec.intro Tryz.func39 rfl Tryz.ntmps39 rfl fun R K hK=>?_
 refine WP.seq<|WP.reg<|WL.e Zb'<|WL.next<|WP.seq<|WP.reg<|WL.e Za'<|WL.e Zk'<|WL.e (e_fa Vj')<|WL.e (Zc' a78)<|WL.e Za' ?_
 refine WL.h' (Jg' (k:=n) (kvs:=List.map kvU v.l) Tryz.underlying78 (ZQ' Tryz.underlying24) ?_)
 rw [KP']
 refine WL.cls (A:=TxsU TPS (delU v.l n)) (B:=[TxsU TPS v.l]) (fun S h=>Q4' Z8' (J9' h)) ?_
 refine WL.next<|WP.seq<|WP.reg<|WL.e Za'<|WL.e Za' ?_
 refine WL.h (YE' hy ?_)
 refine WL.e Zb'<|WL.next<|WP.ret ?_
 exact PO.fin Tryz.results39 (Zd' Zf') hK
theorem ZkD_ {g:World} {M:EngM} {E:Eng Tryz.prog g 105 M} {sp dp p lm bm:Nat} {v:SiteV M.St} {c1 c2 b:Nat} (n:UInt32) (hs:M.Ok v.st b) (hb1:b+1≤1000000000):Spec Tryz.prog g 40 [.int .u32 n.toNat,.pointer (some ⟨c1,0,none⟩),.pointer (some ⟨c2,0,none⟩)] [cl sp 81 [.iface E.T (.pointer (some ⟨p,0,none⟩)),.map (some lm),.map (some bm)],bun [cl c1 29 [.pointer (some ⟨sp,0,none⟩)],cl c2 33 [.int .i64 0],E.pc p dp (v.st)]] fun K R=>K (.int .u32 (M.comN v.st n).toNat) (bun [cl c1 29 [.pointer (some ⟨sp,0,none⟩)],cl c2 33 [.int .i64 (M.comE v.st n)],E.pc p dp (M.comS v.st n)]::cl sp 81 [.iface E.T (.pointer (some ⟨p,0,none⟩)),.map (some lm),.map (some bm)]::R):=by
 refine Spec.intro Tryz.func40 rfl Tryz.ntmps40 rfl fun R K hK=>?_
 refine WP.opn (A:=bun [cl c1 29 [.pointer (some ⟨sp,0,none⟩)],cl c2 33 [.int .i64 0],E.pc p dp (v.st)]) (B:=fun _:Unit=>[cl c1 29 [.pointer (some ⟨sp,0,none⟩)],cl c2 33 [.int .i64 0],E.pc p dp (v.st)]) (fun S h=>⟨(),h⟩) fun _=>?_
 refine WP.seq<|WP.reg<|WL.e Zb'<|WL.next<|WP.seq<|WP.reg<|WL.e (Zc' a29)<|WL.e Zk'<|WL.e (e_fa KL')<|WL.e (Zc' a77)<|WL.e Za' ?_
 refine WL.h (Yi' E.mC (E.sC n hs hb1) E.cC ?_)
 refine WL.e Za'<|WL.e Ze'<|WL.e Ze'<|WL.e Zb' ?_
 refine WL.h' (Zj' s33 ?_)
 refine WL.next<|WP.seq<|WP.reg<|WL.e Za'<|WL.e Zb'<|WL.next<|WP.ret<|PO.cls (A:=bun [cl c1 29 [.pointer (some ⟨sp,0,none⟩)],cl c2 33 [.int .i64 (M.comE v.st n)],E.pc p dp (M.comS v.st n)]) (B:=[cl c1 29 [.pointer (some ⟨sp,0,none⟩)],cl c2 33 [.int .i64 (M.comE v.st n)],E.pc p dp (M.comS v.st n)]) (fun S h=>h) ?_
 exact PO.fin Tryz.results40 (Zd' Zf') hK
theorem ZfF_ {g:World} {M:EngM} {E:Eng Tryz.prog g 105 M} {sp dp:Nat} {v:SiteV M.St} {b:Nat} (n:UInt32) (hs:M.Ok v.st b) (hb1:b+1≤1000000000):Spec Tryz.prog g 18 [.pointer (some ⟨sp,0,none⟩),.int .u32 n.toNat] [Si E sp dp v] fun K R=>K (.tuple #[.int .u32 (M.comN v.st n).toNat,.int .i64 (M.comE v.st n)]) (Si E sp dp (Za1_ v n)::R):=by
 refine Spec.intro Tryz.func18 rfl Tryz.ntmps18 rfl fun R K hK=>?_
 refine WP.seq<|WP.reg ?_
 refine WL.h (ZL' fun b1=>?_)
 refine WL.e Zb'<|WL.e Zb'<|WL.next<|WP.seq<|WP.seq<|WP.reg<|WL.e (Zc' a29) ?_
 refine WL.h (Zg' (Ji') k27 ?_)
 refine WL.e Zx'<|WL.next<|WP.cond_f rfl<|WP.opn (KM' (E:=E) (sp:=sp) (dp:=dp) (v:=v)) fun x=>?_
 obtain ⟨p,lm,bm⟩:=x
 dsimp only
 refine WP.skip<|PO.next<|WP.seq<|WP.reg ?_
 refine WL.h (Zu' z33 fun b2=>?_)
 refine WL.next<|WP.seq<|WP.reg<|WL.e (Zc' a29)<|WL.e Za'<|WL.e Ym'<|WL.cls (A:=bun [cl b1 29 [.pointer (some ⟨sp,0,none⟩)],cl b2 33 [.int .i64 0],E.pc p dp (v.st)]) (B:=[cl b1 29 [.pointer (some ⟨sp,0,none⟩)],cl b2 33 [.int .i64 0],E.pc p dp (v.st)]) (fun S h=>h) ?_
 refine WL.h (Zg' (ZiH_ (E:=E) (dp:=dp) (p:=p) (v:=v) n (CallV.of_spec (fs:=[]) (cs:=[.pointer (some ⟨b1,0,none⟩),.pointer (some ⟨b2,0,none⟩)]) (ZkD_ (E:=E) (v:=v) n hs hb1) k40)) k39 ?_)
 show WL _ _ _ _ _ _ _ _
 refine WL.opn (A:=bun [cl b1 29 [.pointer (some ⟨sp,0,none⟩)],cl b2 33 [.int .i64 (M.comE v.st n)],E.pc p dp (M.comS v.st n)]) (B:=fun _:Unit=>[cl b1 29 [.pointer (some ⟨sp,0,none⟩)],cl b2 33 [.int .i64 (M.comE v.st n)],E.pc p dp (M.comS v.st n)]) (fun S h=>⟨(),h⟩) fun _=>?_
 refine WL.e Zb'<|WL.next<|WP.seq<|WP.draws Zq' 4<|RW.e 0 rfl Za'<|RW.e 1 rfl (Zc' a33)<|RW.e 2 rfl Zb'<|RW.e 3 rfl Zb'<|RW.done<|PO.next<|WP.ret<|PO.cls (A:=Si E sp dp (Za1_ v n)) (B:=[cl sp 81 [.iface E.T (.pointer (some ⟨p,0,none⟩)),.map (some lm),.map (some bm)],E.pc p dp (M.comS v.st n),Mp eU32 (.map (some lm)) (List.map kvU (delU v.l n)),TxsU TPS (delU v.l n),Mp eU32 (.map (some bm)) (List.map kvB (v.bs)),Bnds 45 (v.bs)]) (fun S h=>⟨(p,lm,bm),h⟩) ?_
 exact PO.fin Tryz.results18 (Zd' (Zd' Zf')) hK
theorem Zbj_ {g:World} {M:EngM} {E:Eng Tryz.prog g 105 M} {sp dp:Nat} {v:SiteV M.St} {b:Nat} (n:UInt32) (hs:M.Ok v.st b):Spec Tryz.prog g 15 [.pointer (some ⟨sp,0,none⟩),.int .u32 n.toNat] [Si E sp dp v] fun K R=>K (.int .i64 (M.aboE v.st n)) (Si E sp dp (UV' v n)::R):=by
 refine Spec.intro Tryz.func15 rfl Tryz.ntmps15 rfl fun R K hK=>?_
 refine WP.seq<|WP.reg<|WL.e Zb'<|WL.next<|WP.seq<|WP.seq<|WP.reg<|WL.e Za' ?_
 refine WL.h (Zg' (Ji') k27 ?_)
 refine WL.e Zx'<|WL.next<|WP.cond_f rfl<|WP.opn (KM' (E:=E) (sp:=sp) (dp:=dp) (v:=v)) fun x=>?_
 obtain ⟨p,lm,bm⟩:=x
 dsimp only
 refine WP.skip<|PO.next<|WP.seq<|WP.reg<|WL.e Za'<|WL.e Za'<|WL.e Za'<|WL.e Zk'<|WL.e (e_fa KL')<|WL.e (Zc' a77)<|WL.e Zon_<|WL.e Ym' ?_
 refine WL.h (Zg' (ZiG_ (E:=E) (dp:=dp) (p:=p) (v:=v) (B:=E.pc p dp v.st) (C:=E.pc p dp (M.aboS v.st n)) n (CallV.frame (CallV.of_met E.mA (E.sA n hs) E.cA))) k38 ?_)
 refine WL.e Zb'<|WL.next<|WP.ret<|PO.cls (A:=Si E sp dp (UV' v n)) (B:=[cl sp 81 [.iface E.T (.pointer (some ⟨p,0,none⟩)),.map (some lm),.map (some bm)],E.pc p dp (M.aboS v.st n),Mp eU32 (.map (some lm)) (List.map kvU (delU v.l n)),TxsU TPS (delU v.l n),Mp eU32 (.map (some bm)) (List.map kvB (v.bs)),Bnds 45 (v.bs)]) (fun S h=>⟨(p,lm,bm),h⟩) ?_
 exact PO.fin Tryz.results15 (Zd' Zf') hK
theorem ZkE_ {g:World} {M:EngM} {E:Eng Tryz.prog g 105 M} {sp dp:Nat} {v:SiteV M.St} {b:Nat} {ms:Array (String × TypeId)} (hI:Program.underlying Tryz.prog 77=some (.interface ms)) (hs:M.Ok v.st b):Spec Tryz.prog g 41 [.pointer (some ⟨sp,0,none⟩),.func (.methodOf 77 "Rows") #[] #[]] [Si E sp dp v] fun K R=>∀ a m c,K (.slice a m c) (Sl 105 2 RowM.c (.slice a m c) (M.rows v.st)::Si E sp dp v::R):=by
 refine Spec.intro Tryz.func41 rfl Tryz.ntmps41 rfl fun R K hK=>?_
 refine WP.seq<|WP.reg<|WL.e Zb'<|WL.next<|WP.seq<|WP.seq<|WP.reg<|WL.e Za' ?_
 refine WL.h (Zg' (Ji') k27 ?_)
 refine WL.e Zx'<|WL.next<|WP.cond_f rfl<|WP.opn (KM' (E:=E) (sp:=sp) (dp:=dp) (v:=v)) fun x=>?_
 obtain ⟨p,lm,bm⟩:=x
 dsimp only
 refine WP.skip<|PO.next<|WP.seq<|WP.reg<|WL.e Za'<|WL.e Za'<|WL.e Zk'<|WL.e (e_fa KL')<|WL.e (Zc' a77) ?_
 refine WL.h (YE' (CallV.of_metx hI E.mR (E.sR hs) E.cR) ?_)
 intro a9 m9 c9
 refine WL.e Zb'<|WL.next<|WP.ret<|PO.cls (A:=Si E sp dp (v)) (B:=[cl sp 81 [.iface E.T (.pointer (some ⟨p,0,none⟩)),.map (some lm),.map (some bm)],E.pc p dp (v.st),Mp eU32 (.map (some lm)) (List.map kvU (v.l)),TxsU TPS (v.l),Mp eU32 (.map (some bm)) (List.map kvB (v.bs)),Bnds 45 (v.bs)]) (fun S h=>⟨(p,lm,bm),h⟩) ?_
 exact PO.fin Tryz.results41 (Zd' Zf') (hK a9 m9 c9)
theorem XB' {g:World} {M:EngM} {E:Eng Tryz.prog g 105 M} {sp dp:Nat} {v:SiteV M.St} {b:Nat} (hs:M.Ok v.st b):Spec Tryz.prog g 21 [.pointer (some ⟨sp,0,none⟩)] [Si E sp dp v] fun K R=>∀ a m c,K (.slice a m c) (Sl 105 2 RowM.c (.slice a m c) (M.rows v.st)::Si E sp dp v::R):=by
 refine Spec.intro Tryz.func21 rfl Tryz.ntmps21 rfl fun R K hK=>?_
 refine WP.seq<|WP.reg<|WL.e Zb'<|WL.next<|WP.seq<|WP.reg<|WL.e Za'<|WL.e Ym' ?_
 refine WL.h (Zg' (ZkE_ Tryz.underlying77 hs) k41 ?_)
 intro a9 m9 c9
 refine WL.e Zb'<|WL.next<|WP.ret ?_
 exact PO.fin Tryz.results21 (Zd' Zf') (hK a9 m9 c9)
theorem ZiI_ {g:World} {M:EngM} {E:Eng Tryz.prog g 105 M} {sp dp:Nat} {v:SiteV M.St} (n:UInt32):Spec Tryz.prog g 16 [.pointer (some ⟨sp,0,none⟩),.int .u32 n.toNat] [Si E sp dp v] fun K R=>K (.int .i64 (UW' v n)) (Si E sp dp (if UW' v n=0 then ZfA_ v n else v)::R):=by
 refine Spec.intro Tryz.func16 rfl Tryz.ntmps16 rfl fun R K hK=>?_
 refine WP.seq<|WP.reg<|WL.e Zb'<|WL.next<|WP.seq<|WP.seq<|WP.reg<|WL.e Za' ?_
 refine WL.h (Zg' (Ji') k27 ?_)
 refine WL.e Zx'<|WL.next<|WP.cond_f rfl<|WP.opn (KM' (E:=E) (sp:=sp) (dp:=dp) (v:=v)) fun x=>?_
 obtain ⟨p,lm,bm⟩:=x
 dsimp only
 obtain ⟨zz,hzz⟩:=ZoK_ v.bs n
 refine WP.skip<|PO.next<|WP.seq<|WP.seq<|WP.reg<|WL.e Za'<|WL.e Zk'<|WL.e (e_fa Vk')<|WL.e (Zc' a79)<|WL.e Za'<|WL.e (Znz_ (n:=n) (bs:=v.bs) hzz Tryz.underlying79 (ZQ' Tryz.underlying24) zg89)<|WL.e Za'<|WL.e Ze'<|WL.e Ze' ?_
 refine WL.h (Zu' z89 fun b1=>?_)
 refine WL.h' (Zj' s89 ?_)
 refine WL.e Zb'<|WL.next<|WP.seq<|WP.reg<|WL.e Za'<|WL.e Zx'<|WL.next ?_
 refine WP.cond rfl (fun h1=>?_) (fun h1=>?_)
 ·have hf:Qh' v.bs n=none:=by cases e:Qh' v.bs n with
   | none=>rfl
   | some y=>rw [e] at h1;cases h1
  have hE:UW' v n=6:=by simp [UW',hf]
  refine WP.seq<|WP.reg<|WL.e Zb'<|WL.next<|WP.ret<|PO.past nofun<|PO.cls (A:=Si E sp dp (v)) (B:=[cl sp 81 [.iface E.T (.pointer (some ⟨p,0,none⟩)),.map (some lm),.map (some bm)],E.pc p dp (v.st),Mp eU32 (.map (some lm)) (List.map kvU (v.l)),TxsU TPS (v.l),Mp eU32 (.map (some bm)) (List.map kvB (v.bs)),Bnds 45 (v.bs)]) (fun S h=>⟨(p,lm,bm),h⟩) ?_
  rw [hE,if_neg (by decide)] at hK
  exact PO.fin Tryz.results16 (Zd' Zf') hK
 ·have hf:(Qh' v.bs n).isSome=true:=by cases e:Qh' v.bs n with
   | none=>rw [e] at h1;cases h1
   | some y=>rfl
  have hE:UW' v n=0:=by simp [UW',hf]
  refine WP.skip<|PO.next<|WP.seq<|WP.reg<|WL.e Za'<|WL.e Zk'<|WL.e (e_fa Vk')<|WL.e (Zc' a79)<|WL.e Za' ?_
  refine WL.h' (Jg' (k:=n) (kvs:=List.map kvB v.bs) Tryz.underlying79 (ZQ' Tryz.underlying24) ?_)
  rw [Zma_]
  refine WL.cls (A:=Bnds 45 (delB v.bs n)) (B:=[Bnds 45 v.bs]) (fun S h=>Zme_ S (Zkz_ h)) ?_
  refine WL.next<|WP.seq<|WP.reg<|WL.e Zb'<|WL.next<|WP.ret<|PO.cls (A:=Si E sp dp (ZfA_ v n)) (B:=[cl sp 81 [.iface E.T (.pointer (some ⟨p,0,none⟩)),.map (some lm),.map (some bm)],E.pc p dp (v.st),Mp eU32 (.map (some lm)) (List.map kvU (v.l)),TxsU TPS (v.l),Mp eU32 (.map (some bm)) (List.map kvB (delB v.bs n)),Bnds 45 (delB v.bs n)]) (fun S h=>⟨(p,lm,bm),h⟩) ?_
  rw [hE,if_pos rfl] at hK
  exact PO.fin Tryz.results16 (Zd' Zf') hK
set_option maxHeartbeats 4000000 in
theorem QA' {g:World} {M:EngM} {E:Eng Tryz.prog g 105 M} {sp dp:Nat} {v:SiteV M.St} {b:Nat} (n:UInt32) (x:OpM) (hs:SiOk v b):Spec Tryz.prog g 12 [.pointer (some ⟨sp,0,none⟩),.int .u32 n.toNat,x.v] [Si E sp dp v] fun K R=>match doSi v n x with
   | .err v' e=>K (.tuple #[.agg #[.slice none 0 0],.int .i64 e]) (Si E sp dp v'::R)
   | .put f=>∀ sv,K (.tuple #[.agg #[.slice none 0 0],.int .i64 0]) (Si E sp dp (f sv)::R)
   | .look v' rows=>∀ a m c,K (.tuple #[.agg #[.slice a m c],.int .i64 0]) (Sl 105 2 RowM.c (.slice a m c) rows::Si E sp dp v'::R):=by
 refine Spec.intro Tryz.func12 rfl Tryz.ntmps12 rfl fun R K hK=>?_
 refine WP.seq<|WP.reg ?_
 refine WL.h (ZL' fun b1=>?_)
 refine WL.h (Zu' z40 fun b2=>?_)
 refine WL.e Zb'<|WL.next<|WP.seq<|WP.seq<|WP.reg<|WL.e Za' ?_
 refine WL.h (Zg' (Ji') k27 ?_)
 refine WL.e Zx'<|WL.next<|WP.cond_f rfl<|WP.opn (KM' (E:=E) (sp:=sp) (dp:=dp) (v:=v)) fun x=>?_
 obtain ⟨p,lm,bm⟩:=x
 dsimp only
 refine WP.skip<|PO.next<|WP.seq<|WP.reg<|WL.e Za'<|WL.e Zk'<|WL.e (e_fa Vj')<|WL.e (Zc' a78)<|WL.e Za'<|WL.e (JV' (n:=n) (ts:=v.l) Tryz.underlying78 (ZQ' Tryz.underlying24) zz82)<|WL.e Zb'<|WL.next<|WP.seq<|WP.seq<|WP.reg<|WL.e Za'<|WL.e (JW' pt82)<|WL.e Za' ?_
 refine WL.bool 26 rfl (fun g0=>?_) (fun g0=>?_)
 ·have hf:Zs' v.l n=none:=by cases e:Zs' v.l n with
   | none=>rfl
   | some t=>rw [e] at g0;cases g0
  have hd:doSi v n x=(M.doS v.st n x).lift v:=by unfold doSi;rw [hf]
  refine WL.skip<|WL.skip<|WL.skip<|WL.e Zn'<|WL.e Za'<|WL.skip<|WL.skip<|WL.skip<|WL.e Zn'<|WL.next<|WP.cond_t rfl<|WP.seq<|WP.draws Zq' 11<|RW.e 0 rfl Za'<|RW.e 1 rfl Zk'<|RW.e 2 rfl (e_fa KL')<|RW.e 3 rfl (Zc' a77)<|RW.e 4 rfl Za'<|RW.e 5 rfl (Zm' a26) ?_
  refine RW.any (is:=[6]) rfl ⟨?_,trivial⟩
  refine RWat.h rfl rfl rfl ?_
  refine (Yi' E.mD (E.sD n x hs.ok) E.cD ?_)
  rcases hdo:M.doS v.st n x with ⟨s2,e⟩ | f | ⟨s2,rws⟩ <;> rw [hdo] at hd
  ·dsimp only [DoE.lift] at hd
   rw [hd] at hK
   dsimp only at hK ⊢
   refine ⟨trivial,?_⟩
   refine RW.e 7 rfl Ze'<|RW.e 8 rfl Ze' ?_
   refine RW.any (is:=[9]) rfl ⟨?_,trivial⟩
   refine RWat.h' rfl rfl rfl ?_
   refine (Zj' s40 ?_)
   refine ⟨trivial,?_⟩
   refine RW.e 10 rfl Zb'<|RW.done<|PO.next<|WP.ret<|PO.past nofun<|PO.cls (A:=Si E sp dp ({ v with st:=s2 })) (B:=[cl sp 81 [.iface E.T (.pointer (some ⟨p,0,none⟩)),.map (some lm),.map (some bm)],E.pc p dp (s2),Mp eU32 (.map (some lm)) (List.map kvU (v.l)),TxsU TPS (v.l),Mp eU32 (.map (some bm)) (List.map kvB (v.bs)),Bnds 45 (v.bs)]) (fun S h=>⟨(p,lm,bm),h⟩) ?_
   exact PO.fin Tryz.results12 (ZB' a40 (Zd' Zf')) hK
  ·dsimp only [DoE.lift] at hd
   rw [hd] at hK
   dsimp only at hK ⊢
   intro sv
   refine ⟨trivial,?_⟩
   refine RW.e 7 rfl Ze'<|RW.e 8 rfl Ze' ?_
   refine RW.any (is:=[9]) rfl ⟨?_,trivial⟩
   refine RWat.h' rfl rfl rfl ?_
   refine (Zj' s40 ?_)
   refine ⟨trivial,?_⟩
   refine RW.e 10 rfl Zb'<|RW.done<|PO.next<|WP.ret<|PO.past nofun<|PO.cls (A:=Si E sp dp ({ v with st:=f sv })) (B:=[cl sp 81 [.iface E.T (.pointer (some ⟨p,0,none⟩)),.map (some lm),.map (some bm)],E.pc p dp (f sv),Mp eU32 (.map (some lm)) (List.map kvU (v.l)),TxsU TPS (v.l),Mp eU32 (.map (some bm)) (List.map kvB (v.bs)),Bnds 45 (v.bs)]) (fun S h=>⟨(p,lm,bm),h⟩) ?_
   exact PO.fin Tryz.results12 (ZB' a40 (Zd' Zf')) (hK sv)
  ·dsimp only [DoE.lift] at hd
   rw [hd] at hK
   dsimp only at hK ⊢
   intro a7 m7 c7
   refine ⟨trivial,?_⟩
   refine RW.e 7 rfl Ze'<|RW.e 8 rfl Ze' ?_
   refine RW.any (is:=[9]) rfl ⟨?_,trivial⟩
   refine RWat.h' rfl rfl rfl ?_
   refine (Zj' s40 ?_)
   refine ⟨trivial,?_⟩
   refine RW.e 10 rfl Zb'<|RW.done<|PO.next<|WP.ret<|PO.past nofun<|PO.cls (A:=Si E sp dp ({ v with st:=s2 })) (B:=[cl sp 81 [.iface E.T (.pointer (some ⟨p,0,none⟩)),.map (some lm),.map (some bm)],E.pc p dp (s2),Mp eU32 (.map (some lm)) (List.map kvU (v.l)),TxsU TPS (v.l),Mp eU32 (.map (some bm)) (List.map kvB (v.bs)),Bnds 45 (v.bs)]) (fun S h=>⟨(p,lm,bm),h⟩) ?_
   exact PO.fin Tryz.results12 (ZB' a40 (Zd' Zf')) (hK a7 m7 c7)
 ·obtain ⟨t,hf⟩:∃ t,Zs' v.l n=some t:=by cases e:Zs' v.l n with
   | none=>rw [e] at g0;cases g0
   | some t=>exact ⟨t,rfl⟩
  rw [hf,Option.map_some]
  have htm:=ZI' hf
  obtain ⟨hid,A,B,hts,hdel,hA⟩:=Yc' hf
  have hset:setU v.l n { t.x with sp:=t.x.sp++[Zi' x] }=A++{ t with x:={ t.x with sp:=t.x.sp++[Zi' x] } }::B:=by rw [← hid,hts];exact Vy' (hts ▸ hs.ids) _
  refine WL.e (e_fa XF')<|WL.e (Zc' a23)<|WL.e Z3'<|WL.e Zl'<|WL.e Za' ?_
  refine WL.bool 31 rfl (fun g1=>?_) (fun g1=>?_)
  ·have hk:KG' x=false:=by unfold KG';simp only [UInt8.lt_iff_toNat_lt];have h9:x.kind.toNat < 1:=(by rw [decide_eq_true_eq] at g1;omega);simp [h9]
   have hd:doSi v n x=(M.doS v.st n x).lift v:=by unfold doSi;rw [hf];simp only [hk,Bool.false_eq_true,if_false]
   refine WL.skip<|WL.skip<|WL.skip<|WL.e Zn'<|WL.next<|WP.cond_t rfl<|WP.seq<|WP.draws Zq' 11<|RW.e 0 rfl Za'<|RW.e 1 rfl Zk'<|RW.e 2 rfl (e_fa KL')<|RW.e 3 rfl (Zc' a77)<|RW.e 4 rfl Za'<|RW.e 5 rfl (Zm' a26) ?_
   refine RW.any (is:=[6]) rfl ⟨?_,trivial⟩
   refine RWat.h rfl rfl rfl ?_
   refine (Yi' E.mD (E.sD n x hs.ok) E.cD ?_)
   rcases hdo:M.doS v.st n x with ⟨s2,e⟩ | f | ⟨s2,rws⟩ <;> rw [hdo] at hd
   ·dsimp only [DoE.lift] at hd
    rw [hd] at hK
    dsimp only at hK ⊢
    refine ⟨trivial,?_⟩
    refine RW.e 7 rfl Ze'<|RW.e 8 rfl Ze' ?_
    refine RW.any (is:=[9]) rfl ⟨?_,trivial⟩
    refine RWat.h' rfl rfl rfl ?_
    refine (Zj' s40 ?_)
    refine ⟨trivial,?_⟩
    refine RW.e 10 rfl Zb'<|RW.done<|PO.next<|WP.ret<|PO.past nofun<|PO.cls (A:=Si E sp dp ({ v with st:=s2 })) (B:=[cl sp 81 [.iface E.T (.pointer (some ⟨p,0,none⟩)),.map (some lm),.map (some bm)],E.pc p dp (s2),Mp eU32 (.map (some lm)) (List.map kvU (v.l)),TxsU TPS (v.l),Mp eU32 (.map (some bm)) (List.map kvB (v.bs)),Bnds 45 (v.bs)]) (fun S h=>⟨(p,lm,bm),h⟩) ?_
    exact PO.fin Tryz.results12 (ZB' a40 (Zd' Zf')) hK
   ·dsimp only [DoE.lift] at hd
    rw [hd] at hK
    dsimp only at hK ⊢
    intro sv
    refine ⟨trivial,?_⟩
    refine RW.e 7 rfl Ze'<|RW.e 8 rfl Ze' ?_
    refine RW.any (is:=[9]) rfl ⟨?_,trivial⟩
    refine RWat.h' rfl rfl rfl ?_
    refine (Zj' s40 ?_)
    refine ⟨trivial,?_⟩
    refine RW.e 10 rfl Zb'<|RW.done<|PO.next<|WP.ret<|PO.past nofun<|PO.cls (A:=Si E sp dp ({ v with st:=f sv })) (B:=[cl sp 81 [.iface E.T (.pointer (some ⟨p,0,none⟩)),.map (some lm),.map (some bm)],E.pc p dp (f sv),Mp eU32 (.map (some lm)) (List.map kvU (v.l)),TxsU TPS (v.l),Mp eU32 (.map (some bm)) (List.map kvB (v.bs)),Bnds 45 (v.bs)]) (fun S h=>⟨(p,lm,bm),h⟩) ?_
    exact PO.fin Tryz.results12 (ZB' a40 (Zd' Zf')) (hK sv)
   ·dsimp only [DoE.lift] at hd
    rw [hd] at hK
    dsimp only at hK ⊢
    intro a7 m7 c7
    refine ⟨trivial,?_⟩
    refine RW.e 7 rfl Ze'<|RW.e 8 rfl Ze' ?_
    refine RW.any (is:=[9]) rfl ⟨?_,trivial⟩
    refine RWat.h' rfl rfl rfl ?_
    refine (Zj' s40 ?_)
    refine ⟨trivial,?_⟩
    refine RW.e 10 rfl Zb'<|RW.done<|PO.next<|WP.ret<|PO.past nofun<|PO.cls (A:=Si E sp dp ({ v with st:=s2 })) (B:=[cl sp 81 [.iface E.T (.pointer (some ⟨p,0,none⟩)),.map (some lm),.map (some bm)],E.pc p dp (s2),Mp eU32 (.map (some lm)) (List.map kvU (v.l)),TxsU TPS (v.l),Mp eU32 (.map (some bm)) (List.map kvB (v.bs)),Bnds 45 (v.bs)]) (fun S h=>⟨(p,lm,bm),h⟩) ?_
    exact PO.fin Tryz.results12 (ZB' a40 (Zd' Zf')) (hK a7 m7 c7)
  ·have hk1:¬ x.kind.toNat < 1:=by rw [decide_eq_false_iff_not] at g1;omega
   refine WL.e (e_fa XF')<|WL.e (Zc' a23)<|WL.e YY'<|WL.e Zl'<|WL.next ?_
   refine WP.cond rfl (fun g2=>?_) (fun g2=>?_)
   ·have hk:KG' x=false:=by unfold KG';simp only [UInt8.lt_iff_toNat_lt];have h9:4 < x.kind.toNat:=(by rw [decide_eq_true_eq] at g2;omega);simp [h9]
    have hd:doSi v n x=(M.doS v.st n x).lift v:=by unfold doSi;rw [hf];simp only [hk,Bool.false_eq_true,if_false]
    refine WP.seq<|WP.draws Zq' 11<|RW.e 0 rfl Za'<|RW.e 1 rfl Zk'<|RW.e 2 rfl (e_fa KL')<|RW.e 3 rfl (Zc' a77)<|RW.e 4 rfl Za'<|RW.e 5 rfl (Zm' a26) ?_
    refine RW.any (is:=[6]) rfl ⟨?_,trivial⟩
    refine RWat.h rfl rfl rfl ?_
    refine (Yi' E.mD (E.sD n x hs.ok) E.cD ?_)
    rcases hdo:M.doS v.st n x with ⟨s2,e⟩ | f | ⟨s2,rws⟩ <;> rw [hdo] at hd
    ·dsimp only [DoE.lift] at hd
     rw [hd] at hK
     dsimp only at hK ⊢
     refine ⟨trivial,?_⟩
     refine RW.e 7 rfl Ze'<|RW.e 8 rfl Ze' ?_
     refine RW.any (is:=[9]) rfl ⟨?_,trivial⟩
     refine RWat.h' rfl rfl rfl ?_
     refine (Zj' s40 ?_)
     refine ⟨trivial,?_⟩
     refine RW.e 10 rfl Zb'<|RW.done<|PO.next<|WP.ret<|PO.past nofun<|PO.cls (A:=Si E sp dp ({ v with st:=s2 })) (B:=[cl sp 81 [.iface E.T (.pointer (some ⟨p,0,none⟩)),.map (some lm),.map (some bm)],E.pc p dp (s2),Mp eU32 (.map (some lm)) (List.map kvU (v.l)),TxsU TPS (v.l),Mp eU32 (.map (some bm)) (List.map kvB (v.bs)),Bnds 45 (v.bs)]) (fun S h=>⟨(p,lm,bm),h⟩) ?_
     exact PO.fin Tryz.results12 (ZB' a40 (Zd' Zf')) hK
    ·dsimp only [DoE.lift] at hd
     rw [hd] at hK
     dsimp only at hK ⊢
     intro sv
     refine ⟨trivial,?_⟩
     refine RW.e 7 rfl Ze'<|RW.e 8 rfl Ze' ?_
     refine RW.any (is:=[9]) rfl ⟨?_,trivial⟩
     refine RWat.h' rfl rfl rfl ?_
     refine (Zj' s40 ?_)
     refine ⟨trivial,?_⟩
     refine RW.e 10 rfl Zb'<|RW.done<|PO.next<|WP.ret<|PO.past nofun<|PO.cls (A:=Si E sp dp ({ v with st:=f sv })) (B:=[cl sp 81 [.iface E.T (.pointer (some ⟨p,0,none⟩)),.map (some lm),.map (some bm)],E.pc p dp (f sv),Mp eU32 (.map (some lm)) (List.map kvU (v.l)),TxsU TPS (v.l),Mp eU32 (.map (some bm)) (List.map kvB (v.bs)),Bnds 45 (v.bs)]) (fun S h=>⟨(p,lm,bm),h⟩) ?_
     exact PO.fin Tryz.results12 (ZB' a40 (Zd' Zf')) (hK sv)
    ·dsimp only [DoE.lift] at hd
     rw [hd] at hK
     dsimp only at hK ⊢
     intro a7 m7 c7
     refine ⟨trivial,?_⟩
     refine RW.e 7 rfl Ze'<|RW.e 8 rfl Ze' ?_
     refine RW.any (is:=[9]) rfl ⟨?_,trivial⟩
     refine RWat.h' rfl rfl rfl ?_
     refine (Zj' s40 ?_)
     refine ⟨trivial,?_⟩
     refine RW.e 10 rfl Zb'<|RW.done<|PO.next<|WP.ret<|PO.past nofun<|PO.cls (A:=Si E sp dp ({ v with st:=s2 })) (B:=[cl sp 81 [.iface E.T (.pointer (some ⟨p,0,none⟩)),.map (some lm),.map (some bm)],E.pc p dp (s2),Mp eU32 (.map (some lm)) (List.map kvU (v.l)),TxsU TPS (v.l),Mp eU32 (.map (some bm)) (List.map kvB (v.bs)),Bnds 45 (v.bs)]) (fun S h=>⟨(p,lm,bm),h⟩) ?_
     exact PO.fin Tryz.results12 (ZB' a40 (Zd' Zf')) (hK a7 m7 c7)
   ·have hk:KG' x=true:=by unfold KG';simp only [UInt8.lt_iff_toNat_lt];have h9:¬ 4 < x.kind.toNat:=(by rw [decide_eq_false_iff_not] at g2;omega);simp [hk1,h9]
    refine WP.skip<|PO.next<|WP.seq<|WP.reg<|WL.e Za'<|WL.e Za'<|WL.e Za'<|WL.e (Zm' a26)<|WL.cls (A:=Si E sp dp (v)) (B:=[cl sp 81 [.iface E.T (.pointer (some ⟨p,0,none⟩)),.map (some lm),.map (some bm)],E.pc p dp (v.st),Mp eU32 (.map (some lm)) (List.map kvU (v.l)),TxsU TPS (v.l),Mp eU32 (.map (some bm)) (List.map kvB (v.bs)),Bnds 45 (v.bs)]) (fun S h=>⟨(p,lm,bm),h⟩) ?_
    refine WL.h (Zg' (ZkC_ (A:=A) (B:=B) n x hts hs.bsp) k36 ?_)
    refine WL.e Za'<|WL.e Ze'<|WL.e Ze' ?_
    refine WL.h (Zu' z45 fun b3=>?_)
    refine WL.h' (Zj' s45 ?_)
    refine WL.e Zb'<|WL.next<|WP.seq<|WP.seq<|WP.reg<|WL.e Za'<|WL.e Z2'<|WL.next ?_
    refine WP.cond rfl (fun h4=>?_) (fun h4=>?_)
    ·replace h4:¬ mayS v.bs n t.x.loc (Zi' x)=0:=by simpa using h4
     refine WP.opn (KM' (E:=E) (sp:=sp) (dp:=dp) (v:=v)) fun x=>?_
     obtain ⟨p,lm,bm⟩:=x
     dsimp only
     refine WP.seq<|WP.seq<|WP.draws Zq' 12<|RW.e 0 rfl Za'<|RW.e 1 rfl Zk'<|RW.e 2 rfl (e_fa KL')<|RW.e 3 rfl (Zc' a77)<|RW.e 4 rfl (Zm' a26) ?_
     refine RW.any (is:=[5,9]) rfl ⟨?_,?_,trivial⟩
     ·skip
      refine RWat.h rfl rfl rfl ?_
      refine (Yi' E.mD (E.sD 0 x hs.ok) E.cD ?_)
      rcases Bool.eq_false_or_eq_true (opOk x) with hx | hx
      ·rw [M.doNone hs.ok hx]
       dsimp only
       refine ⟨trivial,?_⟩
       refine RW.e 6 rfl Za'<|RW.e 7 rfl Ze'<|RW.e 8 rfl Ze' ?_
       refine RW.any (is:=[9]) rfl ⟨?_,trivial⟩
       refine RWat.h rfl rfl rfl ?_
       refine (Zu' z40 fun b4=>?_)
       refine ⟨⟨⟨_,rfl,.inl ⟨rfl,Ze'⟩⟩,⟨_,rfl,.inl ⟨rfl,Ze'⟩⟩,⟨_,rfl,.inl ⟨rfl,Za'⟩⟩,trivial⟩,?_⟩
       refine RW.any (is:=[10]) rfl ⟨?_,trivial⟩
       refine RWat.h' rfl rfl rfl ?_
       refine (Zj' s40 ?_)
       refine ⟨⟨⟨_,rfl,.inl ⟨rfl,Ze'⟩⟩,trivial⟩,?_⟩
       refine RW.e 11 rfl Zb'<|RW.done<|PO.next<|WP.seq<|WP.reg<|WL.e Za'<|WL.e ZM'<|WL.next<|WP.cond_f rfl<|WP.skip<|PO.next<|WP.seq<|WP.reg<|WL.e (Zv' z40 p40 (.z (.slice none 0 0)<|.n))<|WL.e Za' ?_
       refine WL.h' (Zj' s40 ?_)
       refine WL.e Zb'<|WL.next<|WP.ret<|PO.past nofun<|PO.cls (A:=Si E sp dp (v)) (B:=[cl sp 81 [.iface E.T (.pointer (some ⟨p,0,none⟩)),.map (some lm),.map (some bm)],E.pc p dp (v.st),Mp eU32 (.map (some lm)) (List.map kvU (v.l)),TxsU TPS (v.l),Mp eU32 (.map (some bm)) (List.map kvB (v.bs)),Bnds 45 (v.bs)]) (fun S h=>⟨(p,lm,bm),h⟩) ?_
       rw [show doSi v n x=.err v (mayS v.bs n t.x.loc (Zi' x)) by unfold doSi;rw [hf];simp only [hk,if_true,h4,if_false,hx]] at hK
       exact PO.fin Tryz.results12 (ZB' a40 (Zd' Zf')) hK
      ·rw [M.doBad hx]
       dsimp only
       refine ⟨trivial,?_⟩
       refine RW.e 6 rfl Za'<|RW.e 7 rfl Ze'<|RW.e 8 rfl Ze' ?_
       refine RW.any (is:=[9]) rfl ⟨?_,trivial⟩
       refine RWat.h rfl rfl rfl ?_
       refine (Zu' z40 fun b5=>?_)
       refine ⟨⟨⟨_,rfl,.inl ⟨rfl,Ze'⟩⟩,⟨_,rfl,.inl ⟨rfl,Ze'⟩⟩,⟨_,rfl,.inl ⟨rfl,Za'⟩⟩,trivial⟩,?_⟩
       refine RW.any (is:=[10]) rfl ⟨?_,trivial⟩
       refine RWat.h' rfl rfl rfl ?_
       refine (Zj' s40 ?_)
       refine ⟨⟨⟨_,rfl,.inl ⟨rfl,Ze'⟩⟩,trivial⟩,?_⟩
       refine RW.e 11 rfl Zb'<|RW.done<|PO.next<|WP.seq<|WP.reg<|WL.e Za'<|WL.e ZM'<|WL.next<|WP.cond_t rfl<|WP.seq<|WP.reg<|WL.e (Zv' z40 p40 (.z (.slice none 0 0)<|.n))<|WL.e Za' ?_
       refine WL.h' (Zj' s40 ?_)
       refine WL.e Zb'<|WL.next<|WP.ret<|PO.past nofun<|PO.past nofun<|PO.cls (A:=Si E sp dp (v)) (B:=[cl sp 81 [.iface E.T (.pointer (some ⟨p,0,none⟩)),.map (some lm),.map (some bm)],E.pc p dp (v.st),Mp eU32 (.map (some lm)) (List.map kvU (v.l)),TxsU TPS (v.l),Mp eU32 (.map (some bm)) (List.map kvB (v.bs)),Bnds 45 (v.bs)]) (fun S h=>⟨(p,lm,bm),h⟩) ?_
       rw [Qy' hx] at hK
       exact PO.fin Tryz.results12 (ZB' a40 (Zd' Zf')) hK
     ·skip
      refine RWat.h rfl rfl rfl ?_
      refine (Zu' z40 fun b6=>?_)
      refine ⟨⟨⟨_,rfl,.inl ⟨rfl,(Zm' a26)⟩⟩,⟨_,rfl,.inl ⟨rfl,(Zc' a77)⟩⟩,⟨_,rfl,.inl ⟨rfl,(e_fa KL')⟩⟩,⟨_,rfl,.inl ⟨rfl,Zk'⟩⟩,⟨_,rfl,.inl ⟨rfl,Za'⟩⟩,trivial⟩,?_⟩
      refine RW.any (is:=[5]) rfl ⟨?_,trivial⟩
      refine RWat.h rfl rfl rfl ?_
      refine (Yi' E.mD (E.sD 0 x hs.ok) E.cD ?_)
      rcases Bool.eq_false_or_eq_true (opOk x) with hx | hx
      ·rw [M.doNone hs.ok hx]
       dsimp only
       refine ⟨trivial,?_⟩
       refine RW.e 6 rfl Za'<|RW.e 7 rfl Ze'<|RW.e 8 rfl Ze' ?_
       refine RW.any (is:=[10]) rfl ⟨?_,trivial⟩
       refine RWat.h' rfl rfl rfl ?_
       refine (Zj' s40 ?_)
       refine ⟨⟨⟨_,rfl,.inl ⟨rfl,Ze'⟩⟩,trivial⟩,?_⟩
       refine RW.e 11 rfl Zb'<|RW.done<|PO.next<|WP.seq<|WP.reg<|WL.e Za'<|WL.e ZM'<|WL.next<|WP.cond_f rfl<|WP.skip<|PO.next<|WP.seq<|WP.reg<|WL.e (Zv' z40 p40 (.z (.slice none 0 0)<|.n))<|WL.e Za' ?_
       refine WL.h' (Zj' s40 ?_)
       refine WL.e Zb'<|WL.next<|WP.ret<|PO.past nofun<|PO.cls (A:=Si E sp dp (v)) (B:=[cl sp 81 [.iface E.T (.pointer (some ⟨p,0,none⟩)),.map (some lm),.map (some bm)],E.pc p dp (v.st),Mp eU32 (.map (some lm)) (List.map kvU (v.l)),TxsU TPS (v.l),Mp eU32 (.map (some bm)) (List.map kvB (v.bs)),Bnds 45 (v.bs)]) (fun S h=>⟨(p,lm,bm),h⟩) ?_
       rw [show doSi v n x=.err v (mayS v.bs n t.x.loc (Zi' x)) by unfold doSi;rw [hf];simp only [hk,if_true,h4,if_false,hx]] at hK
       exact PO.fin Tryz.results12 (ZB' a40 (Zd' Zf')) hK
      ·rw [M.doBad hx]
       dsimp only
       refine ⟨trivial,?_⟩
       refine RW.e 6 rfl Za'<|RW.e 7 rfl Ze'<|RW.e 8 rfl Ze' ?_
       refine RW.any (is:=[10]) rfl ⟨?_,trivial⟩
       refine RWat.h' rfl rfl rfl ?_
       refine (Zj' s40 ?_)
       refine ⟨⟨⟨_,rfl,.inl ⟨rfl,Ze'⟩⟩,trivial⟩,?_⟩
       refine RW.e 11 rfl Zb'<|RW.done<|PO.next<|WP.seq<|WP.reg<|WL.e Za'<|WL.e ZM'<|WL.next<|WP.cond_t rfl<|WP.seq<|WP.reg<|WL.e (Zv' z40 p40 (.z (.slice none 0 0)<|.n))<|WL.e Za' ?_
       refine WL.h' (Zj' s40 ?_)
       refine WL.e Zb'<|WL.next<|WP.ret<|PO.past nofun<|PO.past nofun<|PO.cls (A:=Si E sp dp (v)) (B:=[cl sp 81 [.iface E.T (.pointer (some ⟨p,0,none⟩)),.map (some lm),.map (some bm)],E.pc p dp (v.st),Mp eU32 (.map (some lm)) (List.map kvU (v.l)),TxsU TPS (v.l),Mp eU32 (.map (some bm)) (List.map kvB (v.bs)),Bnds 45 (v.bs)]) (fun S h=>⟨(p,lm,bm),h⟩) ?_
       rw [Qy' hx] at hK
       exact PO.fin Tryz.results12 (ZB' a40 (Zd' Zf')) hK
    ·replace h4:mayS v.bs n t.x.loc (Zi' x)=0:=by simpa using h4
     refine WP.opn (KM' (E:=E) (sp:=sp) (dp:=dp) (v:=v)) fun x=>?_
     obtain ⟨p,lm,bm⟩:=x
     dsimp only
     refine WP.skip<|PO.next<|WP.seq<|WP.draws Zq' 13<|RW.e 0 rfl Za'<|RW.e 1 rfl Zk'<|RW.e 2 rfl (e_fa KL')<|RW.e 3 rfl (Zc' a77)<|RW.e 4 rfl Za'<|RW.e 5 rfl (Zm' a26) ?_
     refine RW.any (is:=[6,10]) rfl ⟨?_,?_,trivial⟩
     ·skip
      refine RWat.h rfl rfl rfl ?_
      have hd0:doSi v n x=(match M.doS v.st n x with | .err s e=>.err { v with st:=s,l:=if e=9 then delU v.l n else v.l } e | .put f=>.put fun sv=>{ v with st:=f sv,l:=setU v.l n { t.x with sp:=t.x.sp++[Zi' x] } } | .look s r=>.look { v with st:=s,l:=setU v.l n { t.x with sp:=t.x.sp++[Zi' x] } } r):=by unfold doSi;rw [hf];simp only [hk,if_true,h4];rfl
      refine (Yi' E.mD (E.sD n x hs.ok) E.cD ?_)
      rcases hdo:M.doS v.st n x with ⟨s2,e⟩ | f | ⟨s2,rws⟩ <;> rw [hdo] at hd0 <;> dsimp only at hd0 <;> rw [hd0] at hK <;> dsimp only at hK ⊢
      ·have he:=(M.okErr hs.ok hdo).2.1
       refine ⟨trivial,?_⟩
       refine RW.e 7 rfl Za'<|RW.e 8 rfl Ze'<|RW.e 9 rfl Ze' ?_
       refine RW.any (is:=[10]) rfl ⟨?_,trivial⟩
       refine RWat.h rfl rfl rfl ?_
       refine (Zu' z40 fun b7=>?_)
       refine ⟨⟨⟨_,rfl,.inl ⟨rfl,Ze'⟩⟩,⟨_,rfl,.inl ⟨rfl,Ze'⟩⟩,⟨_,rfl,.inl ⟨rfl,Za'⟩⟩,trivial⟩,?_⟩
       refine RW.any (is:=[11]) rfl ⟨?_,trivial⟩
       refine RWat.h' rfl rfl rfl ?_
       refine (Zj' s40 ?_)
       refine ⟨⟨⟨_,rfl,.inl ⟨rfl,Ze'⟩⟩,trivial⟩,?_⟩
       refine RW.e 12 rfl Zb'<|RW.done<|PO.next<|WP.seq<|WP.seq<|WP.reg<|WL.e Za'<|WL.next<|WP.block<|WP.seq<|WP.reg<|WL.e ZM'<|WL.e Zb'<|WL.next ?_
       refine WP.cond rfl (fun h5=>?_) (fun h5=>?_)
       ·exact absurd (by simpa using h5) he
       ·skip
        refine WP.seq<|WP.reg<|WL.e ZM'<|WL.e Zb'<|WL.next ?_
        refine WP.cond rfl (fun h6=>?_) (fun h6=>?_)
        ·replace h6:e=9:=by simp at h6;omega
         rw [if_pos h6] at hK
         refine WP.reg<|WL.e Za'<|WL.e Zk'<|WL.e (e_fa Vj')<|WL.e (Zc' a78)<|WL.e Za' ?_
         refine WL.h' (Jg' (k:=n) (kvs:=List.map kvU v.l) Tryz.underlying78 (ZQ' Tryz.underlying24) ?_)
         rw [KP']
         refine WL.cls (A:=TxsU TPS (delU v.l n)) (B:=[TxsU TPS v.l]) (fun S h=>Q4' Z8' (J9' h)) ?_
         refine WL.nil<|PO.blockN<|PO.next<|WP.seq<|WP.reg<|WL.e (Zm' a40)<|WL.e Za' ?_
         refine WL.h' (Zj' s40 ?_)
         refine WL.e Zb'<|WL.next<|WP.ret<|PO.cls (A:=Si E sp dp ({ v with st:=s2,l:=delU v.l n })) (B:=[cl sp 81 [.iface E.T (.pointer (some ⟨p,0,none⟩)),.map (some lm),.map (some bm)],E.pc p dp (s2),Mp eU32 (.map (some lm)) (List.map kvU (delU v.l n)),TxsU TPS (delU v.l n),Mp eU32 (.map (some bm)) (List.map kvB (v.bs)),Bnds 45 (v.bs)]) (fun S h=>⟨(p,lm,bm),h⟩) ?_
         exact PO.fin Tryz.results12 (ZB' a40 (Zd' Zf')) hK
        ·replace h6:¬ e=9:=by simp at h6;omega
         rw [if_neg h6] at hK
         refine WP.skip<|PO.blockN<|PO.next<|WP.seq<|WP.reg<|WL.e (Zm' a40)<|WL.e Za' ?_
         refine WL.h' (Zj' s40 ?_)
         refine WL.e Zb'<|WL.next<|WP.ret<|PO.cls (A:=Si E sp dp ({ v with st:=s2 })) (B:=[cl sp 81 [.iface E.T (.pointer (some ⟨p,0,none⟩)),.map (some lm),.map (some bm)],E.pc p dp (s2),Mp eU32 (.map (some lm)) (List.map kvU (v.l)),TxsU TPS (v.l),Mp eU32 (.map (some bm)) (List.map kvB (v.bs)),Bnds 45 (v.bs)]) (fun S h=>⟨(p,lm,bm),h⟩) ?_
         exact PO.fin Tryz.results12 (ZB' a40 (Zd' Zf')) hK
      ·intro sv
       refine ⟨trivial,?_⟩
       refine RW.e 7 rfl Za'<|RW.e 8 rfl Ze'<|RW.e 9 rfl Ze' ?_
       refine RW.any (is:=[10]) rfl ⟨?_,trivial⟩
       refine RWat.h rfl rfl rfl ?_
       refine (Zu' z40 fun b8=>?_)
       refine ⟨⟨⟨_,rfl,.inl ⟨rfl,Ze'⟩⟩,⟨_,rfl,.inl ⟨rfl,Ze'⟩⟩,⟨_,rfl,.inl ⟨rfl,Za'⟩⟩,trivial⟩,?_⟩
       refine RW.any (is:=[11]) rfl ⟨?_,trivial⟩
       refine RWat.h' rfl rfl rfl ?_
       refine (Zj' s40 ?_)
       refine ⟨⟨⟨_,rfl,.inl ⟨rfl,Ze'⟩⟩,trivial⟩,?_⟩
       refine RW.e 12 rfl Zb'<|RW.done<|PO.next<|WP.seq<|WP.seq<|WP.reg<|WL.e Za'<|WL.next<|WP.block<|WP.seq<|WP.reg<|WL.e ZM'<|WL.e Zb'<|WL.next<|WP.cond_t rfl<|WP.opn (Y5' (TP:=TPS) hts) fun _=>?_
       refine WP.opn (Qz' (t:=t)) fun y=>?_
       try dsimp only
       refine WP.draws Zq' 11<|RW.e 0 rfl Za'<|RW.e 1 rfl Za'<|RW.e 2 rfl Zk'<|RW.e 3 rfl (e_fa J2')<|RW.e 4 rfl (Zc' a22)<|RW.e 5 rfl (Zm' a45) ?_
       refine RW.any (is:=[6]) rfl ⟨?_,trivial⟩
       refine RWat.h rfl rfl rfl ?_
       refine (h_bs sl22 z45 (.a2 (.tmp 88) rfl<|.n) fun b9=>?_)
       refine ⟨⟨⟨_,rfl,.inl ⟨rfl,(Zc' a22)⟩⟩,⟨_,rfl,.inl ⟨rfl,(e_fa J2')⟩⟩,⟨_,rfl,.inl ⟨rfl,Zk'⟩⟩,⟨_,rfl,.inl ⟨rfl,Za'⟩⟩,⟨_,rfl,.inl ⟨rfl,Za'⟩⟩,trivial⟩,?_⟩
       refine RW.any (is:=[7]) rfl ⟨?_,trivial⟩
       refine RWat.h rfl rfl rfl ?_
       refine (ZG' (xs:=t.x.sp) (ys:=[Zi' x]) sl22 Jk' z45 (Z7' Jk' [Zi' x] rfl) (by have:=hs.lens t htm;have:=M.okBB hs.ok;simp only [List.length_singleton];omega) (fun a5 n5 c5=>?_))
       refine ⟨⟨⟨_,rfl,.inl ⟨rfl,Za'⟩⟩,trivial⟩,?_⟩
       refine RW.e 8 rfl Zk'<|RW.e 9 rfl (e_fa J2') ?_
       refine RW.any (is:=[10]) rfl ⟨?_,trivial⟩
       refine RWat.h' rfl rfl rfl ?_
       refine (Zj' s22 ?_)
       refine ⟨trivial,?_⟩
       refine RW.done<|PO.blockN<|PO.next<|WP.seq<|WP.reg<|WL.e (Zm' a40)<|WL.e Za' ?_
       refine WL.h' (Zj' s40 ?_)
       refine WL.e Zb'<|WL.next<|WP.ret<|PO.cls (A:=SiX_ { t with x:={ t.x with sp:=t.x.sp++[Zi' x] } }) (B:=[cl t.q 84 [.bool t.x.loc,.slice a5 n5 c5],Sl 45 2 SpanM.c (.slice a5 n5 c5) (t.x.sp++[Zi' x])]) (fun S h=>⟨⟨a5,n5,c5⟩,h⟩) ?_
       refine PO.cls (A:=TxsU TPS (setU v.l n { t.x with sp:=t.x.sp++[Zi' x] })) (B:=[SiX_ { t with x:={ t.x with sp:=t.x.sp++[Zi' x] } },TxsU TPS (A++B)]) (fun S h=>hset ▸ Yb' (TP:=TPS) (t:={ t with x:={ t.x with sp:=t.x.sp++[Zi' x] } }) S h) ?_
       rw [show List.map kvU v.l=List.map kvU (setU v.l n { t.x with sp:=t.x.sp++[Zi' x] }) from (ZaP_ _ _ _).symm]
       refine PO.cls (A:=Si E sp dp ({ v with st:=f sv,l:=setU v.l n { t.x with sp:=t.x.sp++[Zi' x] } })) (B:=[cl sp 81 [.iface E.T (.pointer (some ⟨p,0,none⟩)),.map (some lm),.map (some bm)],E.pc p dp (f sv),Mp eU32 (.map (some lm)) (List.map kvU (setU v.l n { t.x with sp:=t.x.sp++[Zi' x] })),TxsU TPS (setU v.l n { t.x with sp:=t.x.sp++[Zi' x] }),Mp eU32 (.map (some bm)) (List.map kvB (v.bs)),Bnds 45 (v.bs)]) (fun S h=>⟨(p,lm,bm),h⟩) ?_
       exact PO.fin Tryz.results12 (ZB' a40 (Zd' Zf')) (hK sv)
      ·intro a7 m7 c7
       refine ⟨trivial,?_⟩
       refine RW.e 7 rfl Za'<|RW.e 8 rfl Ze'<|RW.e 9 rfl Ze' ?_
       refine RW.any (is:=[10]) rfl ⟨?_,trivial⟩
       refine RWat.h rfl rfl rfl ?_
       refine (Zu' z40 fun b10=>?_)
       refine ⟨⟨⟨_,rfl,.inl ⟨rfl,Ze'⟩⟩,⟨_,rfl,.inl ⟨rfl,Ze'⟩⟩,⟨_,rfl,.inl ⟨rfl,Za'⟩⟩,trivial⟩,?_⟩
       refine RW.any (is:=[11]) rfl ⟨?_,trivial⟩
       refine RWat.h' rfl rfl rfl ?_
       refine (Zj' s40 ?_)
       refine ⟨⟨⟨_,rfl,.inl ⟨rfl,Ze'⟩⟩,trivial⟩,?_⟩
       refine RW.e 12 rfl Zb'<|RW.done<|PO.next<|WP.seq<|WP.seq<|WP.reg<|WL.e Za'<|WL.next<|WP.block<|WP.seq<|WP.reg<|WL.e ZM'<|WL.e Zb'<|WL.next<|WP.cond_t rfl<|WP.opn (Y5' (TP:=TPS) hts) fun _=>?_
       refine WP.opn (Qz' (t:=t)) fun y=>?_
       try dsimp only
       refine WP.draws Zq' 11<|RW.e 0 rfl Za'<|RW.e 1 rfl Za'<|RW.e 2 rfl Zk'<|RW.e 3 rfl (e_fa J2')<|RW.e 4 rfl (Zc' a22)<|RW.e 5 rfl (Zm' a45) ?_
       refine RW.any (is:=[6]) rfl ⟨?_,trivial⟩
       refine RWat.h rfl rfl rfl ?_
       refine (h_bs sl22 z45 (.a2 (.tmp 88) rfl<|.n) fun b11=>?_)
       refine ⟨⟨⟨_,rfl,.inl ⟨rfl,(Zc' a22)⟩⟩,⟨_,rfl,.inl ⟨rfl,(e_fa J2')⟩⟩,⟨_,rfl,.inl ⟨rfl,Zk'⟩⟩,⟨_,rfl,.inl ⟨rfl,Za'⟩⟩,⟨_,rfl,.inl ⟨rfl,Za'⟩⟩,trivial⟩,?_⟩
       refine RW.any (is:=[7]) rfl ⟨?_,trivial⟩
       refine RWat.h rfl rfl rfl ?_
       refine (ZG' (xs:=t.x.sp) (ys:=[Zi' x]) sl22 Jk' z45 (Z7' Jk' [Zi' x] rfl) (by have:=hs.lens t htm;have:=M.okBB hs.ok;simp only [List.length_singleton];omega) (fun a5 n5 c5=>?_))
       refine ⟨⟨⟨_,rfl,.inl ⟨rfl,Za'⟩⟩,trivial⟩,?_⟩
       refine RW.e 8 rfl Zk'<|RW.e 9 rfl (e_fa J2') ?_
       refine RW.any (is:=[10]) rfl ⟨?_,trivial⟩
       refine RWat.h' rfl rfl rfl ?_
       refine (Zj' s22 ?_)
       refine ⟨trivial,?_⟩
       refine RW.done<|PO.blockN<|PO.next<|WP.seq<|WP.reg<|WL.e (Zm' a40)<|WL.e Za' ?_
       refine WL.h' (Zj' s40 ?_)
       refine WL.e Zb'<|WL.next<|WP.ret<|PO.cls (A:=SiX_ { t with x:={ t.x with sp:=t.x.sp++[Zi' x] } }) (B:=[cl t.q 84 [.bool t.x.loc,.slice a5 n5 c5],Sl 45 2 SpanM.c (.slice a5 n5 c5) (t.x.sp++[Zi' x])]) (fun S h=>⟨⟨a5,n5,c5⟩,h⟩) ?_
       refine PO.cls (A:=TxsU TPS (setU v.l n { t.x with sp:=t.x.sp++[Zi' x] })) (B:=[SiX_ { t with x:={ t.x with sp:=t.x.sp++[Zi' x] } },TxsU TPS (A++B)]) (fun S h=>hset ▸ Yb' (TP:=TPS) (t:={ t with x:={ t.x with sp:=t.x.sp++[Zi' x] } }) S h) ?_
       rw [show List.map kvU v.l=List.map kvU (setU v.l n { t.x with sp:=t.x.sp++[Zi' x] }) from (ZaP_ _ _ _).symm]
       refine PO.cls (A:=Si E sp dp ({ v with st:=s2,l:=setU v.l n { t.x with sp:=t.x.sp++[Zi' x] } })) (B:=[cl sp 81 [.iface E.T (.pointer (some ⟨p,0,none⟩)),.map (some lm),.map (some bm)],E.pc p dp (s2),Mp eU32 (.map (some lm)) (List.map kvU (setU v.l n { t.x with sp:=t.x.sp++[Zi' x] })),TxsU TPS (setU v.l n { t.x with sp:=t.x.sp++[Zi' x] }),Mp eU32 (.map (some bm)) (List.map kvB (v.bs)),Bnds 45 (v.bs)]) (fun S h=>⟨(p,lm,bm),h⟩) ?_
       exact PO.fin Tryz.results12 (ZB' a40 (Zd' Zf')) (hK a7 m7 c7)
     ·skip
      refine RWat.h rfl rfl rfl ?_
      refine (Zu' z40 fun b12=>?_)
      refine ⟨⟨⟨_,rfl,.inl ⟨rfl,(Zm' a26)⟩⟩,⟨_,rfl,.inl ⟨rfl,Za'⟩⟩,⟨_,rfl,.inl ⟨rfl,(Zc' a77)⟩⟩,⟨_,rfl,.inl ⟨rfl,(e_fa KL')⟩⟩,⟨_,rfl,.inl ⟨rfl,Zk'⟩⟩,⟨_,rfl,.inl ⟨rfl,Za'⟩⟩,trivial⟩,?_⟩
      refine RW.any (is:=[6]) rfl ⟨?_,trivial⟩
      refine RWat.h rfl rfl rfl ?_
      have hd0:doSi v n x=(match M.doS v.st n x with | .err s e=>.err { v with st:=s,l:=if e=9 then delU v.l n else v.l } e | .put f=>.put fun sv=>{ v with st:=f sv,l:=setU v.l n { t.x with sp:=t.x.sp++[Zi' x] } } | .look s r=>.look { v with st:=s,l:=setU v.l n { t.x with sp:=t.x.sp++[Zi' x] } } r):=by unfold doSi;rw [hf];simp only [hk,if_true,h4];rfl
      refine (Yi' E.mD (E.sD n x hs.ok) E.cD ?_)
      rcases hdo:M.doS v.st n x with ⟨s2,e⟩ | f | ⟨s2,rws⟩ <;> rw [hdo] at hd0 <;> dsimp only at hd0 <;> rw [hd0] at hK <;> dsimp only at hK ⊢
      ·have he:=(M.okErr hs.ok hdo).2.1
       refine ⟨trivial,?_⟩
       refine RW.e 7 rfl Za'<|RW.e 8 rfl Ze'<|RW.e 9 rfl Ze' ?_
       refine RW.any (is:=[11]) rfl ⟨?_,trivial⟩
       refine RWat.h' rfl rfl rfl ?_
       refine (Zj' s40 ?_)
       refine ⟨⟨⟨_,rfl,.inl ⟨rfl,Ze'⟩⟩,trivial⟩,?_⟩
       refine RW.e 12 rfl Zb'<|RW.done<|PO.next<|WP.seq<|WP.seq<|WP.reg<|WL.e Za'<|WL.next<|WP.block<|WP.seq<|WP.reg<|WL.e ZM'<|WL.e Zb'<|WL.next ?_
       refine WP.cond rfl (fun h5=>?_) (fun h5=>?_)
       ·exact absurd (by simpa using h5) he
       ·skip
        refine WP.seq<|WP.reg<|WL.e ZM'<|WL.e Zb'<|WL.next ?_
        refine WP.cond rfl (fun h6=>?_) (fun h6=>?_)
        ·replace h6:e=9:=by simp at h6;omega
         rw [if_pos h6] at hK
         refine WP.reg<|WL.e Za'<|WL.e Zk'<|WL.e (e_fa Vj')<|WL.e (Zc' a78)<|WL.e Za' ?_
         refine WL.h' (Jg' (k:=n) (kvs:=List.map kvU v.l) Tryz.underlying78 (ZQ' Tryz.underlying24) ?_)
         rw [KP']
         refine WL.cls (A:=TxsU TPS (delU v.l n)) (B:=[TxsU TPS v.l]) (fun S h=>Q4' Z8' (J9' h)) ?_
         refine WL.nil<|PO.blockN<|PO.next<|WP.seq<|WP.reg<|WL.e (Zm' a40)<|WL.e Za' ?_
         refine WL.h' (Zj' s40 ?_)
         refine WL.e Zb'<|WL.next<|WP.ret<|PO.cls (A:=Si E sp dp ({ v with st:=s2,l:=delU v.l n })) (B:=[cl sp 81 [.iface E.T (.pointer (some ⟨p,0,none⟩)),.map (some lm),.map (some bm)],E.pc p dp (s2),Mp eU32 (.map (some lm)) (List.map kvU (delU v.l n)),TxsU TPS (delU v.l n),Mp eU32 (.map (some bm)) (List.map kvB (v.bs)),Bnds 45 (v.bs)]) (fun S h=>⟨(p,lm,bm),h⟩) ?_
         exact PO.fin Tryz.results12 (ZB' a40 (Zd' Zf')) hK
        ·replace h6:¬ e=9:=by simp at h6;omega
         rw [if_neg h6] at hK
         refine WP.skip<|PO.blockN<|PO.next<|WP.seq<|WP.reg<|WL.e (Zm' a40)<|WL.e Za' ?_
         refine WL.h' (Zj' s40 ?_)
         refine WL.e Zb'<|WL.next<|WP.ret<|PO.cls (A:=Si E sp dp ({ v with st:=s2 })) (B:=[cl sp 81 [.iface E.T (.pointer (some ⟨p,0,none⟩)),.map (some lm),.map (some bm)],E.pc p dp (s2),Mp eU32 (.map (some lm)) (List.map kvU (v.l)),TxsU TPS (v.l),Mp eU32 (.map (some bm)) (List.map kvB (v.bs)),Bnds 45 (v.bs)]) (fun S h=>⟨(p,lm,bm),h⟩) ?_
         exact PO.fin Tryz.results12 (ZB' a40 (Zd' Zf')) hK
      ·intro sv
       refine ⟨trivial,?_⟩
       refine RW.e 7 rfl Za'<|RW.e 8 rfl Ze'<|RW.e 9 rfl Ze' ?_
       refine RW.any (is:=[11]) rfl ⟨?_,trivial⟩
       refine RWat.h' rfl rfl rfl ?_
       refine (Zj' s40 ?_)
       refine ⟨⟨⟨_,rfl,.inl ⟨rfl,Ze'⟩⟩,trivial⟩,?_⟩
       refine RW.e 12 rfl Zb'<|RW.done<|PO.next<|WP.seq<|WP.seq<|WP.reg<|WL.e Za'<|WL.next<|WP.block<|WP.seq<|WP.reg<|WL.e ZM'<|WL.e Zb'<|WL.next<|WP.cond_t rfl<|WP.opn (Y5' (TP:=TPS) hts) fun _=>?_
       refine WP.opn (Qz' (t:=t)) fun y=>?_
       try dsimp only
       refine WP.draws Zq' 11<|RW.e 0 rfl Za'<|RW.e 1 rfl Za'<|RW.e 2 rfl Zk'<|RW.e 3 rfl (e_fa J2')<|RW.e 4 rfl (Zc' a22)<|RW.e 5 rfl (Zm' a45) ?_
       refine RW.any (is:=[6]) rfl ⟨?_,trivial⟩
       refine RWat.h rfl rfl rfl ?_
       refine (h_bs sl22 z45 (.a2 (.tmp 88) rfl<|.n) fun b13=>?_)
       refine ⟨⟨⟨_,rfl,.inl ⟨rfl,(Zc' a22)⟩⟩,⟨_,rfl,.inl ⟨rfl,(e_fa J2')⟩⟩,⟨_,rfl,.inl ⟨rfl,Zk'⟩⟩,⟨_,rfl,.inl ⟨rfl,Za'⟩⟩,⟨_,rfl,.inl ⟨rfl,Za'⟩⟩,trivial⟩,?_⟩
       refine RW.any (is:=[7]) rfl ⟨?_,trivial⟩
       refine RWat.h rfl rfl rfl ?_
       refine (ZG' (xs:=t.x.sp) (ys:=[Zi' x]) sl22 Jk' z45 (Z7' Jk' [Zi' x] rfl) (by have:=hs.lens t htm;have:=M.okBB hs.ok;simp only [List.length_singleton];omega) (fun a5 n5 c5=>?_))
       refine ⟨⟨⟨_,rfl,.inl ⟨rfl,Za'⟩⟩,trivial⟩,?_⟩
       refine RW.e 8 rfl Zk'<|RW.e 9 rfl (e_fa J2') ?_
       refine RW.any (is:=[10]) rfl ⟨?_,trivial⟩
       refine RWat.h' rfl rfl rfl ?_
       refine (Zj' s22 ?_)
       refine ⟨trivial,?_⟩
       refine RW.done<|PO.blockN<|PO.next<|WP.seq<|WP.reg<|WL.e (Zm' a40)<|WL.e Za' ?_
       refine WL.h' (Zj' s40 ?_)
       refine WL.e Zb'<|WL.next<|WP.ret<|PO.cls (A:=SiX_ { t with x:={ t.x with sp:=t.x.sp++[Zi' x] } }) (B:=[cl t.q 84 [.bool t.x.loc,.slice a5 n5 c5],Sl 45 2 SpanM.c (.slice a5 n5 c5) (t.x.sp++[Zi' x])]) (fun S h=>⟨⟨a5,n5,c5⟩,h⟩) ?_
       refine PO.cls (A:=TxsU TPS (setU v.l n { t.x with sp:=t.x.sp++[Zi' x] })) (B:=[SiX_ { t with x:={ t.x with sp:=t.x.sp++[Zi' x] } },TxsU TPS (A++B)]) (fun S h=>hset ▸ Yb' (TP:=TPS) (t:={ t with x:={ t.x with sp:=t.x.sp++[Zi' x] } }) S h) ?_
       rw [show List.map kvU v.l=List.map kvU (setU v.l n { t.x with sp:=t.x.sp++[Zi' x] }) from (ZaP_ _ _ _).symm]
       refine PO.cls (A:=Si E sp dp ({ v with st:=f sv,l:=setU v.l n { t.x with sp:=t.x.sp++[Zi' x] } })) (B:=[cl sp 81 [.iface E.T (.pointer (some ⟨p,0,none⟩)),.map (some lm),.map (some bm)],E.pc p dp (f sv),Mp eU32 (.map (some lm)) (List.map kvU (setU v.l n { t.x with sp:=t.x.sp++[Zi' x] })),TxsU TPS (setU v.l n { t.x with sp:=t.x.sp++[Zi' x] }),Mp eU32 (.map (some bm)) (List.map kvB (v.bs)),Bnds 45 (v.bs)]) (fun S h=>⟨(p,lm,bm),h⟩) ?_
       exact PO.fin Tryz.results12 (ZB' a40 (Zd' Zf')) (hK sv)
      ·intro a7 m7 c7
       refine ⟨trivial,?_⟩
       refine RW.e 7 rfl Za'<|RW.e 8 rfl Ze'<|RW.e 9 rfl Ze' ?_
       refine RW.any (is:=[11]) rfl ⟨?_,trivial⟩
       refine RWat.h' rfl rfl rfl ?_
       refine (Zj' s40 ?_)
       refine ⟨⟨⟨_,rfl,.inl ⟨rfl,Ze'⟩⟩,trivial⟩,?_⟩
       refine RW.e 12 rfl Zb'<|RW.done<|PO.next<|WP.seq<|WP.seq<|WP.reg<|WL.e Za'<|WL.next<|WP.block<|WP.seq<|WP.reg<|WL.e ZM'<|WL.e Zb'<|WL.next<|WP.cond_t rfl<|WP.opn (Y5' (TP:=TPS) hts) fun _=>?_
       refine WP.opn (Qz' (t:=t)) fun y=>?_
       try dsimp only
       refine WP.draws Zq' 11<|RW.e 0 rfl Za'<|RW.e 1 rfl Za'<|RW.e 2 rfl Zk'<|RW.e 3 rfl (e_fa J2')<|RW.e 4 rfl (Zc' a22)<|RW.e 5 rfl (Zm' a45) ?_
       refine RW.any (is:=[6]) rfl ⟨?_,trivial⟩
       refine RWat.h rfl rfl rfl ?_
       refine (h_bs sl22 z45 (.a2 (.tmp 88) rfl<|.n) fun b14=>?_)
       refine ⟨⟨⟨_,rfl,.inl ⟨rfl,(Zc' a22)⟩⟩,⟨_,rfl,.inl ⟨rfl,(e_fa J2')⟩⟩,⟨_,rfl,.inl ⟨rfl,Zk'⟩⟩,⟨_,rfl,.inl ⟨rfl,Za'⟩⟩,⟨_,rfl,.inl ⟨rfl,Za'⟩⟩,trivial⟩,?_⟩
       refine RW.any (is:=[7]) rfl ⟨?_,trivial⟩
       refine RWat.h rfl rfl rfl ?_
       refine (ZG' (xs:=t.x.sp) (ys:=[Zi' x]) sl22 Jk' z45 (Z7' Jk' [Zi' x] rfl) (by have:=hs.lens t htm;have:=M.okBB hs.ok;simp only [List.length_singleton];omega) (fun a5 n5 c5=>?_))
       refine ⟨⟨⟨_,rfl,.inl ⟨rfl,Za'⟩⟩,trivial⟩,?_⟩
       refine RW.e 8 rfl Zk'<|RW.e 9 rfl (e_fa J2') ?_
       refine RW.any (is:=[10]) rfl ⟨?_,trivial⟩
       refine RWat.h' rfl rfl rfl ?_
       refine (Zj' s22 ?_)
       refine ⟨trivial,?_⟩
       refine RW.done<|PO.blockN<|PO.next<|WP.seq<|WP.reg<|WL.e (Zm' a40)<|WL.e Za' ?_
       refine WL.h' (Zj' s40 ?_)
       refine WL.e Zb'<|WL.next<|WP.ret<|PO.cls (A:=SiX_ { t with x:={ t.x with sp:=t.x.sp++[Zi' x] } }) (B:=[cl t.q 84 [.bool t.x.loc,.slice a5 n5 c5],Sl 45 2 SpanM.c (.slice a5 n5 c5) (t.x.sp++[Zi' x])]) (fun S h=>⟨⟨a5,n5,c5⟩,h⟩) ?_
       refine PO.cls (A:=TxsU TPS (setU v.l n { t.x with sp:=t.x.sp++[Zi' x] })) (B:=[SiX_ { t with x:={ t.x with sp:=t.x.sp++[Zi' x] } },TxsU TPS (A++B)]) (fun S h=>hset ▸ Yb' (TP:=TPS) (t:={ t with x:={ t.x with sp:=t.x.sp++[Zi' x] } }) S h) ?_
       rw [show List.map kvU v.l=List.map kvU (setU v.l n { t.x with sp:=t.x.sp++[Zi' x] }) from (ZaP_ _ _ _).symm]
       refine PO.cls (A:=Si E sp dp ({ v with st:=s2,l:=setU v.l n { t.x with sp:=t.x.sp++[Zi' x] } })) (B:=[cl sp 81 [.iface E.T (.pointer (some ⟨p,0,none⟩)),.map (some lm),.map (some bm)],E.pc p dp (s2),Mp eU32 (.map (some lm)) (List.map kvU (setU v.l n { t.x with sp:=t.x.sp++[Zi' x] })),TxsU TPS (setU v.l n { t.x with sp:=t.x.sp++[Zi' x] }),Mp eU32 (.map (some bm)) (List.map kvB (v.bs)),Bnds 45 (v.bs)]) (fun S h=>⟨(p,lm,bm),h⟩) ?_
       exact PO.fin Tryz.results12 (ZB' a40 (Zd' Zf')) (hK a7 m7 c7)
end Go.SL
namespace Go.SL.Fc
end Go.SL.Fc
namespace Go.SL
open Go Go.Proofs Fc
end Go.SL
