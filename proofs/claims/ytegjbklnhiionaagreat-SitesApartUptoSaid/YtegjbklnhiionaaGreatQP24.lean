import Derived.Test.YtegjbklnhiionaaGreatQP23
import Derived.Deep.Slices
import Derived.ChangeSame
import Derived.SizedLaws
set_option linter.unusedSimpArgs false
set_option linter.unusedVariables false
set_option linter.unusedSectionVars false
namespace Go.SL
open Go
structure ActS where
 kind:UInt8
 tx:UInt32
 g:UInt32
 loc:Bool
 op:OpM
 sv:SV
def ActS.c (x:ActS):List Value:=[.int .u8 x.kind.toNat,.int .u32 x.tx.toNat,.int .u32 x.g.toNat,.bool x.loc,.int .u8 x.op.kind.toNat,.string x.op.key,.string x.op.to,.int .u32 x.op.val.toNat,x.sv.v]
theorem ZiN_:EncOk 9 ActS.c:=⟨fun _=>rfl,fun _=>rfl⟩
def resB (k:ByteArray):Bool:=Yz' k && (match k[0]? with | some c=>c == 95 | none=>false)
theorem ZdO_ {k:ByteArray} (h:Yz' k=true):∃ c r,k[0]?=some c∧k.toList=c::r:=by
 have h0:k.size≠0:=by
  intro e
  have:k=⟨#[]⟩:=by
   obtain ⟨⟨l⟩⟩:=k
   have:l=[]:=List.length_eq_zero_iff.1 (by simpa [ByteArray.size] using e)
   rw [this]
  subst this
  simp [Yz',sEq] at h
 obtain ⟨⟨l⟩⟩:=k
 match l,h0 with
 | [],h0=>exact absurd rfl h0
 | c::r,_=>exact ⟨c,r,rfl,by rw [ByteArray.toList_eq]⟩
theorem ZiO_ {x:OpM} (hx:opOk x=true) (hm:meet (Zi' x) resS=true):(resB x.key || x.kind == 4)=true:=by
 by_cases h4:x.kind=4
 ·rw [h4];simp
 ·have hk:Yz' x.key=true:=by
   unfold opOk at hx
   simp only [Bool.and_eq_true] at hx
   exact hx.1.1.2
  obtain ⟨c,r,h0,hl⟩:=ZdO_ hk
  have hs:Zi' x=⟨x.key,x.key⟩:=by unfold Zi';rw [if_neg h4]
  rw [hs] at hm
  unfold meet at hm
  simp only [Bool.and_eq_true] at hm
  obtain ⟨h1,h2⟩:=hm
  rw [XG'] at h1
  have e:sMax x.key resS.a=x.key:=by
   rcases Km' (sMax x.key resS.a) x.key with h | h | h
   ·rw [h] at h1;cases h1.1
   ·exact h
   ·rw [h] at h1;cases h1.2
  rw [e] at h2
  have:=ZkA_ (k:=x.key) h2 hl
  subst this
  unfold resB
  rw [hk,h0];rfl
section
variable {M : EngM} {v : SiteV M.St} {b : Nat}
theorem SiOk.mono {c:Nat} (h:SiOk v b) (hbc:b≤c) (hc:c≤1000000000):SiOk v c:=
 ⟨M.okMono h.ok hbc hc,h.ids,fun t ht=>Nat.le_trans (h.lens t ht) hbc,Nat.le_trans h.ll hbc,Nat.le_trans h.bl hbc,h.bsp⟩
theorem SiOk.st_ {s:M.St} (h:SiOk v b) (hs:M.Ok s b):SiOk { v with st:=s } b:=⟨hs,h.ids,h.lens,h.ll,h.bl,h.bsp⟩
theorem SiOk.del {s:M.St} (h:SiOk v b) (hs:M.Ok s b) (n:UInt32):SiOk { v with st:=s,l:=delU v.l n } b:=
 ⟨hs,h.ids.sublist (Z8'.map _),fun t ht=>h.lens t (Z8'.mem ht),Nat.le_trans Z8'.length_le h.ll,h.bl,h.bsp⟩
theorem SiOk.set {s:M.St} {t:TxU UInt32 SiX} {n:UInt32} {p:SpanM} (h:SiOk v b) (hs:M.Ok s (b+1)) (ht:t ∈ v.l):SiOk { v with st:=s,l:=setU v.l n { t.x with sp:=t.x.sp++[p] } } (b+1):=by
 refine ⟨hs,by rw [Qs'];exact h.ids,fun u hu=>?_,?_,Nat.le_succ_of_le h.bl,h.bsp⟩
 ·rcases Xg' hu with ⟨w,_,_,rfl⟩ | ⟨hw,_⟩
  ·have:=h.lens t ht
   show (t.x.sp++[p]).length≤b+1
   simp;omega
  ·exact Nat.le_succ_of_le (h.lens u hw)
 ·have e:(setU v.l n { t.x with sp:=t.x.sp++[p] }).length=v.l.length:=by
   have:=congrArg List.length (Qs' v.l n { t.x with sp:=t.x.sp++[p] })
   simpa using this
  show (setU v.l n _).length≤b+1
  rw [e];exact Nat.le_succ_of_le h.ll
end
structure ApC {M:EngM} (Z:SimM M) (i:Nat) (v:SiteV M.St) (t:M.St):Prop where
 ok:SiOk v i
 okt:M.Ok t i
 sim:Z.S v.st t
 bs:v.bs=[]
 loc:∀ u ∈ v.l,u.x.loc=true
section
variable {M : EngM} {Z : SimM M} {i : Nat} {v : SiteV M.St} {t : M.St}
theorem ApC.first:ApC Z 0 ⟨M.first,[],[]⟩ M.first:=
 ⟨⟨M.okFirst,by simp,by simp,Nat.le_refl _,Nat.le_refl _,by simp⟩,M.okFirst,Z.first,rfl,by simp⟩
theorem ApC.mono {j:Nat} (h:ApC Z i v t) (hij:i≤j) (hj:j≤1000000000):ApC Z j v t:=
 ⟨h.ok.mono hij hj,M.okMono h.okt hij hj,h.sim,h.bs,h.loc⟩
theorem ApC.rows (h:ApC Z i v t):M.rows v.st=M.rows t∧(M.rows v.st).length≤i:=⟨Z.rows h.sim,M.rowsLe h.ok.ok⟩
theorem ApC.beg (h:ApC Z i v t) (hi:i+1≤1000000000) (n:UInt32):M.begE v.st n=M.begE t n∧∀ q q' r,ApC Z (i+1) (Qi' v n true q r) (M.begS t n q'):=by
 obtain ⟨e,hS⟩:=Z.beg h.sim n
 refine ⟨e,fun q q' r=>⟨?_,M.okMono (M.okBeg h.okt n q') (Nat.le_succ i) hi,hS q q',h.bs,?_⟩⟩
 ·have h1:=M.okMono (M.okBeg h.ok.ok n q) (Nat.le_succ i) hi
  unfold Qi'
  by_cases h0:M.begE v.st n=0
  ·rw [if_pos h0]
   refine ⟨h1,Zmd_ h.ok.ids _,fun u hu=>?_,Nat.le_trans (Zmc_ _ _) (Nat.succ_le_succ h.ok.ll),Nat.le_succ_of_le h.ok.bl,h.ok.bsp⟩
   rcases Zfz_ hu with rfl | hu
   ·exact Nat.zero_le _
   ·exact Nat.le_succ_of_le (h.ok.lens u hu)
  ·rw [if_neg h0]
   exact (h.ok.mono (Nat.le_succ i) hi).st_ h1
 ·intro u hu
  unfold Qi' at hu
  by_cases h0:M.begE v.st n=0
  ·rw [if_pos h0] at hu
   rcases Zfz_ hu with rfl | hu
   ·rfl
   ·exact h.loc u hu
  ·rw [if_neg h0] at hu;exact h.loc u hu
theorem ApC.com (h:ApC Z i v t) (hi:i+1≤1000000000) (n:UInt32):M.comE v.st n=M.comE t n∧M.comN v.st n=M.comN t n∧ApC Z (i+1) (Za1_ v n) (M.comS t n):=by
 obtain ⟨e,e2,hS⟩:=Z.com h.sim n
 exact ⟨e,e2,(h.ok.mono (Nat.le_succ i) hi).del (M.okCom h.ok.ok hi n) n,M.okCom h.okt hi n,hS,h.bs,fun u hu=>h.loc u (Z8'.mem hu)⟩
theorem ApC.abo (h:ApC Z i v t) (hi:i+1≤1000000000) (n:UInt32):M.aboE v.st n=M.aboE t n∧ApC Z (i+1) (UV' v n) (M.aboS t n):=by
 obtain ⟨e,hS⟩:=Z.abo h.sim n
 exact ⟨e,(h.ok.mono (Nat.le_succ i) hi).del (M.okMono (M.okAbo h.ok.ok n) (Nat.le_succ i) hi) n,M.okMono (M.okAbo h.okt n) (Nat.le_succ i) hi,hS,h.bs,fun u hu=>h.loc u (Z8'.mem hu)⟩
def ApD {M:EngM} (Z:SimM M) (i:Nat) (v:SiteV M.St) (t:M.St) (n:UInt32) (x:OpM):Prop:=
 (doSi v n x=.err v 10∧(resB x.key || x.kind == 4)=true) ∨
 (∃ (v2:SiteV M.St) (t2:M.St) (e:Nat),doSi v n x=.err v2 e∧M.doS t n x=.err t2 e∧e≠10∧ApC Z (i+1) v2 t2) ∨
 (∃ (f:SV→SiteV M.St) (f2:SV→M.St),doSi v n x=.put f∧M.doS t n x=.put f2∧∀ a a2,ApC Z (i+1) (f a) (f2 a2)) ∨
 (∃ (v2:SiteV M.St) (t2:M.St) (rw:List RowM),doSi v n x=.look v2 rw∧M.doS t n x=.look t2 rw∧rw.length≤256∧ApC Z (i+1) v2 t2)
theorem ApC.lift (h:ApC Z i v t) (hi:i+1≤1000000000) {n:UInt32} {x:OpM} (hd:doSi v n x=(M.doS v.st n x).lift v):ApD Z i v t n x:=by
 have hs:=Z.do_ h.sim n x
 have h1:=h.ok.mono (Nat.le_succ i) hi
 have h2:=M.okMono h.okt (Nat.le_succ i) hi
 unfold ApD
 rw [hd]
 cases e1:M.doS v.st n x with
 | err s e=>
  cases e2:M.doS t n x with
  | err s' e'=>
   rw [e1,e2] at hs
   obtain ⟨rfl,hS⟩:=hs
   obtain ⟨o1,_,o3⟩:=M.okErr h1.ok e1
   exact .inr (.inl ⟨_,_,_,rfl,rfl,o3,h1.st_ o1,(M.okErr h2 e2).1,hS,h.bs,h.loc⟩)
  | put f=>rw [e1,e2] at hs;exact hs.elim
  | look s' r=>rw [e1,e2] at hs;exact hs.elim
 | put f=>
  cases e2:M.doS t n x with
  | err s' e'=>rw [e1,e2] at hs;exact hs.elim
  | put f'=>
   rw [e1,e2] at hs
   exact .inr (.inr (.inl ⟨_,_,rfl,rfl,fun a a2=>⟨h1.st_ ((M.okPut h.ok.ok hi e1).1 a),(M.okPut h.okt hi e2).1 a2,hs a a2,h.bs,h.loc⟩⟩))
  | look s' r=>rw [e1,e2] at hs;exact hs.elim
 | look s r=>
  cases e2:M.doS t n x with
  | err s' e'=>rw [e1,e2] at hs;exact hs.elim
  | put f=>rw [e1,e2] at hs;exact hs.elim
  | look s' r'=>
   rw [e1,e2] at hs
   obtain ⟨rfl,hS⟩:=hs
   obtain ⟨o1,o2,_⟩:=M.okLook h.ok.ok hi e1
   exact .inr (.inr (.inr ⟨_,_,_,rfl,rfl,o2,h1.st_ o1,(M.okLook h.okt hi e2).1,hS,h.bs,h.loc⟩))
theorem ApC.do_ (h:ApC Z i v t) (hi:i+1≤1000000000) (n:UInt32) (x:OpM):ApD Z i v t n x:=by
 cases hf:Zs' v.l n with
 | none=>exact h.lift hi (by unfold doSi;rw [hf])
 | some u=>
  cases hk:KG' x with
  | false=>exact h.lift hi (by unfold doSi;rw [hf];simp [hk])
  | true=>
   have hu:=ZI' hf
   have hl:=h.loc u hu
   have hm:mayS v.bs n u.x.loc (Zi' x)=if meet (Zi' x) resS then 10 else 0:=by
    rw [h.bs,hl];cases hr:meet (Zi' x) resS <;> simp [mayS,XJ',hr]
   cases hr:meet (Zi' x) resS with
   | true=>
    rw [hr,if_pos rfl] at hm
    cases hx:opOk x with
    | true=>exact .inl ⟨by unfold doSi;rw [hf];simp only [hk,if_true,hm,hx];rfl,ZiO_ hx hr⟩
    | false=>exact .inr (.inl ⟨v,t,1,Qy' hx,M.doBad hx,by decide,h.mono (Nat.le_succ i) hi⟩)
   | false=>
    rw [hr] at hm
    simp only [Bool.false_eq_true,if_false] at hm
    have hs:=Z.do_ h.sim n x
    have h1:=h.ok.mono (Nat.le_succ i) hi
    have h2:=M.okMono h.okt (Nat.le_succ i) hi
    have hloc:∀ w ∈ setU v.l n { u.x with sp:=u.x.sp++[Zi' x] },w.x.loc=true:=fun w hw=>by
     rcases Xg' hw with ⟨y,_,_,rfl⟩ | ⟨hw,_⟩
     ·exact hl
     ·exact h.loc w hw
    unfold ApD doSi
    rw [hf]
    simp only [hk,if_true,hm]
    cases e1:M.doS v.st n x with
    | err s e=>
     cases e2:M.doS t n x with
     | err s' e'=>
      rw [e1,e2] at hs
      obtain ⟨rfl,hS⟩:=hs
      obtain ⟨o1,_,o3⟩:=M.okErr h1.ok e1
      refine .inr (.inl ⟨_,_,_,rfl,rfl,o3,?_,(M.okErr h2 e2).1,hS,h.bs,?_⟩)
      ·by_cases h9:e=9
       ·rw [if_pos h9];exact h1.del o1 n
       ·rw [if_neg h9];exact h1.st_ o1
      ·by_cases h9:e=9
       ·rw [if_pos h9];exact fun w hw=>h.loc w (Z8'.mem hw)
       ·rw [if_neg h9];exact h.loc
     | put f=>rw [e1,e2] at hs;exact hs.elim
     | look s' r=>rw [e1,e2] at hs;exact hs.elim
    | put f=>
     cases e2:M.doS t n x with
     | err s' e'=>rw [e1,e2] at hs;exact hs.elim
     | put f'=>
      rw [e1,e2] at hs
      exact .inr (.inr (.inl ⟨_,_,rfl,rfl,fun a a2=>⟨h.ok.set ((M.okPut h.ok.ok hi e1).1 a) hu,(M.okPut h.okt hi e2).1 a2,hs a a2,h.bs,hloc⟩⟩))
     | look s' r=>rw [e1,e2] at hs;exact hs.elim
    | look s r=>
     cases e2:M.doS t n x with
     | err s' e'=>rw [e1,e2] at hs;exact hs.elim
     | put f=>rw [e1,e2] at hs;exact hs.elim
     | look s' r'=>
      rw [e1,e2] at hs
      obtain ⟨rfl,hS⟩:=hs
      obtain ⟨o1,o2,_⟩:=M.okLook h.ok.ok hi e1
      exact .inr (.inr (.inr ⟨_,_,_,rfl,rfl,o2,h.ok.set o1 hu,(M.okLook h.okt hi e2).1,hS,h.bs,hloc⟩))
end
end Go.SL
namespace Go.SL.Fc
open Go Go.Proofs Go.SL
theorem a68:ZK' Tryz.prog 68=some (some 9):=by kernel_rfl
theorem ZoS_:ZO' Tryz.prog 68 0=some 0:=by kernel_rfl
theorem JM':ZO' Tryz.prog 68 1=some 1:=by kernel_rfl
theorem JN':ZO' Tryz.prog 68 4=some 4:=by kernel_rfl
theorem ZoT_:ZO' Tryz.prog 68 5=some 8:=by kernel_rfl
theorem k18:Zh' Tryz.prog 18=true:=by kernel_rfl
theorem k19:Zh' Tryz.prog 19=true:=by kernel_rfl
theorem k21:Zh' Tryz.prog 21=true:=by kernel_rfl
theorem k22:Zh' Tryz.prog 22=true:=by kernel_rfl
theorem k23:Zh' Tryz.prog 23=true:=by kernel_rfl
theorem k24:Zh' Tryz.prog 24=true:=by kernel_rfl
theorem k8:Zh' Tryz.prog 8=true:=by kernel_rfl
theorem s68:szOf Tryz.prog 68=some 9:=by kernel_rfl
theorem sl62:slOf Tryz.prog 62=some (68,9,88):=by kernel_rfl
theorem z68:ZH' Tryz.prog 68=some [.int .u8 0,.int .u32 0,.int .u32 0,.bool false,.int .u8 0,.string .empty,.string .empty,.int .u32 0,.slice none 0 0]:=by kernel_rfl
end Go.SL.Fc
namespace Go.SL
open Go Go.Proofs Fc
theorem ZfM_ {g:World} {A:HP} {u:Value} {xs:List ActS} (hA:RL A 9 ActS.c u xs) (hn:xs.length≤1048576):Spec Tryz.prog g 22 [u] [A] fun K R=>∀ b,K (.bool b) (A::R):=by
 refine Spec.intro Tryz.func22 rfl Tryz.ntmps22 rfl fun R K hK=>?_
 refine WP.seq<|WP.reg<|WL.e Zb'<|WL.next<|WP.seq<|WP.reg<|WL.e Zb'<|WL.next<|WP.seq<|WP.seq<|WP.reg<|WL.e Zb'<|WL.next<|WP.block<|WP.loopK (fun (x:Nat × Int)=>[(3,.int .i64 x.2),(4,.int .i64 x.1)]) (fun (x:Nat × Int)=>A::R) [(0,_),(2,_)] (fun (x:Nat × Int)=>x.1≤xs.length) (fun (x:Nat × Int)=>xs.length - x.1) (0,0) (Nat.zero_le _) ?_
 rintro ⟨i,n⟩ hi
 simp only at hi
 dsimp only
 refine WP.seq<|WP.seq<|WP.reg<|WL.e Za'<|WL.e Za'<|WL.e (ZD' (xs:=xs) sl62 hA)<|WL.e Z3'<|WL.next ?_
 refine WP.cond rfl (fun h1=>?_) (fun h1=>?_)
 ·have hlt:i < xs.length:=by rw [decide_eq_true_eq] at h1;omega
  obtain ⟨x,hx⟩:∃ x,xs[i]?=some x:=⟨_,List.getElem?_eq_getElem hlt⟩
  refine WP.skip<|PO.next<|WP.seq<|WP.block<|WP.reg<|WL.e Za'<|WL.e (ZE' rfl rfl rfl)<|WL.e Za'<|WL.e Za'<|WL.e (ZZ' (j:=i) (xs:=xs) sl62 hA hlt)<|WL.e (Q9' (z:=9) (j:=i) (xs:=xs) ZoT_ hA hlt)<|WL.e (Zgv_ (j:=i) (f:=8) (a:=x) a22 ZiN_ hA hx)<|WL.e (Zbo_ (a:=x.sv.a) (n:=x.sv.n) (c:=x.sv.c) sl22)<|WL.e (ZE' rfl rfl rfl)<|WL.e Zb'<|WL.nil<|PO.blockN<|PO.next<|WP.reg<|WL.e Za'<|WL.e (ZE' (c:=((i+1:Nat):Int)) rfl rfl (by rw [Zt' (by omega) (by omega)];omega))<|WL.e Zb'<|WL.nil ?_
  exact PO.againK (i+1,_) (by simp only;omega) (by simp only;omega)
 ·skip
  refine WP.exit<|PO.past nofun<|PO.round nofun<|PO.blockX<|PO.next<|WP.seq<|WP.reg<|WL.e Za'<|WL.e YY'<|WL.e Zb'<|WL.next<|WP.ret ?_
  exact PO.fin Tryz.results22 (Zd' Zf') (hK _)
theorem KN' {g:World} (k:ByteArray):Spec Tryz.prog g 24 [.string k] [] fun K R=>K (.bool (resB k)) R:=by
 refine Spec.intro Tryz.func24 rfl Tryz.ntmps24 rfl fun R K hK=>?_
 refine WP.seq<|WP.reg<|WL.e Zb'<|WL.next<|WP.seq<|WP.reg<|WL.e Za' ?_
 refine WL.h (Zg' (X9' _) k45 ?_)
 refine WL.e Za' ?_
 refine WL.bool 5 rfl (fun g1=>?_) (fun g1=>?_)
 ·obtain ⟨c,r,hc,_⟩:=ZdO_ g1
  refine WL.e Za'<|WL.e (ZeY_ (n:=0) (b:=c) Tryz.underlying9 (hb:=hc))<|WL.e (Xq' (b:=95))<|WL.e Zn'<|WL.e Zb'<|WL.next<|WP.ret ?_
  exact PO.finE Tryz.results24 (Zd' Zf') (by simp [resB,g1,hc]) hK
 ·skip
  refine WL.skip<|WL.skip<|WL.skip<|WL.e Zl'<|WL.e Zb'<|WL.next<|WP.ret ?_
  exact PO.finE Tryz.results24 (Zd' Zf') (by simp [resB,g1]) hK
set_option maxHeartbeats 4000000 in
theorem ZiP_ {g:World} {A:HP} {u:Value} {xs:List ActS} (en:UInt8) (hA:RL A 9 ActS.c u xs) (hn:xs.length≤1048576):Spec Tryz.prog g 6 [.int .u8 en.toNat,u] [A] fun K R=>K (.bool true) (A::R):=by
 refine Spec.intro Tryz.func6 rfl Tryz.ntmps6 rfl fun R K hK=>?_
 refine WP.seq<|WP.reg<|WL.e Zb'<|WL.next<|WP.seq<|WP.seq<|WP.reg<|WL.e Za' ?_
 refine WL.h (Zg' (ZfM_ hA hn) k22 ?_)
 intro gb
 refine WL.next ?_
 refine WP.cond rfl (fun h0=>?_) (fun h0=>?_)
 ·skip
  refine WP.seq<|WP.reg ?_
  refine WL.h (Zg' (ZcK_) k8 ?_)
  refine WL.e Zb'<|WL.next<|WP.ret<|PO.past nofun ?_
  exact PO.finE Tryz.results6 (Zd' Zf') rfl hK
 ·skip
  refine WP.skip<|PO.next<|WP.seq<|WP.reg<|WL.e Za'<|WL.e (Zmj_ (c:=((en.toNat % 3:Nat):Int)) rfl rfl (by decide) (by rw [Int.tmod_eq_emod_of_nonneg (by omega)];omega))<|WL.e (ZE' (c:=((1+en.toNat % 3:Nat):Int)) rfl rfl (by rw [w_u8 (by omega) (by omega)];omega))<|WL.e Zb'<|WL.next<|WP.seq<|WP.reg<|WL.e Za' ?_
  refine WL.h (Zg' (Zgs_ (1+en.toNat % 3) (by omega)) k7 ?_)
  intro sp dp M E hE
  refine WL.e Zb'<|WL.next<|WP.seq<|WP.reg<|WL.e Za' ?_
  refine WL.h (Zg' (Zgt_ (1+en.toNat % 3) (by omega)) k23 ?_)
  intro p dq M' E' hE'
  cases hE'.trans hE.symm
  obtain ⟨Z⟩:Nonempty (SimM M):=⟨by have z:=ZoL_ g (1+en.toNat % 3);rw [← hE] at z;exact z⟩
  refine WL.e Zb'<|WL.next<|WP.seq<|WP.seq<|WP.reg<|WL.e Za'<|WL.e (JW' pt29)<|WL.next ?_
  refine WP.cond rfl (fun n1=>?_) (fun n1=>?_)
  ·cases n1
  ·skip
   refine WP.skip<|PO.next<|WP.seq<|WP.seq<|WP.reg<|WL.e Zb'<|WL.next<|WP.block<|WP.loopK (fun (x:Nat × SiteV M.St × M.St)=>[(8,.int .i64 x.1)]) (fun (x:Nat × SiteV M.St × M.St)=>Si E sp dp (x.2.1)::E.pc p dq (x.2.2)::A::R) [(1,_),(6,_),(7,_)] (fun (x:Nat × SiteV M.St × M.St)=>x.1≤xs.length∧ApC Z x.1 x.2.1 x.2.2) (fun (x:Nat × SiteV M.St × M.St)=>xs.length - x.1) (0,⟨M.first,[],[]⟩,M.first) (⟨Nat.zero_le _,ApC.first⟩) ?_
   rintro ⟨i,v,t⟩ ⟨hi,hI⟩
   simp only at hi hI
   dsimp only
   refine WP.seq<|WP.seq<|WP.reg<|WL.e Za'<|WL.e Za'<|WL.e (ZD' (xs:=xs) sl62 hA)<|WL.e Z3'<|WL.next ?_
   refine WP.cond rfl (fun h1=>?_) (fun h1=>?_)
   ·have hlt:i < xs.length:=by rw [decide_eq_true_eq] at h1;omega
    obtain ⟨x,hx⟩:∃ x,xs[i]?=some x:=⟨_,List.getElem?_eq_getElem hlt⟩
    refine WP.skip<|PO.next<|WP.seq<|WP.block<|WP.seq<|WP.reg<|WL.e Za'<|WL.e Za'<|WL.e (ZZ' (j:=i) (xs:=xs) sl62 hA hlt)<|WL.e (YA' (a:=x) a68 ZiN_ hA hx) ?_
    refine WL.h (Zu' z68 fun b1=>?_)
    refine WL.h' (Zj' s68 ?_)
    refine WL.next<|WP.seq<|WP.seq<|WP.reg<|WL.e (e_fa ZoS_)<|WL.e (Zc' a5)<|WL.e (Zmj_ (c:=((x.kind.toNat % 12:Nat):Int)) rfl rfl (by decide) (by rw [Int.tmod_eq_emod_of_nonneg (by omega)];omega))<|WL.next<|WP.block<|WP.seq<|WP.reg<|WL.e ZM'<|WL.e Zb'<|WL.next ?_
    refine WP.cond rfl (fun c0=>?_) (fun c0=>?_)
    ·skip
     refine WP.seq<|WP.draws Zq' 9<|RW.e 0 rfl Za'<|RW.e 1 rfl (e_fa JM')<|RW.e 2 rfl (Zc' a24)<|RW.e 4 rfl Za'<|RW.e 5 rfl (e_fa JM')<|RW.e 6 rfl (Zc' a24) ?_
     refine RW.any (is:=[3]) rfl ⟨?_,trivial⟩
     refine RWat.h rfl rfl rfl ?_
     refine (Zg' (QN' (E:=E) (v:=v) x.tx true) k9 ?_)
     intro q1 r1
     try dsimp only
     obtain ⟨e1,hB⟩:=hI.beg (by omega) x.tx
     refine ⟨⟨⟨_,rfl,.inl ⟨rfl,(Zc' a24)⟩⟩,⟨_,rfl,.inl ⟨rfl,(e_fa JM')⟩⟩,⟨_,rfl,.inl ⟨rfl,Za'⟩⟩,trivial⟩,?_⟩
     refine RW.any (is:=[7]) rfl ⟨?_,trivial⟩
     refine RWat.h rfl rfl rfl ?_
     refine (Yi' E.mB (E.sB x.tx) E.cB ?_)
     intro q2
     rw [← e1]
     replace hB:=hB q1 q2 r1
     refine ⟨trivial,?_⟩
     refine RW.e 8 rfl Z2'<|RW.done<|PO.next ?_
     refine WP.cond rfl (fun z9=>?_) (fun z9=>?_)
     ·(simp at z9)
     ·skip
      refine WP.skip<|PO.blockN<|PO.next<|WP.seq<|WP.reg<|WL.e Za' ?_
      refine WL.h (Zg' (XB' (E:=E) (v:=Qi' v x.tx true q1 r1) hB.ok.ok) k21 ?_)
      intro a8 m8 c8
      have hrw:=hB.rows
      refine WL.e Za' ?_
      refine WL.h (Yi' E.mR (E.sR hB.okt) E.cR ?_)
      intro a9 m9 c9
      refine WL.h (Zg' (YR' (Zr' (E:=105) (xs:=M.rows (Qi' v x.tx true q1 r1).st)) (Zr' (E:=105) (xs:=M.rows (M.begS t x.tx q2))) (by omega)) k20 ?_)
      rw [decide_eq_true hrw.1]
      refine WL.e Zx'<|WL.next<|WP.cond_f rfl<|WP.skip<|PO.blockN<|PO.next<|WP.reg<|WL.e Za'<|WL.e (ZE' (c:=((i+1:Nat):Int)) rfl rfl (by rw [Zt' (by omega) (by omega)];omega))<|WL.e Zb'<|WL.nil ?_
      exact PO.againK (i+1,Qi' v x.tx true q1 r1,M.begS t x.tx q2) ⟨by simp only;omega,hB⟩ (by simp only;omega)
    ·skip
     refine WP.seq<|WP.reg<|WL.e ZM'<|WL.e Zb'<|WL.next ?_
     refine WP.cond rfl (fun c8=>?_) (fun c8=>?_)
     ·skip
      refine WP.seq<|WP.reg<|WL.e Za'<|WL.e (e_fa JM')<|WL.e (Zc' a24) ?_
      refine WL.h (Zg' (ZfF_ (E:=E) (v:=v) x.tx hI.ok.ok (by omega)) k18 ?_)
      try dsimp only
      obtain ⟨e1,e2,hB⟩:=hI.com (by omega) x.tx
      refine WL.e Za'<|WL.e Ze'<|WL.e Ze'<|WL.e Zb'<|WL.e Zb'<|WL.next<|WP.seq<|WP.reg<|WL.e Za'<|WL.e (e_fa JM')<|WL.e (Zc' a24) ?_
      refine WL.h (Yi' E.mC (E.sC x.tx hI.okt (by omega)) E.cC ?_)
      rw [← e1,← e2]
      refine WL.e Za'<|WL.e Ze'<|WL.e Ze'<|WL.e Zb'<|WL.e Zb'<|WL.next<|WP.seq<|WP.reg<|WL.e Za'<|WL.e Za'<|WL.e (XE')<|WL.e Za' ?_
      refine WL.bool 112 rfl (fun z8=>?_) (fun z8=>?_)
      ·(simp at z8) 
      ·skip
       refine WL.e Za'<|WL.e Za'<|WL.e Z2'<|WL.e Zl'<|WL.next ?_
       refine WP.cond rfl (fun z9=>?_) (fun z9=>?_)
       ·(simp at z9)
       ·skip
        refine WP.skip<|PO.blockN<|PO.next<|WP.seq<|WP.reg<|WL.e Za' ?_
        refine WL.h (Zg' (XB' (E:=E) (v:=Za1_ v x.tx) hB.ok.ok) k21 ?_)
        intro a8 m8 c8
        have hrw:=hB.rows
        refine WL.e Za' ?_
        refine WL.h (Yi' E.mR (E.sR hB.okt) E.cR ?_)
        intro a9 m9 c9
        refine WL.h (Zg' (YR' (Zr' (E:=105) (xs:=M.rows (Za1_ v x.tx).st)) (Zr' (E:=105) (xs:=M.rows (M.comS t x.tx))) (by omega)) k20 ?_)
        rw [decide_eq_true hrw.1]
        refine WL.e Zx'<|WL.next<|WP.cond_f rfl<|WP.skip<|PO.blockN<|PO.next<|WP.reg<|WL.e Za'<|WL.e (ZE' (c:=((i+1:Nat):Int)) rfl rfl (by rw [Zt' (by omega) (by omega)];omega))<|WL.e Zb'<|WL.nil ?_
        exact PO.againK (i+1,Za1_ v x.tx,M.comS t x.tx) ⟨by simp only;omega,hB⟩ (by simp only;omega)
     ·skip
      refine WP.seq<|WP.reg<|WL.e ZM'<|WL.e Zb'<|WL.next ?_
      refine WP.cond rfl (fun c9=>?_) (fun c9=>?_)
      ·skip
       refine WP.seq<|WP.draws Zq' 9<|RW.e 0 rfl Za'<|RW.e 1 rfl (e_fa JM')<|RW.e 2 rfl (Zc' a24)<|RW.e 4 rfl Za'<|RW.e 5 rfl (e_fa JM')<|RW.e 6 rfl (Zc' a24) ?_
       refine RW.any (is:=[3]) rfl ⟨?_,trivial⟩
       refine RWat.h rfl rfl rfl ?_
       refine (Zg' (Zbj_ (E:=E) (v:=v) x.tx hI.ok.ok) k15 ?_)
       try dsimp only
       obtain ⟨e1,hB⟩:=hI.abo (by omega) x.tx
       refine ⟨⟨⟨_,rfl,.inl ⟨rfl,(Zc' a24)⟩⟩,⟨_,rfl,.inl ⟨rfl,(e_fa JM')⟩⟩,⟨_,rfl,.inl ⟨rfl,Za'⟩⟩,trivial⟩,?_⟩
       refine RW.any (is:=[7]) rfl ⟨?_,trivial⟩
       refine RWat.h rfl rfl rfl ?_
       refine (Yi' E.mA (E.sA x.tx hI.okt) E.cA ?_)
       rw [← e1]
       refine ⟨trivial,?_⟩
       refine RW.e 8 rfl Z2'<|RW.done<|PO.next ?_
       refine WP.cond rfl (fun z9=>?_) (fun z9=>?_)
       ·(simp at z9)
       ·skip
        refine WP.skip<|PO.blockN<|PO.next<|WP.seq<|WP.reg<|WL.e Za' ?_
        refine WL.h (Zg' (XB' (E:=E) (v:=UV' v x.tx) hB.ok.ok) k21 ?_)
        intro a8 m8 c8
        have hrw:=hB.rows
        refine WL.e Za' ?_
        refine WL.h (Yi' E.mR (E.sR hB.okt) E.cR ?_)
        intro a9 m9 c9
        refine WL.h (Zg' (YR' (Zr' (E:=105) (xs:=M.rows (UV' v x.tx).st)) (Zr' (E:=105) (xs:=M.rows (M.aboS t x.tx))) (by omega)) k20 ?_)
        rw [decide_eq_true hrw.1]
        refine WL.e Zx'<|WL.next<|WP.cond_f rfl<|WP.skip<|PO.blockN<|PO.next<|WP.reg<|WL.e Za'<|WL.e (ZE' (c:=((i+1:Nat):Int)) rfl rfl (by rw [Zt' (by omega) (by omega)];omega))<|WL.e Zb'<|WL.nil ?_
        exact PO.againK (i+1,UV' v x.tx,M.aboS t x.tx) ⟨by simp only;omega,hB⟩ (by simp only;omega)
      ·skip
       refine WP.cutL (fun (q:Bool)=>[(128,.bool q)]) (fun (q:Bool)=>Si E sp dp (v)::E.pc p dq (t)::cl b1 68 (ActS.c x)::A::R) (fun (q:Bool)=>True) ?_ ?_
       ·skip
        refine WP.seq<|WP.reg<|WL.e ZM'<|WL.e Zb'<|WL.next ?_
        refine WP.cond rfl (fun c10=>?_) (fun c10=>?_)
        ·skip
         refine WP.skip ?_
         exact PO.meetK _ trivial
        ·skip
         refine WP.reg<|WL.e ZM'<|WL.e Zb'<|WL.nil ?_
         exact PO.meetK _ trivial
       ·intro q _
        refine WP.cond rfl (fun c11=>?_) (fun c11=>?_)
        ·skip
         refine WP.skip<|PO.blockN<|PO.next<|WP.seq<|WP.reg<|WL.e Za' ?_
         refine WL.h (Zg' (XB' (E:=E) (v:=v) hI.ok.ok) k21 ?_)
         intro a8 m8 c8
         have hrw:=hI.rows
         refine WL.e Za' ?_
         refine WL.h (Yi' E.mR (E.sR hI.okt) E.cR ?_)
         intro a9 m9 c9
         refine WL.h (Zg' (YR' (Zr' (E:=105) (xs:=M.rows (v).st)) (Zr' (E:=105) (xs:=M.rows (t))) (by omega)) k20 ?_)
         rw [decide_eq_true hrw.1]
         refine WL.e Zx'<|WL.next<|WP.cond_f rfl<|WP.skip<|PO.blockN<|PO.next<|WP.reg<|WL.e Za'<|WL.e (ZE' (c:=((i+1:Nat):Int)) rfl rfl (by rw [Zt' (by omega) (by omega)];omega))<|WL.e Zb'<|WL.nil ?_
         exact PO.againK (i+1,v,t) ⟨by simp only;omega,hI.mono (Nat.le_succ i) (by omega)⟩ (by simp only;omega)
        ·skip
         refine WP.seq<|WP.reg<|WL.e Za'<|WL.e (e_fa JM')<|WL.e (Zc' a24)<|WL.e (e_fa JN')<|WL.e (Zm' a26) ?_
         refine WL.h (Zg' (QA' (E:=E) (v:=v) x.tx x.op hI.ok) k12 ?_)
         rcases hI.do_ (by omega) x.tx x.op with ⟨e1,hres⟩ | ⟨v2,t2,e,e1,e2,he,hB⟩ | ⟨f,f2,e1,e2,hB⟩ | ⟨v2,t2,rw,e1,e2,hrl,hB⟩
         ·rw [e1]
          dsimp only
          refine WL.e Za'<|WL.e Ze'<|WL.e Ze' ?_
          refine WL.h (Zu' z40 fun b2=>?_)
          refine WL.h' (Zj' s40 ?_)
          refine WL.e Zb'<|WL.next<|WP.seq<|WP.seq<|WP.reg<|WL.e (e_fa JN')<|WL.e (e_fa X8')<|WL.e (Zc' a9) ?_
          refine WL.h (Zg' (KN' _) k24 ?_)
          refine WL.e Za' ?_
          refine WL.join 61 (.bool (resB x.op.key || x.op.kind == 4)) (.c (.c (.c (.c (.c .n))))) ?_ ?_
          ·refine WL.bool 56 rfl (fun hg=>?_) (fun hg=>?_)
           ·skip
            refine WL.skip<|WL.skip<|WL.skip<|WL.skip<|WL.e Zn' ?_
            exact WL.nil (PO.joined rfl (by simp [hg]))
           ·skip
            refine WL.e (e_fa JN')<|WL.e (e_fa XF')<|WL.e (Zc' a23)<|WL.e (Xq' (b:=4))<|WL.e Zl' ?_
            exact WL.nil (PO.joined rfl (by simp [hg]))
          refine WL.next ?_
          refine WP.cond rfl (fun z1=>?_) (fun z1=>?_)
          ·skip
           refine WP.seq<|WP.reg<|WL.e Za'<|WL.e ZM'<|WL.next<|WP.cond_t rfl<|WP.exit<|PO.past nofun<|PO.blockY rfl<|PO.past nofun<|PO.blockX<|PO.next<|WP.reg<|WL.e Za'<|WL.e (ZE' (c:=((i+1:Nat):Int)) rfl rfl (by rw [Zt' (by omega) (by omega)];omega))<|WL.e Zb'<|WL.nil ?_
           exact PO.againK (i+1,v,t) ⟨by simp only;omega,hI.mono (Nat.le_succ i) (by omega)⟩ (by simp only;omega)
          ·exact absurd (hres.symm.trans z1) (by decide)
         ·rw [e1]
          dsimp only
          refine WL.e Za'<|WL.e Ze'<|WL.e Ze' ?_
          refine WL.h (Zu' z40 fun b3=>?_)
          refine WL.h' (Zj' s40 ?_)
          refine WL.e Zb'<|WL.next<|WP.seq<|WP.seq<|WP.reg<|WL.e (e_fa JN')<|WL.e (e_fa X8')<|WL.e (Zc' a9) ?_
          refine WL.h (Zg' (KN' _) k24 ?_)
          refine WL.e Za' ?_
          refine WL.join 61 (.bool (resB x.op.key || x.op.kind == 4)) (.c (.c (.c (.c (.c .n))))) ?_ ?_
          ·refine WL.bool 56 rfl (fun hg=>?_) (fun hg=>?_)
           ·skip
            refine WL.skip<|WL.skip<|WL.skip<|WL.skip<|WL.e Zn' ?_
            exact WL.nil (PO.joined rfl (by simp [hg]))
           ·skip
            refine WL.e (e_fa JN')<|WL.e (e_fa XF')<|WL.e (Zc' a23)<|WL.e (Xq' (b:=4))<|WL.e Zl' ?_
            exact WL.nil (PO.joined rfl (by simp [hg]))
          refine WL.next ?_
          refine WP.cond rfl (fun z1=>?_) (fun z1=>?_)
          ·skip
           refine WP.seq<|WP.reg<|WL.e Za'<|WL.e ZM'<|WL.next ?_
           refine WP.cond rfl (fun z2=>?_) (fun z2=>?_)
           ·exact absurd (show e=10 by simp at z2;omega) he
           ·skip
            refine WP.skip<|PO.next<|WP.seq<|WP.reg<|WL.e Za'<|WL.e (e_fa JM')<|WL.e (Zc' a24)<|WL.e (e_fa JN')<|WL.e (Zm' a26) ?_
            refine WL.h (Yi' E.mD (E.sD x.tx x.op hI.okt) E.cD ?_)
            rw [e2]
            dsimp only
            refine WL.e Za'<|WL.e Ze'<|WL.e Ze' ?_
            refine WL.h (Zu' z40 fun b4=>?_)
            refine WL.h' (Zj' s40 ?_)
            refine WL.e Zb'<|WL.next<|WP.seq<|WP.reg<|WL.e Za'<|WL.e Za'<|WL.e Z2'<|WL.e Za' ?_
            refine WL.bool 76 rfl (fun z8=>?_) (fun z8=>?_)
            ·(simp at z8) 
            ·skip
             refine WL.e (Zm' a40)<|WL.e (Zm' a40) ?_
             refine WL.h (Zg' (XI' (u:=⟨none,0,0⟩) (v:=⟨none,0,0⟩) (xs:=[]) (ys:=[]) (A:=Si E sp dp (v2)) (B:=E.pc p dq (t2)) X4' X4' (by simp)) k19 ?_)
             rw [decide_eq_true rfl]
             refine WL.e Zx'<|WL.e Zl'<|WL.next<|WP.cond_f rfl<|WP.skip<|PO.blockN<|PO.next<|WP.seq<|WP.reg<|WL.e Za' ?_
             refine WL.h (Zg' (XB' (E:=E) (v:=v2) hB.ok.ok) k21 ?_)
             intro a8 m8 c8
             have hrw:=hB.rows
             refine WL.e Za' ?_
             refine WL.h (Yi' E.mR (E.sR hB.okt) E.cR ?_)
             intro a9 m9 c9
             refine WL.h (Zg' (YR' (Zr' (E:=105) (xs:=M.rows (v2).st)) (Zr' (E:=105) (xs:=M.rows (t2))) (by omega)) k20 ?_)
             rw [decide_eq_true hrw.1]
             refine WL.e Zx'<|WL.next<|WP.cond_f rfl<|WP.skip<|PO.blockN<|PO.next<|WP.reg<|WL.e Za'<|WL.e (ZE' (c:=((i+1:Nat):Int)) rfl rfl (by rw [Zt' (by omega) (by omega)];omega))<|WL.e Zb'<|WL.nil ?_
             exact PO.againK (i+1,v2,t2) ⟨by simp only;omega,hB⟩ (by simp only;omega)
          ·skip
           refine WP.skip<|PO.next<|WP.seq<|WP.reg<|WL.e Za'<|WL.e (e_fa JM')<|WL.e (Zc' a24)<|WL.e (e_fa JN')<|WL.e (Zm' a26) ?_
           refine WL.h (Yi' E.mD (E.sD x.tx x.op hI.okt) E.cD ?_)
           rw [e2]
           dsimp only
           refine WL.e Za'<|WL.e Ze'<|WL.e Ze' ?_
           refine WL.h (Zu' z40 fun b5=>?_)
           refine WL.h' (Zj' s40 ?_)
           refine WL.e Zb'<|WL.next<|WP.seq<|WP.reg<|WL.e Za'<|WL.e Za'<|WL.e Z2'<|WL.e Za' ?_
           refine WL.bool 76 rfl (fun z8=>?_) (fun z8=>?_)
           ·(simp at z8) 
           ·skip
            refine WL.e (Zm' a40)<|WL.e (Zm' a40) ?_
            refine WL.h (Zg' (XI' (u:=⟨none,0,0⟩) (v:=⟨none,0,0⟩) (xs:=[]) (ys:=[]) (A:=Si E sp dp (v2)) (B:=E.pc p dq (t2)) X4' X4' (by simp)) k19 ?_)
            rw [decide_eq_true rfl]
            refine WL.e Zx'<|WL.e Zl'<|WL.next<|WP.cond_f rfl<|WP.skip<|PO.blockN<|PO.next<|WP.seq<|WP.reg<|WL.e Za' ?_
            refine WL.h (Zg' (XB' (E:=E) (v:=v2) hB.ok.ok) k21 ?_)
            intro a8 m8 c8
            have hrw:=hB.rows
            refine WL.e Za' ?_
            refine WL.h (Yi' E.mR (E.sR hB.okt) E.cR ?_)
            intro a9 m9 c9
            refine WL.h (Zg' (YR' (Zr' (E:=105) (xs:=M.rows (v2).st)) (Zr' (E:=105) (xs:=M.rows (t2))) (by omega)) k20 ?_)
            rw [decide_eq_true hrw.1]
            refine WL.e Zx'<|WL.next<|WP.cond_f rfl<|WP.skip<|PO.blockN<|PO.next<|WP.reg<|WL.e Za'<|WL.e (ZE' (c:=((i+1:Nat):Int)) rfl rfl (by rw [Zt' (by omega) (by omega)];omega))<|WL.e Zb'<|WL.nil ?_
            exact PO.againK (i+1,v2,t2) ⟨by simp only;omega,hB⟩ (by simp only;omega)
         ·rw [e1]
          dsimp only
          intro w1
          refine WL.e Za'<|WL.e Ze'<|WL.e Ze' ?_
          refine WL.h (Zu' z40 fun b6=>?_)
          refine WL.h' (Zj' s40 ?_)
          refine WL.e Zb'<|WL.next<|WP.seq<|WP.seq<|WP.reg<|WL.e (e_fa JN')<|WL.e (e_fa X8')<|WL.e (Zc' a9) ?_
          refine WL.h (Zg' (KN' _) k24 ?_)
          refine WL.e Za' ?_
          refine WL.join 61 (.bool (resB x.op.key || x.op.kind == 4)) (.c (.c (.c (.c (.c .n))))) ?_ ?_
          ·refine WL.bool 56 rfl (fun hg=>?_) (fun hg=>?_)
           ·skip
            refine WL.skip<|WL.skip<|WL.skip<|WL.skip<|WL.e Zn' ?_
            exact WL.nil (PO.joined rfl (by simp [hg]))
           ·skip
            refine WL.e (e_fa JN')<|WL.e (e_fa XF')<|WL.e (Zc' a23)<|WL.e (Xq' (b:=4))<|WL.e Zl' ?_
            exact WL.nil (PO.joined rfl (by simp [hg]))
          refine WL.next ?_
          refine WP.cond rfl (fun z1=>?_) (fun z1=>?_)
          ·skip
           refine WP.seq<|WP.reg<|WL.e Za'<|WL.e ZM'<|WL.next<|WP.cond_f rfl<|WP.skip<|PO.next<|WP.seq<|WP.reg<|WL.e Za'<|WL.e (e_fa JM')<|WL.e (Zc' a24)<|WL.e (e_fa JN')<|WL.e (Zm' a26) ?_
           refine WL.h (Yi' E.mD (E.sD x.tx x.op hI.okt) E.cD ?_)
           rw [e2]
           dsimp only
           intro w2
           replace hB:=hB w1 w2
           refine WL.e Za'<|WL.e Ze'<|WL.e Ze' ?_
           refine WL.h (Zu' z40 fun b7=>?_)
           refine WL.h' (Zj' s40 ?_)
           refine WL.e Zb'<|WL.next<|WP.seq<|WP.reg<|WL.e Za'<|WL.e Za'<|WL.e Z2'<|WL.e Za' ?_
           refine WL.bool 76 rfl (fun z8=>?_) (fun z8=>?_)
           ·(simp at z8) 
           ·skip
            refine WL.e (Zm' a40)<|WL.e (Zm' a40) ?_
            refine WL.h (Zg' (XI' (u:=⟨none,0,0⟩) (v:=⟨none,0,0⟩) (xs:=[]) (ys:=[]) (A:=Si E sp dp (f w1)) (B:=E.pc p dq (f2 w2)) X4' X4' (by simp)) k19 ?_)
            rw [decide_eq_true rfl]
            refine WL.e Zx'<|WL.e Zl'<|WL.next<|WP.cond_f rfl<|WP.skip<|PO.blockN<|PO.next<|WP.seq<|WP.reg<|WL.e Za' ?_
            refine WL.h (Zg' (XB' (E:=E) (v:=f w1) hB.ok.ok) k21 ?_)
            intro a8 m8 c8
            have hrw:=hB.rows
            refine WL.e Za' ?_
            refine WL.h (Yi' E.mR (E.sR hB.okt) E.cR ?_)
            intro a9 m9 c9
            refine WL.h (Zg' (YR' (Zr' (E:=105) (xs:=M.rows (f w1).st)) (Zr' (E:=105) (xs:=M.rows (f2 w2))) (by omega)) k20 ?_)
            rw [decide_eq_true hrw.1]
            refine WL.e Zx'<|WL.next<|WP.cond_f rfl<|WP.skip<|PO.blockN<|PO.next<|WP.reg<|WL.e Za'<|WL.e (ZE' (c:=((i+1:Nat):Int)) rfl rfl (by rw [Zt' (by omega) (by omega)];omega))<|WL.e Zb'<|WL.nil ?_
            exact PO.againK (i+1,f w1,f2 w2) ⟨by simp only;omega,hB⟩ (by simp only;omega)
          ·skip
           refine WP.skip<|PO.next<|WP.seq<|WP.reg<|WL.e Za'<|WL.e (e_fa JM')<|WL.e (Zc' a24)<|WL.e (e_fa JN')<|WL.e (Zm' a26) ?_
           refine WL.h (Yi' E.mD (E.sD x.tx x.op hI.okt) E.cD ?_)
           rw [e2]
           dsimp only
           intro w2
           replace hB:=hB w1 w2
           refine WL.e Za'<|WL.e Ze'<|WL.e Ze' ?_
           refine WL.h (Zu' z40 fun b8=>?_)
           refine WL.h' (Zj' s40 ?_)
           refine WL.e Zb'<|WL.next<|WP.seq<|WP.reg<|WL.e Za'<|WL.e Za'<|WL.e Z2'<|WL.e Za' ?_
           refine WL.bool 76 rfl (fun z8=>?_) (fun z8=>?_)
           ·(simp at z8) 
           ·skip
            refine WL.e (Zm' a40)<|WL.e (Zm' a40) ?_
            refine WL.h (Zg' (XI' (u:=⟨none,0,0⟩) (v:=⟨none,0,0⟩) (xs:=[]) (ys:=[]) (A:=Si E sp dp (f w1)) (B:=E.pc p dq (f2 w2)) X4' X4' (by simp)) k19 ?_)
            rw [decide_eq_true rfl]
            refine WL.e Zx'<|WL.e Zl'<|WL.next<|WP.cond_f rfl<|WP.skip<|PO.blockN<|PO.next<|WP.seq<|WP.reg<|WL.e Za' ?_
            refine WL.h (Zg' (XB' (E:=E) (v:=f w1) hB.ok.ok) k21 ?_)
            intro a8 m8 c8
            have hrw:=hB.rows
            refine WL.e Za' ?_
            refine WL.h (Yi' E.mR (E.sR hB.okt) E.cR ?_)
            intro a9 m9 c9
            refine WL.h (Zg' (YR' (Zr' (E:=105) (xs:=M.rows (f w1).st)) (Zr' (E:=105) (xs:=M.rows (f2 w2))) (by omega)) k20 ?_)
            rw [decide_eq_true hrw.1]
            refine WL.e Zx'<|WL.next<|WP.cond_f rfl<|WP.skip<|PO.blockN<|PO.next<|WP.reg<|WL.e Za'<|WL.e (ZE' (c:=((i+1:Nat):Int)) rfl rfl (by rw [Zt' (by omega) (by omega)];omega))<|WL.e Zb'<|WL.nil ?_
            exact PO.againK (i+1,f w1,f2 w2) ⟨by simp only;omega,hB⟩ (by simp only;omega)
         ·rw [e1]
          dsimp only
          intro a1 m1 c1
          refine WL.e Za'<|WL.e Ze'<|WL.e Ze' ?_
          refine WL.h (Zu' z40 fun b9=>?_)
          refine WL.h' (Zj' s40 ?_)
          refine WL.e Zb'<|WL.next<|WP.seq<|WP.seq<|WP.reg<|WL.e (e_fa JN')<|WL.e (e_fa X8')<|WL.e (Zc' a9) ?_
          refine WL.h (Zg' (KN' _) k24 ?_)
          refine WL.e Za' ?_
          refine WL.join 61 (.bool (resB x.op.key || x.op.kind == 4)) (.c (.c (.c (.c (.c .n))))) ?_ ?_
          ·refine WL.bool 56 rfl (fun hg=>?_) (fun hg=>?_)
           ·skip
            refine WL.skip<|WL.skip<|WL.skip<|WL.skip<|WL.e Zn' ?_
            exact WL.nil (PO.joined rfl (by simp [hg]))
           ·skip
            refine WL.e (e_fa JN')<|WL.e (e_fa XF')<|WL.e (Zc' a23)<|WL.e (Xq' (b:=4))<|WL.e Zl' ?_
            exact WL.nil (PO.joined rfl (by simp [hg]))
          refine WL.next ?_
          refine WP.cond rfl (fun z1=>?_) (fun z1=>?_)
          ·skip
           refine WP.seq<|WP.reg<|WL.e Za'<|WL.e ZM'<|WL.next<|WP.cond_f rfl<|WP.skip<|PO.next<|WP.seq<|WP.reg<|WL.e Za'<|WL.e (e_fa JM')<|WL.e (Zc' a24)<|WL.e (e_fa JN')<|WL.e (Zm' a26) ?_
           refine WL.h (Yi' E.mD (E.sD x.tx x.op hI.okt) E.cD ?_)
           rw [e2]
           dsimp only
           intro a2 m2 c2
           refine WL.e Za'<|WL.e Ze'<|WL.e Ze' ?_
           refine WL.h (Zu' z40 fun b10=>?_)
           refine WL.h' (Zj' s40 ?_)
           refine WL.e Zb'<|WL.next<|WP.seq<|WP.reg<|WL.e Za'<|WL.e Za'<|WL.e Z2'<|WL.e Za' ?_
           refine WL.bool 76 rfl (fun z8=>?_) (fun z8=>?_)
           ·(simp at z8) 
           ·skip
            refine WL.e (Zm' a40)<|WL.e (Zm' a40) ?_
            refine WL.h (Zg' (XI' (u:=⟨a1,m1,c1⟩) (v:=⟨a2,m2,c2⟩) (Zr' (E:=105) (xs:=rw)) (Zr' (E:=105) (xs:=rw)) (by omega)) k19 ?_)
            rw [decide_eq_true rfl]
            refine WL.e Zx'<|WL.e Zl'<|WL.next<|WP.cond_f rfl<|WP.skip<|PO.blockN<|PO.next<|WP.seq<|WP.reg<|WL.e Za' ?_
            refine WL.h (Zg' (XB' (E:=E) (v:=v2) hB.ok.ok) k21 ?_)
            intro a8 m8 c8
            have hrw:=hB.rows
            refine WL.e Za' ?_
            refine WL.h (Yi' E.mR (E.sR hB.okt) E.cR ?_)
            intro a9 m9 c9
            refine WL.h (Zg' (YR' (Zr' (E:=105) (xs:=M.rows (v2).st)) (Zr' (E:=105) (xs:=M.rows (t2))) (by omega)) k20 ?_)
            rw [decide_eq_true hrw.1]
            refine WL.e Zx'<|WL.next<|WP.cond_f rfl<|WP.skip<|PO.blockN<|PO.next<|WP.reg<|WL.e Za'<|WL.e (ZE' (c:=((i+1:Nat):Int)) rfl rfl (by rw [Zt' (by omega) (by omega)];omega))<|WL.e Zb'<|WL.nil ?_
            exact PO.againK (i+1,v2,t2) ⟨by simp only;omega,hB⟩ (by simp only;omega)
          ·skip
           refine WP.skip<|PO.next<|WP.seq<|WP.reg<|WL.e Za'<|WL.e (e_fa JM')<|WL.e (Zc' a24)<|WL.e (e_fa JN')<|WL.e (Zm' a26) ?_
           refine WL.h (Yi' E.mD (E.sD x.tx x.op hI.okt) E.cD ?_)
           rw [e2]
           dsimp only
           intro a2 m2 c2
           refine WL.e Za'<|WL.e Ze'<|WL.e Ze' ?_
           refine WL.h (Zu' z40 fun b11=>?_)
           refine WL.h' (Zj' s40 ?_)
           refine WL.e Zb'<|WL.next<|WP.seq<|WP.reg<|WL.e Za'<|WL.e Za'<|WL.e Z2'<|WL.e Za' ?_
           refine WL.bool 76 rfl (fun z8=>?_) (fun z8=>?_)
           ·(simp at z8) 
           ·skip
            refine WL.e (Zm' a40)<|WL.e (Zm' a40) ?_
            refine WL.h (Zg' (XI' (u:=⟨a1,m1,c1⟩) (v:=⟨a2,m2,c2⟩) (Zr' (E:=105) (xs:=rw)) (Zr' (E:=105) (xs:=rw)) (by omega)) k19 ?_)
            rw [decide_eq_true rfl]
            refine WL.e Zx'<|WL.e Zl'<|WL.next<|WP.cond_f rfl<|WP.skip<|PO.blockN<|PO.next<|WP.seq<|WP.reg<|WL.e Za' ?_
            refine WL.h (Zg' (XB' (E:=E) (v:=v2) hB.ok.ok) k21 ?_)
            intro a8 m8 c8
            have hrw:=hB.rows
            refine WL.e Za' ?_
            refine WL.h (Yi' E.mR (E.sR hB.okt) E.cR ?_)
            intro a9 m9 c9
            refine WL.h (Zg' (YR' (Zr' (E:=105) (xs:=M.rows (v2).st)) (Zr' (E:=105) (xs:=M.rows (t2))) (by omega)) k20 ?_)
            rw [decide_eq_true hrw.1]
            refine WL.e Zx'<|WL.next<|WP.cond_f rfl<|WP.skip<|PO.blockN<|PO.next<|WP.reg<|WL.e Za'<|WL.e (ZE' (c:=((i+1:Nat):Int)) rfl rfl (by rw [Zt' (by omega) (by omega)];omega))<|WL.e Zb'<|WL.nil ?_
            exact PO.againK (i+1,v2,t2) ⟨by simp only;omega,hB⟩ (by simp only;omega)
   ·skip
    refine WP.exit<|PO.past nofun<|PO.round nofun<|PO.blockX<|PO.next<|WP.seq<|WP.reg ?_
    refine WL.h (Zg' (ZcK_) k8 ?_)
    refine WL.e Zb'<|WL.next<|WP.ret ?_
    exact PO.finE Tryz.results6 (Zd' Zf') rfl hK
end Go.SL
namespace Go.SL
open Go Go.ChangeShapes Go.Deep
section
variable {H : Type} {enc : TypeId × Value → H} {P : Program} {W : World} {held : Bool}
theorem ZnE_ (a:Addr) (n:Nat) (h:a.spot=none):a.add n=⟨a.block,a.off+n,none⟩:=by
  obtain ⟨b,o,s⟩:=a
  simp at h;subst h
  exact YL' b o n
theorem ZbJ_ {α:Type} {t e:TypeId} {fuel z:Nat} {cs:List Value} {x:DataW H × List MemPlace} {c:α→List Value} (ht:P.underlying t=some (.slice e)) (hz:P.cellsOf e=z) (h0:0 < z) (he:EncOk z c)
    (hel:∀ n cs' y,DataW.trod enc P W 0 (fun _=>true) held n e cs'=some y→∃ a:α,cs'=c a) (h:DataW.trod enc P W 0 (fun _=>true) held fuel t cs=some x) :
    ∃ (v:SV) (xs:List α),cs=[v.v]∧RL (Old W) z c v.v xs∧(xs=[]∨∃ el sp,x.1=.slice el sp∧el.length=xs.length):=by
  rcases open_slice ht h with ⟨hcs,_⟩ | ⟨a,len,cap,m,n,D,Pl,hcs,_,hl,hm,hmm,hxx,hi⟩
  · exact ⟨⟨none,0,0⟩,[],hcs,X4',.inl rfl⟩
  simp only [if_true] at hmm
  subst hmm
  rw [hz] at hi
  have hi':∀ i:Fin m,∃ y:α,∀ j,j < z→W.cell? ((a.add (i * z)).add j)=(c y)[j]?:=fun i=>by
    obtain ⟨cs',h1,h2⟩:=hi i i.2
    obtain ⟨y,rfl⟩:=hel _ _ _ h2
    exact ⟨y,(World.cells?_some h1).2.2⟩
  by_cases hc0:m=0
  · have:len=0:=by omega
    subst this
    exact ⟨⟨some a,0,m⟩,[],hcs,X4',.inl rfl⟩
  let Y:Fin m→α:=fun i=>Classical.choose (hi' i)
  have hY:∀ i:Fin m,∀ j,j < z→W.cell? ((a.add (i * z)).add j)=(c (Y i))[j]?:=fun i=>Classical.choose_spec (hi' i)
  have hsp:a.spot=none:=by
    have:=hY ⟨0,by omega⟩ 0 h0
    have hlt:0 < (c (Y ⟨0,by omega⟩)).length:=by rw [he.len];exact h0
    rw [List.getElem?_eq_getElem hlt] at this
    have h2:=World.cell?_spot this
    cases hs:a.spot with
    | none=>rfl
    | some s=>simp [Addr.add,hs] at h2
  have hcell:∀ k (hk:k < m * z),W.cell? ⟨a.block,a.off+k,none⟩=(c (Y ⟨k / z,(Nat.div_lt_iff_lt_mul h0).2 hk⟩))[k % z]?:=fun k hk=>by
    have:=hY ⟨k / z,(Nat.div_lt_iff_lt_mul h0).2 hk⟩ (k % z) (Nat.mod_lt _ h0)
    rw [ZnE_ a _ hsp,YL'] at this
    have e:a.off+k / z * z+k % z=a.off+k:=by have:=Nat.div_add_mod k z;rw [Nat.mul_comm] at this;omega
    simp only [e] at this
    exact this
  have hmz:0 < m * z:=Nat.mul_pos (by omega) h0
  obtain ⟨arr,t',fr,hb⟩:∃ arr t' fr,W.heap[a.block]?=some (.cells arr t' fr):=by
    have:=hcell 0 hmz
    rw [List.getElem?_eq_getElem (by rw [he.len];exact Nat.mod_lt _ h0)] at this
    unfold World.cell? at this
    cases hh:W.heap[a.block]? with
    | none=>rw [hh] at this;cases this
    | some o=>rw [hh] at this;cases o <;> first | exact ⟨_,_,_,rfl⟩ | cases this
  have hval:∀ k (hk:k < m * z),arr.toList[a.off+k]?=(c (Y ⟨k / z,(Nat.div_lt_iff_lt_mul h0).2 hk⟩))[k % z]?:=fun k hk=>by
    have:=hcell k hk
    unfold World.cell? at this
    rw [hb] at this
    simpa using this
  have hlen:a.off+m * z≤arr.toList.length:=by
    have:=hval (m * z - 1) (by omega)
    have hlt:(m * z - 1) % z < (c (Y ⟨(m * z - 1) / z,(Nat.div_lt_iff_lt_mul h0).2 (by omega)⟩)).length:=by rw [he.len];exact Nat.mod_lt _ h0
    rw [List.getElem?_eq_getElem hlt] at this
    have:=Yf' this
    omega
  refine ⟨⟨some a,len,m⟩,List.ofFn fun i:Fin len=>Y ⟨i,by omega⟩,hcs,fun S hS=>?_,.inr ⟨_,_,by rw [hxx],by simp⟩⟩
  refine .inr ⟨a.block,a.off,m,arr.toList,(t',fr),?_,by simpa using hl,?_,hlen,?_⟩
  · obtain ⟨b,o,s⟩:=a
    simp at hsp;subst hsp
    simp
  · exact hS _ _ (by simpa [Yd'] using hb)
  · apply List.ext_getElem?
    intro k
    rw [QP',List.length_ofFn]
    by_cases hk:k < len * z
    · rw [if_pos hk]
      have hkm:k < m * z:=Nat.lt_of_lt_of_le hk (Nat.mul_le_mul_right _ hl)
      rw [hval k hkm]
      have hd:k / z < len:=(Nat.div_lt_iff_lt_mul h0).2 hk
      have hx:(List.ofFn fun i:Fin len=>Y ⟨i,by omega⟩)[k / z]?=some (Y ⟨k / z,by omega⟩):=by simp [hd]
      have:=Ud' he hx (k % z) (Nat.mod_lt _ h0)
      rw [show k / z * z+k % z=k by have:=Nat.div_add_mod k z;rw [Nat.mul_comm] at this;omega] at this
      exact this
    · rw [if_neg hk]
      apply List.getElem?_eq_none
      rw [Yg' he,List.length_ofFn];omega
theorem Zdc_ {P:Program} {w:World} {f:FuncId} {args:List Value} (h:Spec P w f args [Old w] fun K R=>K (.bool true) (Old w::R)):Calls P f args.toArray w fun e w'=>e=.returned (.bool true)∧Go.RowKit.Below w.heap.size w w':=by
  refine (h [] (fun v M=>v=.bool true∧M=[Old w]) w (Zm2_ w) ⟨rfl,rfl⟩).mono ?_
  rintro e w' ⟨v,M,rfl,⟨rfl,rfl⟩,hs⟩
  exact ⟨rfl,Zjw_ hs⟩
theorem Zmh_ {t k s u:TypeId} {b0 b1 b2 b3:Nat} {n0 n1 n2 n3:String} {fuel:Nat} {cs:List Value} {y:DataW H × List MemPlace} (ht:P.underlying t=some (.struct #[⟨n0,k,0,false, "", "",b0⟩,⟨n1,s,1,false, "", "",b1⟩,⟨n2,s,2,false, "", "",b2⟩,⟨n3,u,3,false, "", "",b3⟩]))
    (hk:P.underlying k=some (.int .u8)) (hs:P.underlying s=some .string) (hu:P.underlying u=some (.int .u32)) (ct:P.cellsOf t=4) (ck:P.cellsOf k=1) (c1:P.cellsOf s=1) (cu:P.cellsOf u=1)
    (h:DataW.trod enc P W 0 (fun _=>true) held fuel t cs=some y):∃ x:OpM,cs=x.c:=by
  obtain ⟨y0,y1,y2,y3,m,hx,hl,h0,h1,h2,h3⟩:=Go.Joins.trod_struct4 ht h
  rw [ct] at hl
  match cs,hl with
  | [a,b,c,d],_=>
    simp only [ck,c1,cu] at h0 h1 h2 h3
    obtain ⟨n,e0,_,w0⟩:=DataW.trod_int hk h0
    obtain ⟨s1,e1,_,_⟩:=DataW.trod_string hs h1
    obtain ⟨s2,e2,_,_⟩:=DataW.trod_string hs h2
    obtain ⟨v,e3,_,w3⟩:=DataW.trod_int hu h3
    simp at e0 e1 e2 e3
    subst e0 e1 e2 e3
    refine ⟨⟨UInt8.ofNat n.toNat,s1,s2,UInt32.ofNat v.toNat⟩,?_⟩
    simp only [OpM.c]
    rw [← ZhX_ w0,← ZeQ_ w3]
end
end Go.SL
