import Derived.Test.YtegjbklnhiionaaGreatQP8
import Derived.ProofKit
import Derived.Below
import Derived.Carry
import Derived.Lib.SmallJoins
import Derived.OpenShut
import Derived.ShutString
import Derived.ChangeOld
import Derived.Laws.StructEq
set_option linter.unusedSimpArgs false
set_option linter.unusedVariables false
namespace Go.SL.Fc
open Go Go.Proofs Go.SL
theorem ZmW_:(Tryz.f124.name == "runtime.NumGoroutine")=false:=by kernel_rfl
theorem ZmX_:Tryz.f124.body.isNone=true:=by kernel_rfl
theorem ZmY_:Extern.findNext Tryz.f124=none:=by kernel_rfl
theorem ZmZ_:Extern.find Tryz.f124=some (Extern.SlicesOverlaps.overlaps #[38,38] #[4]):=by kernel_rfl
end Go.SL.Fc
namespace Go.SL
open Go Go.Proofs Fc
theorem ZfW_ {g:World} {u:Value} {A D:List RowM} {x:RowM} {bv:Nat} (hn:(A++D).length≤68719476000) :
  Spec Tryz.prog g 112 [u,.int .i64 A.length,(.slice (some ⟨bv,0,none⟩) 1 1)] [Sl 105 2 RowM.c u (A++D),cl bv 105 (RowM.c x)] fun K R=>∀ a m c,K (.slice a m c) (Sl 105 2 RowM.c (.slice a m c) (A++x::D)::R):=by
 have hlen:(A++D).length=A.length+D.length:=by simp
 refine Spec.intro Tryz.func112 rfl Tryz.ntmps112 rfl fun R K hK=>?_
 refine WP.seq<|WP.reg<|WL.e Zb'<|WL.next<|WP.seq<|WP.reg<|WL.e Za'<|WL.e Za'<|WL.e (XV' (lo:=A.length) sl38 (Zr' (xs:=A++D)) (by simp))<|WL.next<|WP.seq<|WP.reg<|WL.e Za'<|WL.e (Zbo_ sl38)<|WL.e Zb'<|WL.next<|WP.seq<|WP.seq<|WP.reg<|WL.e Za'<|WL.e ZM'<|WL.next ?_
 refine WP.cond rfl (fun h0=>?_) (fun h0=>?_)
 ·simp at h0
 ·skip
  refine WP.skip<|PO.next<|WP.seq<|WP.reg<|WL.e Za'<|WL.e (ZD' sl38 (Zr' (xs:=A++D)))<|WL.e Zb'<|WL.next<|WP.seq<|WP.seq<|WP.reg<|WL.e Za'<|WL.e Za'<|WL.e ZM'<|WL.next ?_
  refine WP.cond rfl (fun h1=>?_) (fun h1=>?_)
  ·obtain rfl:D=[]:=List.eq_nil_of_length_eq_zero (by simp at h1;omega)
   refine WP.seq<|WP.reg<|WL.e Za'<|WL.e Za' ?_
   refine WL.h (ZG' (xs:=A++[]) (ys:=[x]) sl38 rowE z105 (Z7' (b:=bv) (E:=105) (l:=RowM.c x) rowE [x] (by simp)) (by simp at hn ⊢;omega) (fun a m c=>?_))
   rw [List.append_nil]
   refine WL.e Zb'<|WL.next<|WP.ret<|PO.past nofun ?_
   exact PO.fin Tryz.results112 (Zd' Zf') (hK a m c)
  ·have hD0:0 < D.length:=by simp at h1;omega
   refine WP.own_open (n:=(A++D).length) (by omega) (by exact .z) ?_
   rintro b o c l rfl hnc hc hl hcs
   have hcA:(l.drop o).take (A.length * 2)=A.flatMap RowM.c:=by
    have:=congrArg (List.take (A.length * 2)) hcs
    rwa [List.take_take,Nat.min_eq_left (Nat.mul_le_mul_right _ (by omega)),List.flatMap_append,List.take_left' (Yg' rowE A)] at this
   have hA0:At (XO' (.slice (some ⟨b,o,none⟩) (A++D).length c) 0 A.length c 2) b o A.length c:=by have:=(At.lit (b:=b) (o:=o) hnc).sub (lo:=0) (hi:=A.length) (m:=c) (z:=2) (by omega) (by omega) (Nat.le_refl _);simpa using this
   have hAD:At (XO' (.slice (some ⟨b,o,none⟩) (A++D).length c) A.length (A++D).length c 2) b (o+A.length * 2) D.length (c - A.length):=by have:=(At.lit (b:=b) (o:=o) hnc).sub (lo:=A.length) (hi:=(A++D).length) (m:=c) (z:=2) (by omega) (by omega) (Nat.le_refl _);rwa [show (A++D).length - A.length=D.length by omega] at this
   refine WP.skip<|PO.next<|WP.seq<|WP.seq<|WP.reg<|WL.e Za'<|WL.e Za'<|WL.e (ZE' (c:=(((A++D).length+1:Nat):Int)) rfl rfl (by rw [Zt' (by omega) (by omega)];omega))<|WL.e Za'<|WL.e (Zos_ sl38 rfl (At.lit hnc))<|WL.e YY'<|WL.next ?_
   refine WP.cond rfl (fun h2=>?_) (fun h2=>?_)
   ·replace h2:c < (A++D).length+1:=by simp at h2;omega
    have hgro:∀ u,Own 105 2 u (A.length+(D.length+1)) ((l.drop o).take (A.length * 2)++(List.replicate (D.length+1) [.string .empty,.int .u32 0]).flatten)=Sl 105 2 RowM.c u (A++List.replicate (D.length+1) ⟨.empty,0⟩):=fun u=>by
     unfold Sl
     rw [hcA,List.flatMap_append,show (List.replicate (D.length+1) (⟨.empty,0⟩:RowM)).flatMap RowM.c=(List.replicate (D.length+1) [.string .empty,.int .u32 0]).flatten by simp [List.flatMap_replicate];rfl,List.length_append,List.length_replicate]
    refine WP.seq<|WP.reg<|WL.e Za'<|WL.e Za'<|WL.e (Xf' (lo:=0) (hi:=A.length) (m:=c) (c:=c) (n:=(A++D).length) sl38 rfl (At.lit hnc) (.inl ⟨rfl,rfl⟩) (.inr ⟨_,_,rfl,rfl⟩) (.inl ⟨rfl,rfl⟩) (by omega) (by omega) (Nat.le_refl _))<|WL.e Za'<|WL.e Za'<|WL.e (ZE' (c:=(((A++D).length+1:Nat):Int)) rfl rfl (by rw [Zt' (by omega) (by omega)];omega))<|WL.e Za'<|WL.e (Y9' (c:=((D.length+1:Nat):Int)) rfl rfl (by rw [Zt' (by omega) (by omega)];omega)) ?_
    refine WL.h (ZnL_ (n:=A.length) (c:=c) (k:=D.length+1) (b:=b) (o:=o) sl38 Tryz.underlying3 z105 rfl hA0 hl (by omega) (by omega) (by decide) (by decide) (fun a3 n3 c3=>?_))
    rw [hgro]
    refine WL.e Zb'<|WL.next<|WP.seq<|WP.reg<|WL.e Za'<|WL.e Za'<|WL.e (XV' (lo:=A.length) sl38 (Zr' (xs:=(A++List.replicate (D.length+1) ⟨.empty,0⟩))) (by simp))<|WL.e Za' ?_
    refine WL.h (ZaM_ (lo:=A.length) (xs:=(A++List.replicate (D.length+1) ⟨.empty,0⟩)) (ys:=[x]) sl38 rowE (by simp) (Z7' (b:=bv) (E:=105) (l:=RowM.c x) rowE [x] (by simp)) ?_)
    refine WL.next<|WP.seq<|WP.draws Zq' 9<|RW.e 0 rfl Za'<|RW.e 1 rfl Za'<|RW.e 2 rfl Za'<|RW.e 3 rfl (ZE' (c:=((A.length+1:Nat):Int)) rfl rfl (by rw [Zt' (by omega) (by omega)];omega))<|RW.e 4 rfl (XV' (lo:=A.length+1) sl38 (Zr' (xs:=over (A++List.replicate (D.length+1) ⟨.empty,0⟩) A.length [x])) (by rw [Vu' _ _ _ (by simp)];simp))<|RW.e 5 rfl Za'<|RW.e 6 rfl Za'<|RW.e 7 rfl (Xf' (lo:=A.length) (hi:=(A++D).length) (m:=c) (c:=c) (n:=(A++D).length) sl38 rfl (At.lit hnc) (.inr ⟨_,_,rfl,rfl⟩) (.inl ⟨rfl,rfl,rfl⟩) (.inl ⟨rfl,rfl⟩) (by omega) (by omega) (Nat.le_refl _)) ?_
    refine RW.any (is:=[8]) rfl ⟨?_,trivial⟩
    refine RWat.h rfl rfl rfl ?_
    refine (ZaM_ (lo:=A.length+1) (xs:=over (A++List.replicate (D.length+1) ⟨.empty,0⟩) A.length [x]) (ys:=D) (B:=cl b 105 l) sl38 rowE (by rw [Vu' _ _ _ (by simp)];simp) (ZcR_ rowE hAD (by have:(c - A.length) * 2=c * 2 - A.length * 2:=Nat.sub_mul _ _ _;have:=Nat.mul_le_mul_right 2 (show A.length≤c by omega);omega) rfl (by have:=congrArg (List.drop (A.length * 2)) hcs;rw [List.drop_take,Jw' rowE,List.drop_drop,← Nat.sub_mul,List.drop_left] at this;rwa [show (A++D).length - A.length=D.length by omega] at this)) ?_)
    refine ⟨trivial,?_⟩
    refine RW.done<|PO.next<|WP.seq<|WP.reg<|WL.e Za'<|WL.e Zb'<|WL.next<|WP.ret<|PO.past nofun ?_
    rw [Zk3_]
    exact PO.fin Tryz.results112 (Zd' Zf') (hK a3 n3 c3)
   ·replace h2:(A++D).length+1≤c:=by simp at h2;omega
    obtain ⟨ic1,ic2,ic3,ic4⟩:=Zjj_ (x:=x) rowE hl h2 hcs
    have hones:ones (((l.drop (o+A.length * 2)).take ((D.length+1) * 2)).take (Nat.min (D.length+1) D.length * 2))=true:=by rw [show Nat.min (D.length+1) D.length=D.length from Nat.min_eq_right (by omega),List.take_take,Nat.min_eq_left (Nat.mul_le_mul_right 2 (show D.length≤D.length+1 by omega)),ic4];exact Jx' rowE D
    have hmz:((A++D).length+1) * 2≤c * 2:=Nat.mul_le_mul_right _ h2
    have hA2:At (XO' (.slice (some ⟨b,o,none⟩) (A++D).length c) 0 ((A++D).length+1) c 2) b o ((A++D).length+1) c:=by have:=(At.lit (b:=b) (o:=o) hnc).sub (lo:=0) (hi:=(A++D).length+1) (m:=c) (z:=2) (by omega) h2 (Nat.le_refl _);simpa using this
    have hA3:At (XO' (XO' (.slice (some ⟨b,o,none⟩) (A++D).length c) 0 ((A++D).length+1) c 2) (A.length+1) ((A++D).length+1) c 2) b (o+(A.length+1) * 2) D.length (c - (A.length+1)):=by have:=hA2.sub (lo:=A.length+1) (hi:=(A++D).length+1) (m:=c) (z:=2) (by omega) h2 (Nat.le_refl _);rwa [show (A++D).length+1 - (A.length+1)=D.length by omega] at this
    have hOv:∃ o2,XO' (XO' (.slice (some ⟨b,o,none⟩) (A++D).length c) 0 ((A++D).length+1) c 2) (A.length+1) ((A++D).length+1) c 2=.slice (some ⟨b,o2,none⟩) D.length (c - (A.length+1)):=⟨_,by obtain ⟨y,hy,_,rfl | h⟩:=hA3;exact hy;omega⟩
    have hA4:At (XO' (XO' (.slice (some ⟨b,o,none⟩) (A++D).length c) 0 ((A++D).length+1) c 2) A.length ((A++D).length+1) c 2) b (o+A.length * 2) (D.length+1) (c - A.length):=by have:=hA2.sub (lo:=A.length) (hi:=(A++D).length+1) (m:=c) (z:=2) (by omega) h2 (Nat.le_refl _);rwa [show (A++D).length+1 - A.length=D.length+1 by omega] at this
    refine WP.skip<|PO.next<|WP.seq<|WP.reg<|WL.e Za'<|WL.e Za'<|WL.e Za'<|WL.e (ZE' (c:=(((A++D).length+1:Nat):Int)) rfl rfl (by rw [Zt' (by omega) (by omega)];omega))<|WL.e (Xf' (lo:=0) (hi:=(A++D).length+1) (m:=c) (c:=c) (n:=(A++D).length) sl38 rfl (At.lit hnc) (.inl ⟨rfl,rfl⟩) (.inr ⟨_,_,rfl,rfl⟩) (.inl ⟨rfl,rfl⟩) (by omega) h2 (Nat.le_refl _))<|WL.e Zb'<|WL.next<|WP.seq<|WP.seq<|WP.reg<|WL.e Za'<|WL.e Za'<|WL.e Za'<|WL.e Za'<|WL.e (ZE' (c:=((A.length+1:Nat):Int)) rfl rfl (by rw [Zt' (by omega) (by omega)];omega))<|WL.e (Xf' (lo:=A.length+1) (hi:=(A++D).length+1) (m:=c) (c:=c) (n:=(A++D).length+1) sl38 rfl hA2 (.inr ⟨_,_,rfl,rfl⟩) (.inl ⟨rfl,rfl,rfl⟩) (.inl ⟨rfl,rfl⟩) (by omega) h2 (Nat.le_refl _)) ?_
    refine WL.h (Zhv_ (U:=105) (l1:=RowM.c x) (l2:=l) (b1:=bv) (b2:=b) (n2:=D.length) (c2:=c - (A.length+1)) (n1:=1) (c1:=1) (o1:=0) Tryz.func124 ZmW_ ZmX_ ZmY_ ZmZ_ sl38 rfl hOv (by repeat first | exact .z | apply Pick.s) (by repeat first | exact .z | apply Pick.s) (by omega) ?_)
    refine WL.e Zx'<|WL.next<|WP.cond_t rfl<|WP.seq<|WP.draws Zq' 9<|RW.e 0 rfl Za'<|RW.e 1 rfl Za'<|RW.e 2 rfl Za'<|RW.e 3 rfl (ZE' (c:=((A.length+1:Nat):Int)) rfl rfl (by rw [Zt' (by omega) (by omega)];omega))<|RW.e 4 rfl (Xf' (lo:=A.length+1) (hi:=(A++D).length+1) (m:=c) (c:=c) (n:=(A++D).length+1) sl38 rfl hA2 (.inr ⟨_,_,rfl,rfl⟩) (.inl ⟨rfl,rfl,rfl⟩) (.inl ⟨rfl,rfl⟩) (by omega) h2 (Nat.le_refl _))<|RW.e 5 rfl Za'<|RW.e 6 rfl Za'<|RW.e 7 rfl (Xf' (lo:=A.length) (hi:=(A++D).length+1) (m:=c) (c:=c) (n:=(A++D).length+1) sl38 rfl hA2 (.inr ⟨_,_,rfl,rfl⟩) (.inl ⟨rfl,rfl,rfl⟩) (.inl ⟨rfl,rfl⟩) (by omega) h2 (Nat.le_refl _)) ?_
    refine RW.any (is:=[8]) rfl ⟨?_,trivial⟩
    refine RWat.h rfl rfl rfl ?_
    refine (Zel_ (n:=D.length) (c:=c - (A.length+1)) (k:=D.length+1) (o:=o+(A.length+1) * 2) (U:=105) (l:=l) (ds:=(l.drop (o+A.length * 2)).take ((D.length+1) * 2)) (B:=cl b 105 l) sl38 hA3 (by have:(c - (A.length+1)) * 2=c * 2 - (A.length+1) * 2:=Nat.sub_mul _ _ _;have:=Nat.mul_le_mul_right 2 (show A.length+1≤c by omega);omega) (hA4.rd (by have:(c - A.length) * 2=c * 2 - A.length * 2:=Nat.sub_mul _ _ _;have:=Nat.mul_le_mul_right 2 (show A.length≤c by omega);omega)) hones ?_)
    rw [show Nat.min (D.length+1) D.length=D.length from Nat.min_eq_right (by omega),List.take_take,Nat.min_eq_left (Nat.mul_le_mul_right 2 (show D.length≤D.length+1 by omega)),ic4]
    refine ⟨trivial,?_⟩
    refine RW.done<|PO.next<|WP.seq<|WP.reg<|WL.e Za'<|WL.e Za'<|WL.e (Xf' (lo:=A.length) (hi:=(A++D).length+1) (m:=c) (c:=c) (n:=(A++D).length+1) sl38 rfl hA2 (.inr ⟨_,_,rfl,rfl⟩) (.inl ⟨rfl,rfl,rfl⟩) (.inl ⟨rfl,rfl⟩) (by omega) h2 (Nat.le_refl _))<|WL.e Za' ?_
    refine WL.h (Zel_ (n:=D.length+1) (c:=c - A.length) (k:=1) (o:=o+A.length * 2) (U:=105) (l:=ZP' l (o+(A.length+1) * 2) (D.flatMap RowM.c)) (ds:=RowM.c x) (B:=cl bv 105 (RowM.c x)) sl38 hA4 (by rw [ic3];have:(c - A.length) * 2=c * 2 - A.length * 2:=Nat.sub_mul _ _ _;have:=Nat.mul_le_mul_right 2 (show A.length≤c by omega);omega) (Zhm_ (b:=bv) (n:=1) (c:=1) (o:=0) (z:=2) (Nat.le_refl 1) (by rw [rowE.len];omega) (by rw [List.drop_zero,List.take_of_length_le (by rw [rowE.len];omega)])) (U5' _ (rowE.one x)) ?_)
    rw [show Nat.min 1 (D.length+1)=1 from Nat.min_eq_left (by omega),List.take_of_length_le (show (RowM.c x).length≤1 * 2 by rw [rowE.len];omega)]
    refine WL.next<|WP.seq<|WP.reg<|WL.e Za'<|WL.e Zb'<|WL.next<|WP.ret<|PO.past nofun ?_
    refine PO.cls (A:=Sl 105 2 RowM.c (XO' (.slice (some ⟨b,o,none⟩) (A++D).length c) 0 ((A++D).length+1) c 2) (A++x::D)) (B:=[cl b 105 _]) (fun S h=>?_) ?_
    ·have h:=Zdp_ h
     unfold Sl
     rw [show (A++x::D).length=(A++D).length+1 by simp;omega]
     refine ZbT_ hA2 hc ?_ ?_ S h
     ·rw [ic2];exact hl
     ·exact ic1
    exact PO.fin Tryz.results112 (Zd' Zf') (hK _ _ _)
end Go.SL
namespace Go.SL.Fc
open Go Go.Proofs Go.SL
theorem a130:ZK' Tryz.prog 130=some none:=by kernel_rfl
theorem Zjt_:ZO' Tryz.prog 105 1=some 1:=by kernel_rfl
theorem k110:Zh' Tryz.prog 110=true:=by kernel_rfl
theorem k111:Zh' Tryz.prog 111=true:=by kernel_rfl
theorem k112:Zh' Tryz.prog 112=true:=by kernel_rfl
theorem k185:Zh' Tryz.prog 185=true:=by kernel_rfl
theorem k191:Zh' Tryz.prog 191=true:=by kernel_rfl
theorem k30:Zh' Tryz.prog 30=true:=by kernel_rfl
theorem k80:Zh' Tryz.prog 80=true:=by kernel_rfl
theorem k81:Zh' Tryz.prog 81=true:=by kernel_rfl
theorem k82:Zh' Tryz.prog 82=true:=by kernel_rfl
theorem k83:Zh' Tryz.prog 83=true:=by kernel_rfl
theorem p105:Ya' Tryz.prog 105=some [(0,1),(1,1)]:=by kernel_rfl
theorem s105:szOf Tryz.prog 105=some 2:=by kernel_rfl
theorem s38:szOf Tryz.prog 38=some 1:=by kernel_rfl
theorem z38:ZH' Tryz.prog 38=some [.slice none 0 0]:=by kernel_rfl
end Go.SL.Fc
namespace Go.SL
open Go Go.Proofs Fc
theorem Zju_ {g:World} {u:Value} {xs:List RowM} {i:Nat} {x:RowM} {bv:Nat} (hi:i≤xs.length) (hn:xs.length≤68719476000) :
  Spec Tryz.prog g 112 [u,.int .i64 i,.slice (some ⟨bv,0,none⟩) 1 1] [Sl 105 2 RowM.c u xs,cl bv 105 (RowM.c x)] fun K R=>∀ a m c,K (.slice a m c) (Sl 105 2 RowM.c (.slice a m c) (xs.take i++x::xs.drop i)::R):=by
 have h:=ZfW_ (g:=g) (u:=u) (A:=xs.take i) (D:=xs.drop i) (x:=x) (bv:=bv) (by rw [List.take_append_drop];exact hn)
 rw [List.take_append_drop,List.length_take_of_le hi] at h
 exact h
theorem ZeP_ {g:World} {p:Nat} {l:List RowM} (k:ByteArray) (v:UInt32) (hl:ZC' l) (hn:l.length≤68719476000):Spec Tryz.prog g 83 [.pointer (some ⟨p,0,none⟩),.string k,.int .u32 v.toNat] [Mm p l] fun K R=>K (.tuple #[]) (Mm p (setR l k v)::R):=by
 refine Spec.intro Tryz.func83 rfl Tryz.ntmps83 rfl fun R K hK=>?_
 refine WP.seq<|WP.reg<|WL.e Za'<|WL.e Za' ?_
 refine WL.h (Zg' (Zac_ k hl (by omega)) k110 ?_)
 refine WL.e Za'<|WL.e Ze'<|WL.e Ze'<|WL.e Zb'<|WL.e Zb'<|WL.next<|WP.seq<|WP.seq<|WP.reg<|WL.e Za'<|WL.e Zx'<|WL.next ?_
 refine WP.cond rfl (fun h1=>?_) (fun h1=>?_)
 ·replace h1:hasI l k=false:=by simpa using h1
  have hle:=ZaO_ l k
  refine WP.opn (Uw' (p:=p) (l:=l)) fun s=>?_
  refine WP.reg<|WL.e Za'<|WL.e Za'<|WL.e Zk'<|WL.e (e_fa K7')<|WL.e (Zc' a38)<|WL.e Za'<|WL.e Za'<|WL.e (Zv' z105 p105 (.o (.tmp 22) rfl<|.z (.int .u32 0)<|.n)) ?_
  refine WL.h (h_bs sl38 z105 (.a2 (.tmp 23) rfl<|.n) fun b1=>?_)
  refine WL.h (Zg' (Zju_ (i:=lowI l k) (xs:=l) (x:=⟨k,0⟩) hle hn) k112 ?_)
  intro a m c
  refine WL.e Zk'<|WL.e (e_fa K7') ?_
  refine WL.h' (Zj' s38 ?_)
  refine WL.next<|WP.reg<|WL.e Za'<|WL.e Zk'<|WL.e (e_fa K7')<|WL.e (Zc' a38)<|WL.e Za'<|WL.e Za'<|WL.e (ZZ' (j:=lowI l k) (xs:=l.take (lowI l k)++⟨k,0⟩::l.drop (lowI l k)) sl38 Zr' (by simp;omega))<|WL.e (Q9' (z:=2) (j:=lowI l k) (xs:=l.take (lowI l k)++⟨k,0⟩::l.drop (lowI l k)) Zjt_ Zr' (by simp;omega)) ?_
  refine WL.h' (ZbX_ (y:=0) (j:=0) (f:=lowI l k * 2+1) (n:=(l.take (lowI l k)++⟨k,0⟩::l.drop (lowI l k)).length) (z:=2) (E:=105) (cs:=(l.take (lowI l k)++⟨k,0⟩::l.drop (lowI l k)).flatMap RowM.c) s24 (by simp;omega) ?_ rfl)
  rw [VO' (xs:=l.take (lowI l k)++⟨k,0⟩::l.drop (lowI l k)) (a:=⟨k,0⟩) (a':=⟨k,v⟩) rowE (by rw [List.getElem?_append_right (by simp;omega)];simp [Nat.min_eq_left hle]) (by decide) rfl]
  refine WL.nil ?_
  rw [ZmU_ (by simp;omega),show l.take (lowI l k)++⟨k,v⟩::l.drop (lowI l k)=setR l k v by rw [setR,if_neg (by simp [h1])]]
  refine PO.cls (A:=Mm p (setR l k v)) (B:=[cl p 173 [.slice a m c,.bool true],Own 105 2 (.slice a m c) _ _]) (fun S h=>⟨⟨a,m,c⟩,by unfold Sl;rwa [show (setR l k v).length=(l.take (lowI l k)++⟨k,0⟩::l.drop (lowI l k)).length by rw [setR,if_neg (by simp [h1])];simp]⟩) ?_
  exact PO.fin Tryz.results83 Zf' hK
 ·replace h1:hasI l k=true:=by simpa using h1
  refine WP.opn (Uw' (p:=p) (l:=l)) fun s=>?_
  refine WP.skip<|PO.next<|WP.reg<|WL.e Za'<|WL.e Zk'<|WL.e (e_fa K7')<|WL.e (Zc' a38)<|WL.e Za'<|WL.e Za'<|WL.e (ZZ' (j:=lowI l k) (xs:=l) sl38 Zr' (Zcb_ h1))<|WL.e (Q9' (z:=2) (j:=lowI l k) (xs:=l) Zjt_ Zr' (Zcb_ h1)) ?_
  obtain ⟨u,hu⟩:=ZeC_ h1
  refine WL.h' (ZbX_ (y:=0) (j:=0) (f:=lowI l k * 2+1) (n:=l.length) (z:=2) (E:=105) (cs:=l.flatMap RowM.c) s24 (by have:=Zcb_ h1;omega) ?_ rfl)
  rw [VO' (xs:=l) (a:=⟨k,u⟩) (a':=⟨k,v⟩) rowE hu (by decide) rfl]
  refine WL.nil ?_
  rw [show l.set (lowI l k) ⟨k,v⟩=setR l k v by rw [setR,if_pos h1]]
  refine PO.cls (A:=Mm p (setR l k v)) (B:=[cl p 173 [s.v,.bool true],Own 105 2 s.v _ _]) (fun S h=>⟨s,by unfold Sl;rwa [show (setR l k v).length=l.length by rw [setR,if_pos h1];simp]⟩) ?_
  exact PO.fin Tryz.results83 Zf' hK
theorem Zjv_ {g:World} {p:Nat} {l:List RowM} (k:ByteArray) (hl:ZC' l) (hn:l.length≤68719476000):Spec Tryz.prog g 82 [.pointer (some ⟨p,0,none⟩),.string k] [Mm p l] fun K R=>K (.bool (hasI l k)) (Mm p (Jl' l k)::R):=by
 refine Spec.intro Tryz.func82 rfl Tryz.ntmps82 rfl fun R K hK=>?_
 refine WP.seq<|WP.reg<|WL.e Zb'<|WL.next<|WP.seq<|WP.reg<|WL.e Za'<|WL.e Za' ?_
 refine WL.h (Zg' (Zac_ k hl (by omega)) k110 ?_)
 refine WL.e Za'<|WL.e Ze'<|WL.e Ze'<|WL.e Zb'<|WL.e Zb'<|WL.next<|WP.seq<|WP.seq<|WP.reg<|WL.e Za'<|WL.next ?_
 refine WP.cond rfl (fun h1=>?_) (fun h1=>?_)
 ·obtain ⟨u,hu⟩:=ZeC_ h1
  refine WP.opn (Uw' (p:=p) (l:=l)) fun s=>?_
  refine WP.reg<|WL.e Za'<|WL.e Za'<|WL.e Zk'<|WL.e (e_fa K7')<|WL.e (Zc' a38)<|WL.e Za'<|WL.e Za'<|WL.e (ZE' (c:=((lowI l k+1:Nat):Int)) rfl rfl (by have:=Zcb_ h1;rw [Zt' (by omega) (by omega)];omega)) ?_
  refine WL.h (Zg' (ZfV_ (i:=lowI l k) (xs:=l) hu (by omega)) k111 ?_)
  intro a m c
  refine WL.e Zk'<|WL.e (e_fa K7') ?_
  refine WL.h' (Zj' s38 ?_)
  refine WL.next<|WP.seq<|WP.reg<|WL.e Za'<|WL.e Zb'<|WL.next<|WP.ret ?_
  rw [show l.eraseIdx (lowI l k)=Jl' l k by rw [Jl',if_pos h1]]
  refine PO.cls (A:=Mm p (Jl' l k)) (B:=[cl p 173 [.slice a m c,.bool true],Sl 105 2 RowM.c (.slice a m c) (Jl' l k)]) (fun S h=>⟨⟨a,m,c⟩,h⟩) ?_
  exact PO.fin Tryz.results82 (Zd' Zf') hK
 ·rw [Jl',if_neg (by simp [h1])] at hK
  refine WP.skip<|PO.next<|WP.seq<|WP.reg<|WL.e Za'<|WL.e Zb'<|WL.next<|WP.ret ?_
  exact PO.fin Tryz.results82 (Zd' Zf') hK
theorem Kw' {g:World} {A:HP} {u:Value} {p:Nat} {l:List RowM} {cs:List ChgM} (hA:RL A 3 ChgM.c u cs) (hl:ZC' l) (hn:l.length+cs.length≤68719476000):Spec Tryz.prog g 59 [.pointer (some ⟨p,0,none⟩),u] [Mm p l,A] fun K R=>(cs.any (fun c=>!ZR' c)=true→K (.int .i64 1) (Mm p l::A::R))∧(cs.any (fun c=>!ZR' c)=false→K (.int .i64 0) (Mm p (Zw' l cs)::A::R)):=by
 refine Spec.intro Tryz.func59 rfl Tryz.ntmps59 rfl fun R K hK=>?_
 refine WP.seq<|WP.reg<|WL.e Zb'<|WL.next<|WP.seq<|WP.seq<|WP.reg<|WL.e Za' ?_
 refine WL.h (Zg' (Ku') k79 ?_)
 refine WL.e Zx'<|WL.next<|WP.cond_f rfl<|WP.skip<|PO.next<|WP.seq<|WP.seq<|WP.reg<|WL.e Za'<|WL.conv (fun S h=>Yt' trivial h) ?_
 refine WL.h (Zg' (Uj' (B:=pu True) hA (by omega) (fun x=>CallV.more (CallV.of_spec (fs:=[]) (cs:=[]) (Zk2_ x) k81))) k80 ?_)
 refine WL.next ?_
 refine WP.cond rfl (fun h1=>?_) (fun h1=>?_)
 ·skip
  refine WP.seq<|WP.reg<|WL.e Zb'<|WL.next<|WP.ret<|PO.past nofun ?_
  exact PO.fin Tryz.results59 (Zd' Zf') (hK.1 h1)
 ·skip
  refine WP.skip<|PO.next<|WP.seq<|WP.seq<|WP.reg<|WL.e Za'<|WL.e (ZD' Yw' hA)<|WL.e Za'<|WL.next<|WP.block<|WP.loopK (fun (i:Nat)=>[(14,.int .i64 i)]) (fun (i:Nat)=>Mm p (Zw' l (cs.take i))::A::R) [(0,_),(4,_),(12,_),(13,_)] (fun (i:Nat)=>i≤cs.length) (fun (i:Nat)=>cs.length - i) 0 (Nat.zero_le _) ?_
  intro i hi
  refine WP.seq<|WP.reg<|WL.e Z3'<|WL.next<|WP.seq ?_
  refine WP.cond rfl (fun h2=>?_) (fun h2=>?_)
  ·have hlt:i < cs.length:=by rw [decide_eq_true_eq] at h2;omega
   obtain ⟨c,hc⟩:∃ c,cs[i]?=some c:=⟨_,List.getElem?_eq_getElem hlt⟩
   obtain ⟨hr1,hr2⟩:=ZS' (cs.take i) hl
   rw [List.length_take] at hr2
   refine WP.skip<|PO.next<|WP.seq<|WP.block<|WP.seq<|WP.reg<|WL.e (ZZ' Yw' hA hlt)<|WL.e (YA' (a:=c) a179 chgE hA hc) ?_
   refine WL.h (Zu' z179 fun b1=>?_)
   refine WL.h' (Zj' s179 ?_)
   refine WL.next<|WP.seq<|WP.reg<|WL.e (e_fa QU')<|WL.e (Zc' a4)<|WL.next ?_
   refine WP.cond rfl (fun h3=>?_) (fun h3=>?_)
   ·skip
    refine WP.reg<|WL.e Za'<|WL.e (e_fa XC')<|WL.e (Zc' a9) ?_
    refine WL.h (Zg' (Zjv_ c.key hr1 (by omega)) k82 ?_)
    refine WL.nil<|PO.blockN<|PO.next<|WP.reg<|WL.e (ZE' rfl rfl (Zt' (by omega) (by omega)))<|WL.e Za'<|WL.nil ?_
    rw [show Jl' (Zw' l (cs.take i)) c.key=Zw' l (cs.take (i+1)) by rw [ZA' hc,XZ',XL',if_pos h3]]
    exact PO.againK (i+1) (by omega) (by omega)
   ·skip
    refine WP.reg<|WL.e Za'<|WL.e (e_fa XC')<|WL.e (Zc' a9)<|WL.e (e_fa Y4')<|WL.e (Zc' a24) ?_
    refine WL.h (Zg' (ZeP_ c.key c.val hr1 (by omega)) k83 ?_)
    refine WL.nil<|PO.blockN<|PO.next<|WP.reg<|WL.e (ZE' rfl rfl (Zt' (by omega) (by omega)))<|WL.e Za'<|WL.nil ?_
    rw [show setR (Zw' l (cs.take i)) c.key c.val=Zw' l (cs.take (i+1)) by rw [ZA' hc,XZ',XL',if_neg (by simp [h3])]]
    exact PO.againK (i+1) (by omega) (by omega)
  ·rw [List.take_of_length_le (show cs.length≤i by rw [decide_eq_false_iff_not] at h2;omega)]
   refine WP.exit<|PO.past nofun<|PO.round nofun<|PO.blockX<|PO.next<|WP.seq<|WP.reg<|WL.e Zb'<|WL.next<|WP.ret ?_
   exact PO.fin Tryz.results59 (Zd' Zf') (hK.2 h1)
def rowV (r:RowM):List Value:=[r.v]
theorem Zm0_ {g:World} {c1 c2 p:Nat} {s:SpanM} {l:List RowM} (hl:ZC' l) (hn:l.length≤68719476000) :
  Iter Tryz.prog g 191 (fun y=>[]++[y]++[.pointer (some ⟨c1,0,none⟩),.pointer (some ⟨c2,0,none⟩)]) [cl c1 130 [.pointer (some ⟨p,0,none⟩)],cl c2 45 [.string s.a,.string s.b],Mm p l] rowV (fun _=>pu True) (fun xs=>xs=(l.filter fun r=>ZW' s r.key)) (fun pre=>pre <+: (l.filter fun r=>ZW' s r.key)) [Mm p l]:=by
 intro y J X cont hy
 refine Spec.intro Tryz.func191 rfl Tryz.ntmps191 rfl fun R K hK=>?_
 refine WP.seq<|WP.seq<|WP.reg<|WL.e (Zc' a130) ?_
 refine WL.h (Zg' (Ku') k79 ?_)
 refine WL.e Zx'<|WL.e Za' ?_
 refine WL.bool 11 rfl (fun h=>?_) (fun h=>?_)
 ·cases h 
 ·skip
  refine WL.e (Zm' a45)<|WL.e (Zm' a45) ?_
  refine WL.h (Zg' (Y8' ⟨_,_⟩ ⟨_,_⟩) k30 ?_)
  refine WL.e Zx'<|WL.e Zl'<|WL.next ?_
  refine WP.cond rfl (fun h1=>?_) (fun h1=>?_)
  ·replace h1:meet s s=false:=by simpa using h1
   refine WP.ret<|PO.past nofun ?_
   exact PO.fin Tryz.results191 Zf' (hK.1 [] (Zjl_ h1).symm Hist.nil)
  ·replace h1:meet s s=true:=by simpa using h1
   refine WP.skip<|PO.next<|WP.seq<|WP.reg<|WL.e (Zc' a130)<|WL.e (e_fa ZbW_)<|WL.e (Zc' a9) ?_
   refine WL.h (Zg' (Zac_ s.a hl (by omega)) k110 ?_)
   refine WL.opn (Uw' (p:=p) (l:=l)) fun sv=>?_
   have hD:RL (Sl 105 2 RowM.c sv.v l) 2 RowM.c (subV sv.v (lowI l s.a) l.length none 2) (l.drop (lowI l s.a)):=RL.from_ rowE Zr' (ZaO_ l s.a)
   have hDl:(l.drop (lowI l s.a)).length≤l.length:=by simp
   refine WL.e Za'<|WL.e Ze'<|WL.e Ze'<|WL.e Zb'<|WL.e Zb'<|WL.next<|WP.seq<|WP.reg<|WL.e (Zc' a130)<|WL.e Zk'<|WL.e (e_fa K7')<|WL.e (Zc' a38)<|WL.e Za'<|WL.e (XV' (lo:=lowI l s.a) (xs:=l) sl38 Zr' (ZaO_ l s.a))<|WL.e (ZD' (xs:=(l.drop (lowI l s.a))) sl38 hD)<|WL.e Za'<|WL.next<|WP.block<|WP.loopK (fun (k:Nat)=>[(31,.int .i64 k)]) (fun (k:Nat)=>J ((l.drop (lowI l s.a)).take k)::cl p 173 [sv.v,.bool true]::Sl 105 2 RowM.c sv.v l::cl c1 130 [.pointer (some ⟨p,0,none⟩)]::cl c2 45 [.string s.a,.string s.b]::R) [(0,_),(2,_),(29,_),(30,_)] (fun (k:Nat)=>k≤(l.drop (lowI l s.a)).length∧(∀ r ∈ (l.drop (lowI l s.a)).take k,(!sLt s.b r.key)=true)∧Hist cont ((l.drop (lowI l s.a)).take k)) (fun (k:Nat)=>(l.drop (lowI l s.a)).length - k) 0 (⟨Nat.zero_le _,by simp,by simpa using Hist.nil⟩) ?_
   rintro k ⟨hk1,hk2,hk3⟩
   refine WP.seq<|WP.reg<|WL.e Z3'<|WL.next<|WP.seq ?_
   refine WP.cond rfl (fun h2=>?_) (fun h2=>?_)
   ·have hlt:k < (l.drop (lowI l s.a)).length:=by rw [decide_eq_true_eq] at h2;omega
    obtain ⟨x,hx⟩:∃ x,(l.drop (lowI l s.a))[k]?=some x:=⟨_,List.getElem?_eq_getElem hlt⟩
    refine WP.skip<|PO.next<|WP.seq<|WP.block<|WP.seq<|WP.reg<|WL.e (ZZ' (j:=k) (xs:=(l.drop (lowI l s.a))) sl38 hD hlt)<|WL.e (YA' (a:=x) a105 rowE hD hx) ?_
    refine WL.h (Zu' z105 fun b1=>?_)
    refine WL.h' (Zj' s105 ?_)
    refine WL.next<|WP.seq<|WP.reg<|WL.e (e_fa Zez_)<|WL.e (Zc' a9)<|WL.e (e_fa Zhw_)<|WL.e (Zc' a9)<|WL.e Zmo_<|WL.e Za' ?_
    refine WL.bool 40 rfl (fun h3=>?_) (fun h3=>?_)
    ·rw [Zjm_] at h3
     refine WL.skip<|WL.skip<|WL.skip<|WL.skip<|WL.e Zn'<|WL.next<|WP.cond_t rfl<|WP.ret<|PO.blockR<|PO.past nofun<|PO.round nofun<|PO.blockR<|PO.cls (A:=Mm p l) (B:=[cl p 173 [sv.v,.bool true],Sl 105 2 RowM.c (sv.v) l]) (fun S h=>⟨sv,h⟩) ?_
     exact PO.fin Tryz.results191 Zf' (hK.1 _ (by rw [← ZcS_ hl];exact (ZgL_ hk2 hx (by simp [h3])).symm) hk3)
    ·rw [Zjm_] at h3
     have hpf:(l.drop (lowI l s.a)).take k++[x] <+: (l.filter fun r=>ZW' s r.key):=by rw [← ZcS_ hl];exact ZgM_ hk2 hx (by simp [h3])
     refine WL.e Za'<|WL.e (Zm' a105) ?_
     refine WL.h (HO.conv (fun S h=>Yt' trivial h) (YE' (hy ((l.drop (lowI l s.a)).take k) x hpf hk3) ?_))
     refine ⟨fun hc=>?_,fun hc=>?_⟩
     ·skip
      refine WL.e Zx'<|WL.e Zl'<|WL.next<|WP.cond_f rfl<|WP.skip<|PO.blockN<|PO.next<|WP.reg<|WL.e (ZE' rfl rfl (Zt' (by omega) (by omega)))<|WL.e Za'<|WL.nil ?_
      rw [← ZA' hx]
      exact PO.againK (k+1) ⟨by omega,by rw [ZA' hx];intro r hr;rcases List.mem_append.1 hr with h | h;exact hk2 r h;simp at h;subst h;simpa using h3,by rw [ZA' hx];exact hk3.snoc hc⟩ (by omega)
     ·skip
      refine WL.e Zx'<|WL.e Zl'<|WL.next<|WP.cond_t rfl<|WP.ret<|PO.blockR<|PO.past nofun<|PO.round nofun<|PO.blockR<|PO.cls (A:=Mm p l) (B:=[cl p 173 [sv.v,.bool true],Sl 105 2 RowM.c (sv.v) l]) (fun S h=>⟨sv,h⟩) ?_
      exact PO.fin Tryz.results191 Zf' (hK.2 _ x hpf hk3 hc)
   ·have hall:(l.drop (lowI l s.a)).take k=(l.filter fun r=>ZW' s r.key):=by rw [← ZcS_ hl,List.take_of_length_le (by rw [decide_eq_false_iff_not] at h2;omega),ZnU_];intro r hr;exact hk2 r (by rw [List.take_of_length_le (by rw [decide_eq_false_iff_not] at h2;omega)];exact hr)
    refine WP.exit<|PO.past nofun<|PO.round nofun<|PO.blockX<|PO.cls (A:=Mm p l) (B:=[cl p 173 [sv.v,.bool true],Sl 105 2 RowM.c (sv.v) l]) (fun S h=>⟨sv,h⟩) ?_
    exact PO.fin Tryz.results191 Zf' (hK.1 _ hall hk3)
theorem Zm1_ {g:World} {p:Nat} (s:SpanM):Spec Tryz.prog g 185 [.pointer (some ⟨p,0,none⟩),s.v] [] fun K R=>∀ c1 c2,K (.func (.func 191) #[] #[.pointer (some ⟨c1,0,none⟩),.pointer (some ⟨c2,0,none⟩)]) (cl c1 130 [.pointer (some ⟨p,0,none⟩)]::cl c2 45 [.string s.a,.string s.b]::R):=by
 refine Spec.intro Tryz.func185 rfl Tryz.ntmps185 rfl fun R K hK=>?_
 refine WP.seq<|WP.reg ?_
 refine WL.h (ZL' fun b1=>?_)
 refine WL.h (ZL' fun b2=>?_)
 refine WL.e Zb'<|WL.next<|WP.seq<|WP.reg<|WL.e Ym'<|WL.e Zb'<|WL.next<|WP.ret ?_
 exact PO.fin Tryz.results185 (Zd' Zf') (hK b1 b2)
def ScJ (b b2 most:Nat) (pre:List RowM):HP:=fun S=>∃ sv:SV,Zo' [cl b2 3 [.int .i64 most],cl b 38 [sv.v],Sl 105 2 RowM.c sv.v pre] S
def ScX (b b2 most:Nat) (pre:List RowM) (x:RowM) (j:Code):HP:=fun S=>∃ sv:{ sv:SV // j=.exit 0 },Zo' [cl b2 3 [.int .i64 most],cl b 38 [sv.1.v],Sl 105 2 RowM.c sv.1.v pre] S
theorem Zbw_ {α:Type} {most:Nat} {xs:List α} (h:Hist (fun (pre:List α) _=>pre.length < most) xs):xs.length≤most:=by
 rcases List.eq_nil_or_concat xs with rfl | ⟨l,x,rfl⟩
 ·simp
 ·have:=h l x [] (by simp);simp;omega
theorem KY' {g:World} {p:Nat} {l:List RowM} (s:SpanM) (most:Nat) (hl:ZC' l) (hn:l.length≤68719476000) (hm:most≤68719476000):Spec Tryz.prog g 170 [.pointer (some ⟨p,0,none⟩),s.v,.int .i64 most] [Mm p l] fun K R=>∀ a m c,K (.slice a m c) (Sl 105 2 RowM.c (.slice a m c) (ZT' l s most)::Mm p l::R):=by
 refine Spec.intro Tryz.func170 rfl Tryz.ntmps170 rfl fun R K hK=>?_
 refine WP.seq<|WP.reg ?_
 refine WL.h (ZL' fun b1=>?_)
 refine WL.h (ZL' fun b2=>?_)
 refine WL.h (Zu' z38 fun b3=>?_)
 refine WL.next<|WP.seq<|WP.seq<|WP.reg<|WL.e Za'<|WL.e (Zm' a45) ?_
 refine WL.h (Zg' (Zm1_ ⟨_,_⟩) k185 ?_)
 intro c1 c2
 refine WL.next<|WP.block<|WP.nils 105 2 RowM.c none ?_
 refine WP.cls (A:=ScJ b3 b2 most []) (B:=[cl b2 3 [.int .i64 most],cl b3 38 [.slice none 0 0],Sl 105 2 RowM.c (.slice none 0 0) ([])]) (fun S h=>⟨⟨none,0,0⟩,h⟩) ?_
 refine WP.range (R:=?RR) (f:=191) (fs:=[]) (cs:=[.pointer (some ⟨c1,0,none⟩),.pointer (some ⟨c2,0,none⟩)]) (ScJ b3 b2 most) (ScX b3 b2 most) (fun pre _=>pre.length < most) (Zm0_ (c1:=c1) (c2:=c2) (p:=p) (s:=s) hl hn) k191 ?hLL ?_ ?_ ?_ (fun _=>rfl)
 case hLL=>repeat first | exact .nil | exact Pick.z | apply Pick.s | apply Split.cons
 ·rintro lb db fn tmps pre x R2 hp hh
  have hlen:=Zbw_ hh
  refine WP.opn (B:=fun sv:SV=>[cl b2 3 [.int .i64 most],cl b3 38 [sv.v],Sl 105 2 RowM.c (sv.v) (pre)]) (fun _ h=>h) fun sv=>?_
  refine WP.reg ?_
  refine WL.h (Zu' z105 fun b4=>?_)
  refine WL.h' (Zj' s105 ?_)
  refine WL.nil<|PO.asg rfl (by repeat first | exact .z | apply Put.s)<|WP.block<|WP.seq<|WP.seq<|WP.reg<|WL.e (Zc' a38)<|WL.e (ZD' (xs:=pre) sl38 Zr')<|WL.e (Zc' a3)<|WL.e YD'<|WL.next ?_
  refine WP.cond rfl (fun h1=>?_) (fun h1=>?_)
  ·skip
   refine WP.exit<|PO.past nofun<|PO.blockY rfl<|PO.cls (A:=ScX b3 b2 most pre x (.exit 0)) (B:=[cl b2 3 [.int .i64 most],cl b3 38 [sv.v],Sl 105 2 RowM.c (sv.v) (pre)]) (fun S h=>⟨⟨sv,rfl⟩,h⟩) ?_
   exact PO.rnd_exit (by rw [decide_eq_true_eq] at h1;omega) (by repeat first | exact .refl | exact Pick.z | apply Pick.s | apply Sub.cons | apply Sub.drop)
  ·skip
   refine WP.skip<|PO.next<|WP.reg<|WL.e (Zc' a38)<|WL.e (Zm' a105) ?_
   refine WL.h (h_bs sl38 z105 (.a2 (.tmp 17) rfl<|.n) fun b5=>?_)
   refine WL.h (ZG' (xs:=pre) (ys:=[x]) sl38 rowE z105 (Z7' rowE [x] rfl) (by simp;omega) (fun a2 n2 m2=>?_))
   refine WL.h' (Zj' s38 ?_)
   refine WL.nil<|PO.blockN<|PO.cls (A:=ScJ b3 b2 most (pre++[x])) (B:=[cl b2 3 [.int .i64 most],cl b3 38 [.slice a2 n2 m2],Sl 105 2 RowM.c (.slice a2 n2 m2) (pre++[x])]) (fun S h=>⟨⟨a2,n2,m2⟩,h⟩) ?_
   exact PO.rnd (by rw [decide_eq_false_iff_not] at h1;omega) (by repeat first | exact .refl | exact Pick.z | apply Pick.s | apply Sub.cons | apply Sub.drop)
 ·intro db xs hx hh
  subst hx
  have hlen:=Zbw_ hh
  rw [← show ZT' l s most=l.filter fun r=>ZW' s r.key from List.take_of_length_le hlen]
  refine PO.opn (B:=fun sv:SV=>[cl b2 3 [.int .i64 most],cl b3 38 [sv.v],Sl 105 2 RowM.c (sv.v) (ZT' l s most)]) (fun _ h=>h) fun sv=>?_
  refine PO.blockN<|PO.next<|WP.seq<|WP.reg<|WL.e (Zc' a38) ?_
  refine WL.h' (Zj' s38 ?_)
  refine WL.next<|WP.ret<|PO.sh (u:=sv.v) ?_
  intro a n c he
  rw [he]
  exact PO.finM (by repeat first | exact .z | apply Put.s) Tryz.results170 (YV' a38 Zf') (hK a n c)
 ·intro db pre x j hp hh hc
  have hlen:=Zbw_ hh
  refine WP.opn (B:=fun sv:{ sv:SV // j=.exit 0 }=>[cl b2 3 [.int .i64 most],cl b3 38 [sv.1.v],Sl 105 2 RowM.c (sv.1.v) (pre)]) (fun _ h=>h) fun sv=>?_
  obtain ⟨sv,rfl⟩:=sv
  obtain rfl:pre=ZT' l s most:=by
   obtain ⟨t,ht⟩:=hp
   rw [ZT',← ht,show most=pre.length by omega];simp
  refine WP.exit<|PO.blockX<|PO.next<|WP.seq<|WP.reg<|WL.e (Zc' a38) ?_
  refine WL.h' (Zj' s38 ?_)
  refine WL.next<|WP.ret<|PO.sh (u:=sv.v) ?_
  intro a n c he
  rw [he]
  exact PO.finM (by repeat first | exact .z | apply Put.s) Tryz.results170 (YV' a38 Zf') (hK a n c)
end Go.SL
set_option linter.unusedSectionVars false
namespace Go.SL
open Go
section
variable {P : Program} {r : Option Nat} {g : World} {Γ : Env} {L M : List HP} {Q : Post}
theorem WP.cutL {α:Type} {c d:Code} {n:Nat} {D:List Deferred} {l:List (Nat × Value)} (E:α→List (Nat × Value)) (H:α→List HP) (φ:α→Prop) (h:WP P r g c (Exit.then (Meet g n D (fun x=>(E x++l,H x)) φ) Q) ⟨n,D,l⟩ L) (hd:∀ x,φ x→WP P r g d Q ⟨n,D,E x++l⟩ (H x)) :
    WP P r g (.seq c d) Q ⟨n,D,l⟩ L:=WP.cut (fun x=>(E x++l,H x)) φ h hd
theorem WP.cutR {α:Type} {c d:Code} {n:Nat} {D:List Deferred} {l:List (Nat × Value)} (E:α→List (Nat × Value)) (H:α→List HP) (keep:List (Nat × Value)) (φ:α→Prop) (h:WP P r g c (Exit.then (Meet g n D (fun x=>(E x++keep,H x)) φ) Q) ⟨n,D,l⟩ L) (hd:∀ x,φ x→WP P r g d Q ⟨n,D,E x++keep⟩ (H x))
    (hl:EnvSub keep l:=by repeat first | exact EnvSub.nil | refine EnvSub.cons rfl ?_):WP P r g (.seq c d) Q ⟨n,D,l⟩ L:=WP.cut (fun x=>(E x++keep,H x)) φ h hd
theorem YN' {κ:Type} [DecidableEq κ] {ek:κ→Value} {dst:Option Tmp} {t:TypeId} {pos:String} {aft:Array Edge} {gd:Option (Nat × Bool)} {T:TypeId} {K:Value→List HP→Prop} (hK:∀ b,K (.map (some b)) (Mp ek (.map (some b)) ([]:List (κ × Value))::L)):HO P r g ⟨dst,.makeMap T none,t,pos,aft,gd⟩ Γ L K:=
  HO.run (by simp) fun a w _ hw=>by
    have h:=hw.push (.map #[] 0)
    obtain ⟨T1,T2,hd',m1,m2,hA1,hA2⟩:=h.heap
    refine ⟨.map (some w.heap.size),_,w.alloc (.map #[] 0),by simp [execOp,Instr.makeMap],hK _,h.os,h.tape,h.output,h.size,T1,T2,hd',m1,m2,⟨w.heap.size,[],0,rfl,hA1,rfl,by simp,by simp⟩,hA2⟩
end
end Go.SL
namespace Go.SL
open Go
def Old (w:World):HP:=fun S=>le (Yd' w) S
theorem Zm2_ (w:World):Sat w [Old w] w:=⟨rfl,rfl,rfl,Nat.le_refl _,Yd' w,fun _=>none,fun _=>.inr rfl,le_refl _,(fun _ _ h=>by cases h),le_refl _,trivial⟩
theorem Zjw_ {w w':World} (h:Sat w [Old w] w'):Go.RowKit.Below w.heap.size w w':=by
  refine ⟨h.os,h.tape,h.output,h.size,fun k hk=>?_⟩
  obtain ⟨S1,S2,_,h1,_,h2,_⟩:=h.heap
  have e:w.heap[k]?=some w.heap[k]:=Array.getElem?_eq_getElem hk
  rw [e]
  exact h1 _ _ (h2 _ _ e)
theorem ZeQ_ {n:Int} (h:(Lit.int .u32 n).wf=true):n=((UInt32.ofNat n.toNat).toNat:Int):=by
  simp only [Lit.wf,Bool.and_eq_true,decide_eq_true_eq] at h
  rw [show IntKind.u32.min=0 from rfl,show IntKind.u32.max=4294967295 from rfl] at h
  have:(UInt32.ofNat n.toNat).toNat=n.toNat:=by simp;omega
  omega
theorem ZhX_ {n:Int} (h:(Lit.int .u8 n).wf=true):n=((UInt8.ofNat n.toNat).toNat:Int):=by
  simp only [Lit.wf,Bool.and_eq_true,decide_eq_true_eq] at h
  rw [show IntKind.u8.min=0 from rfl,show IntKind.u8.max=255 from rfl] at h
  have:(UInt8.ofNat n.toNat).toNat=n.toNat:=by simp;omega
  omega
end Go.SL
namespace Go.SL
open Go
instance:DecidableEq RowM:=fun a b=>decidable_of_iff (a.key=b.key∧a.val=b.val) ⟨fun ⟨h1,h2⟩=>by cases a;cases b;simp_all,fun h=>by subst h;exact ⟨rfl,rfl⟩⟩
section
variable {P : Program} {r : Option Nat} {g : World} {Γ : Env} {L M : List HP} {dst : Option Tmp} {t : TypeId} {pos : String} {aft : Array Edge} {gd : Option (Nat × Bool)}
theorem Jy' {T:TypeId} (h:ZK' P T=some none) (cs:Array Value) (i:Nat) (v:Value) (hv:cs[i]?=some v) (w:World):(part T cs i).run P w=.ok v w:=by
  unfold part
  simp [VG' h,hv]
theorem Zm3_ {T T2 s u:TypeId} {b0 b1:Nat} {x y:Operand} {a b:RowM} (hT:P.underlying T=some (.struct #[⟨ "Key",s,0,false, "", "",b0⟩,⟨ "Value",u,1,false, "", "",b1⟩])) (hs:P.underlying s=some .string) (hu:P.underlying u=some (.int .u32))
    (hs1:ZK' P s=some none) (hu1:ZK' P u=some none) (hp:P.stoodInHeld T=false) (hm:P.eqGuardType P.depth T=false) (hx:ev Γ x=some a.v) (hy:ev Γ y=some b.v) :
    EO P g ⟨dst,.binOp .neq T x y T2,t,pos,aft,gd⟩ Γ L (.bool (!decide (a=b))):=Xl' hx hy fun w=>by
  have hf:P.fieldsOf T=#[⟨ "Key",s,0,false, "", "",b0⟩,⟨ "Value",u,1,false, "", "",b1⟩]:=by unfold Program.fieldsOf;rw [hT]
  have hE:∀ w,(Op.equalIn 10000 T (.agg #[.string a.key,.int .u32 a.val.toNat]) (.agg #[.string b.key,.int .u32 b.val.toNat])).run P w=.ok (decide (a=b)) w:=fun w=>by
    rw [show (10000:Nat)=9999+1 from rfl,run_equalIn_struct w 9999 T _ _ (by rw [hf];exact hT) hp,hf]
    simp only [Op.eqFields,Sem.run_bind]
    rw [if_pos (by decide)]
    simp only [Sem.run_bind]
    rw [Jy' hs1 _ 0 (.string a.key) rfl]
    simp only [Result.andThen_ok]
    rw [Jy' hs1 _ 0 (.string b.key) rfl]
    simp only [Result.andThen_ok]
    rw [show (9999:Nat)=9998+1 from rfl,run_equalIn_string w 9998 s a.key b.key hs]
    simp only [Result.andThen_ok]
    cases hk:a.key.toList == b.key.toList with
    | false=>
      simp
      intro e;subst e;simp at hk
    | true=>
      have hk':a.key=b.key:=by
        rw [← beq_toListBytes] at hk
        have:(a.key.data == b.key.data)=true:=hk
        rw [ByteArray.ext_iff];simpa using this
      simp only [Bool.not_true,Bool.false_eq_true,if_false]
      rw [if_pos (by decide)]
      simp only [Sem.run_bind]
      rw [Jy' hu1 _ 1 (.int .u32 a.val.toNat) rfl]
      simp only [Result.andThen_ok]
      rw [Jy' hu1 _ 1 (.int .u32 b.val.toNat) rfl]
      simp only [Result.andThen_ok]
      rw [run_equalIn_int w 9998 u .u32 .u32 _ _ hu]
      simp only [Result.andThen_ok,Zhu_]
      cases hv:a.val == b.val with
      | false=>
        simp
        intro e;subst e;simp at hv
      | true=>
        simp at hv
        simp
        cases a;cases b;simp_all
  show (do eqGuard .neq T x y (.agg #[.string a.key,.int .u32 a.val.toNat]) (.agg #[.string b.key,.int .u32 b.val.toNat]);binOp .neq T (.agg #[.string a.key,.int .u32 a.val.toNat]) (.agg #[.string b.key,.int .u32 b.val.toNat]):Sem Value).run P w=_
  rw [Sem.run_bind,run_eqGuard_agg w .neq T x y _ _ hm]
  simp only [Result.andThen_ok]
  rw [run_neq_struct,hE];rfl
end
end Go.SL
namespace Go.SL
open Go
theorem Zlg_ (m a b:UInt32):(if b < (if a < m then a else m) then b else (if a < m then a else m))=(if a < (if b < m then b else m) then a else (if b < m then b else m)):=by
 simp only [UInt32.lt_iff_toNat_lt]
 apply UInt32.toNat_inj.1
 repeat' split
 all_goals first | rfl | omega
def Xv' (nums:List (ByteArray × UInt32)) (num:UInt32) (p:SpanM):Bool:=nums.any fun x=>decide (num < x.2) && meet (one x.1) p
def setN (l:List (ByteArray × UInt32)) (k:ByteArray) (num:UInt32):List (ByteArray × UInt32):=match l.findIdx? (fun p=>decide (p.1=k)) with
 | some i=>l.set i (k,num)
 | none=>l++[(k,num)]
def JI' (nums:List (ByteArray × UInt32)) (num:UInt32) (cs:List ChgM):List (ByteArray × UInt32):=cs.foldl (fun l c=>setN l c.key num) nums
def numC (x:ByteArray × UInt32):ByteArray × Value:=(x.1,.int .u32 x.2.toNat)
theorem Zlh_ (l:List (ByteArray × UInt32)) (k:ByteArray) (num:UInt32):mset (l.map numC) k (.int .u32 num.toNat)=(setN l k num).map numC:=by
 have h:midx (l.map numC) k=l.findIdx? (fun p=>decide (p.1=k)):=by
  unfold midx;rw [List.findIdx?_map];rfl
 unfold mset setN
 rw [h]
 cases List.findIdx? (fun p:ByteArray × UInt32=>decide (p.1=k)) l with
 | none=>simp [numC]
 | some i=>simp [numC,List.map_set]
theorem Zcd_ (nums:List (ByteArray × UInt32)) (num:UInt32) (cs:List ChgM) (c:ChgM):JI' nums num (cs++[c])=setN (JI' nums num cs) c.key num:=by simp [JI']
def Ye' (x:UInt32 × SpanM):List Value:=[.int .u32 x.1.toNat,.string x.2.a,.string x.2.b]
theorem Vd':EncOk 3 Ye':=⟨fun _=>rfl,fun _=>rfl⟩
theorem Xw' {α β:Type} {f:α→β} {l:List α} {a b:List β} {y:β} (h:l.map f=a++y::b):∃ A t B,l=A++t::B∧a=A.map f∧y=f t∧b=B.map f:=by
 obtain ⟨A,C,rfl,h1,h2⟩:=List.map_eq_append_iff.1 h
 obtain ⟨t,B,rfl,h3,h4⟩:=List.map_eq_cons_iff.1 h2
 exact ⟨A,t,B,rfl,h1.symm,h3.symm,h4.symm⟩
theorem KZ' {α:Type} {l:List α} {x:α} (h:x ∈ l):∃ A B,l=A++x::B:=List.append_of_mem h
theorem VA' (A B:List (ByteArray × UInt32)) (x:ByteArray × UInt32) (n:UInt32) (p:SpanM):Xv' (A++x::B) n p=((decide (n < x.2) && meet (one x.1) p) || Xv' (A++B) n p):=by
 unfold Xv'
 simp only [List.any_append,List.any_cons]
 cases decide (n < x.2) && meet (one x.1) p <;> simp
def Z4' (x:OpM):ChgM:=if x.kind=2 then ⟨x.key,x.val,false⟩ else ⟨x.key,0,true⟩
theorem Zli_ (c:ChgM):6≤(chgB c).length∧(Yz' c.key=true→(chgB c).length≤22):=by
 simp only [chgB,YW',List.length_append,List.length_cons,List.length_nil,YJ',Yh']
 refine ⟨by omega,fun h=>?_⟩
 have:c.key.size≤16:=by
  unfold Yz' at h;simp at h;omega
 omega
theorem XK':∀ (l:List ChgM),6 * l.length≤(l.flatMap chgB).length∧((∀ c ∈ l,ZR' c=true)→(l.flatMap chgB).length≤22 * l.length)
 | []=>⟨by simp,by simp⟩
 | c::l=>by
  have h1:=Zli_ c
  have h2:=XK' l
  simp only [List.flatMap_cons,List.length_append,List.length_cons]
  refine ⟨by omega,fun h=>?_⟩
  have h3:=h1.2 (by have:=h c (by simp);unfold ZR' at this;simp at this;exact this.1)
  have h4:=h2.2 fun c hc=>h c (by simp [hc])
  omega
structure Quiet (d:DiskM):Prop where
 ok:d.ok
 len:d.sure.length=4096
 waits:d.waits=[]
theorem Quiet.add {d:DiskM} (h:Quiet d) (i:Nat) (b:List UInt8) (k:Nat):Quiet (addW d i b k).sync:=by
 have h1:=KW' k d i b h.ok
 have h2:=Zbq_ k d i b
 exact ⟨h1.sync,by show (addW d i b k).seen.length=4096;rw [h1.len,h2.1,h.len],rfl⟩
theorem YQ':Quiet (Z0' 4096):=⟨ZhF_ (by decide) (by decide),List.length_replicate,rfl⟩
theorem VB' {x:OpM} (h:opOk x=true) (hw:Zp' x=true):ZR' (Z4' x)=true:=by
 unfold opOk at h
 simp only [Bool.and_eq_true] at h
 unfold Z4'
 split <;> simp [ZR',h.1.1.2]
theorem Zjx_ (n:Nat) (h:64≤n):getF (List.replicate n 0)=none:=by
 unfold getF
 rw [if_neg (by simp;omega)]
 have e1:(beN ((List.replicate n (0:UInt8)).take 4)).toNat=0:=by
  rw [List.take_replicate,Nat.min_eq_left (by omega)];rfl
 simp only [e1]
 rw [if_neg (by decide),if_neg (by simp [secs];omega),if_neg]
 rw [List.take_zero,List.take_replicate,show secs 0 * 64=64 from rfl,Nat.min_eq_left h]
 decide
theorem Zao_ (n:Nat) (h:64≤n):recs (List.replicate n 0)=[]:=Zaa_ (Zjx_ n h)
theorem Zap_ (all:List UInt8) (d:DiskM) (lo:Nat):∀ k,(∀ j,j < k→(all.drop ((lo+j) * 64)).take 64=List.replicate 64 0)→YF' all d lo k=d
 | 0,_=>rfl
 | k+1,h=>by
  rw [YF',if_pos (h k (by omega))]
  exact Zap_ all d lo k fun j hj=>h j (by omega)
theorem VC' (n:Nat):(Z0' n).seen.flatten=List.replicate (n * 64) 0:=by
 show (List.replicate n (List.replicate 64 (0:UInt8))).flatten=_
 rw [List.flatten_replicate_replicate]
theorem Zdu_:YF' (Z0' 4096).seen.flatten (Z0' 4096) 0 4096=Z0' 4096:=Zap_ _ _ _ _ fun j hj=>by
 rw [VC',List.drop_replicate,List.take_replicate,Nat.min_eq_left (by omega)]
theorem Zaq_ (a b:SpanM):meet a b=meet b a:=by
 rw [Bool.eq_iff_iff,Qo',Qo']
 exact ⟨fun ⟨k,h1,h2⟩=>⟨k,h2,h1⟩,fun ⟨k,h1,h2⟩=>⟨k,h2,h1⟩⟩
theorem ZnY_ (k:ByteArray):meet (one k) (one k)=true:=Qo'.2 ⟨k,by simp [ZW',one,XG',Yr'],by simp [ZW',one,XG',Yr']⟩
abbrev sv0:SV:=⟨none,0,0⟩
def Ko' (k:ByteArray) (v:UInt32):OpM:=⟨2,k,.empty,v⟩
def J0' (k:ByteArray):OpM:=⟨1,k,.empty,0⟩
theorem Zdv_:sEq .empty ⟨#[]⟩=true:=by rw [XW'];rfl
theorem ZeR_ (k:ByteArray) (v:UInt32):opOk (Ko' k v)=Yz' k:=by simp [opOk,Ko',Zdv_]
theorem ZeS_ (k:ByteArray):opOk (J0' k)=Yz' k:=by simp [opOk,J0',Zdv_]
theorem Zlj_ (k:ByteArray):Zi' (J0' k)=one k:=rfl
theorem ZoA_ (k:ByteArray) (v:UInt32):Zp' (Ko' k v)=true:=rfl
theorem ZoB_ (k:ByteArray):Zp' (J0' k)=false:=rfl
def kA:ByteArray:=⟨#[97]⟩
theorem Zjy_ {a b:ByteArray} (h:a≠b):sEq a b=false:=by
 cases e:sEq a b with
 | false=>rfl
 | true=>exact absurd (XW'.1 e) h
theorem keyA:Yz' kA=true:=by
 have h1:sEq kA ⟨#[]⟩=false:=Zjy_ (by simp [kA])
 have h2:allR Xu' kA=true:=by decide +kernel
 simp only [Yz',h1,h2];rfl
def Jd' (rows:List RowM) (x:OpM):List RowM × List RowM:=
 if x.kind=1 then (ZT' rows (one x.key) 1,rows) else if x.kind=4 then (ZT' rows ⟨x.key,x.to⟩ 256,rows) else if x.kind=2 then ([],setR rows x.key x.val) else ([],Jl' rows x.key)
def runS (s:List (List RowM) × List RowM) (l:List OpM):List (List RowM) × List RowM:=l.foldl (fun s x=>(s.1++[(Jd' s.2 x).1],(Jd' s.2 x).2)) s
def runM (rows:List RowM) (l:List OpM):List (List RowM) × List RowM:=runS ([],rows) l
theorem Zbx_ (rows:List RowM):runM rows []=([],rows):=rfl
theorem Xk' (rows:List RowM) (l:List OpM) (x:OpM):runM rows (l++[x])=((runM rows l).1++[(Jd' (runM rows l).2 x).1],(Jd' (runM rows l).2 x).2):=by simp [runM,runS]
def VD' (l:List RowM):Prop:=∀ r ∈ l,Yz' r.key=true
theorem ZhY_ {rows:List RowM} (h:ZC' rows) (x:OpM):ZC' (Jd' rows x).2∧(Jd' rows x).2.length≤rows.length+1:=by
 unfold Jd'
 split
 ·exact ⟨h,Nat.le_succ _⟩
 ·split
  ·exact ⟨h,Nat.le_succ _⟩
  ·split
   ·exact ⟨(XT' h _ _).1,(XT' h _ _).2.2⟩
   ·exact ⟨(K8' h _).1,Nat.le_succ_of_le (K8' h _).2.2⟩
theorem KQ' {α:Type} {p:List α→Prop} (h0:p []) (h1:∀ l x,p l→p (l++[x])):∀ l,p l:=fun l=>by
 have:∀ n,p (l.take n):=fun n=>by
  induction n with
  | zero=>simpa using h0
  | succ n ih=>
   rcases Nat.lt_or_ge n l.length with h | h
   ·rw [ZA' (List.getElem?_eq_getElem h)];exact h1 _ _ ih
   ·rw [List.take_of_length_le (by omega)];rwa [List.take_of_length_le h] at ih
 have h:=this l.length
 rwa [List.take_length] at h
theorem Zdw_ {rows:List RowM} (h:ZC' rows):∀ l:List OpM,ZC' (runM rows l).2∧(runM rows l).2.length≤rows.length+l.length∧(runM rows l).1.length=l.length:=by
 refine KQ' ⟨h,by simp [Zbx_],rfl⟩ fun l x ⟨h1,h2,h3⟩=>?_
 rw [Xk']
 have:=ZhY_ h1 x
 exact ⟨this.1,by simp only [List.length_append,List.length_cons,List.length_nil];omega,by simp [h3]⟩
theorem Zlk_ {l:List RowM} (h:ZC' l) (k:ByteArray):ZT' l (one k) 256=ZT' l (one k) 1:=by
 unfold ZT'
 have:(l.filter fun r=>ZW' (one k) r.key).length≤1:=by
  have hk:∀ r:RowM,ZW' (one k) r.key=true→r.key=k:=fun r hr=>by
   unfold ZW' one at hr
   rw [XG'] at hr
   rcases Km' r.key k with h | h | h
   ·rw [hr.1] at h;cases h
   ·exact h
   ·rw [hr.2] at h;cases h
  cases e:l.filter fun r=>ZW' (one k) r.key with
  | nil=>simp
  | cons a m=>
   cases m with
   | nil=>simp
   | cons b m=>
    have hs:ZC' (a::b::m):=e ▸ h.sublist List.filter_sublist
    have ha:=hk a (List.mem_filter.1 (e ▸ List.mem_cons_self:a ∈ l.filter fun r=>ZW' (one k) r.key)).2
    have hb:=hk b (List.mem_filter.1 (e ▸ (by simp):b ∈ l.filter fun r=>ZW' (one k) r.key)).2
    have:=(List.pairwise_cons.1 hs).1 b (by simp)
    rw [ha,hb,Yr'] at this;cases this
 rw [List.take_of_length_le (by omega),List.take_of_length_le this]
theorem Zmx_ {x:OpM} (h:opOk x=true):(Zp' x=true∧(x.kind=2∨x.kind=3))∨(Zp' x=false∧(x.kind=1∨x.kind=4)):=by
 unfold opOk at h
 simp only [Bool.and_eq_true,decide_eq_true_eq] at h
 have h1:=h.1.1.1.1;have h2:=h.1.1.1.2
 have h3:x.kind=1∨x.kind=2∨x.kind=3∨x.kind=4:=by
  have:x.kind.toNat=1∨x.kind.toNat=2∨x.kind.toNat=3∨x.kind.toNat=4:=by omega
  rcases this with e | e | e | e
  ·exact .inl (UInt8.toNat_inj.1 e)
  ·exact .inr (.inl (UInt8.toNat_inj.1 e))
  ·exact .inr (.inr (.inl (UInt8.toNat_inj.1 e)))
  ·exact .inr (.inr (.inr (UInt8.toNat_inj.1 e)))
 rcases h3 with e | e | e | e <;> simp [Zp',e]
theorem JJ' {rows:List RowM} {x:OpM} (h:opOk x=true) (hw:Zp' x=true):Jd' rows x=([],XL' rows (Z4' x)):=by
 rcases Zmx_ h with ⟨_,e | e⟩ | ⟨hn,_⟩
 ·simp [Jd',e,Z4',XL']
 ·simp [Jd',e,Z4',XL']
 ·rw [hw] at hn;cases hn
theorem J8' {rows:List RowM} (hr:ZC' rows) {x:OpM} (h:opOk x=true) (hw:Zp' x=false):Jd' rows x=(ZT' rows (Zi' x) 256,rows):=by
 rcases Zmx_ h with ⟨hn,_⟩ | ⟨_,e | e⟩
 ·rw [hw] at hn;cases hn
 ·simp only [Jd',e,if_true,Zi',if_neg (show ¬ (1:UInt8)=4 by decide)]
  rw [show (⟨x.key,x.key⟩:SpanM)=one x.key from rfl,Zlk_ hr]
 ·simp only [Jd',e,if_neg (show ¬ (4:UInt8)=1 by decide),if_true,Zi']
structure Does (rows:List RowM) (own:List ChgM) (done:List OpM) (told:List (List RowM)):Prop where
 left:Zw' rows own=(runM rows done).2
 told:told=(runM rows done).1
 ok:∀ x ∈ done,opOk x=true
 own_le:own.length≤done.length
theorem Does.nil (rows:List RowM):Does rows [] [] []:=⟨rfl,rfl,by simp,Nat.le_refl _⟩
theorem Does.write {rows:List RowM} {own:List ChgM} {done:List OpM} {told:List (List RowM)} (h:Does rows own done told) {x:OpM} (hx:opOk x=true) (hw:Zp' x=true):Does rows (own++[Z4' x]) (done++[x]) (told++[[]]):=
 ⟨by rw [XZ',Xk',h.left,JJ' hx hw],by rw [Xk',JJ' hx hw,h.told],fun y hy=>by rcases List.mem_append.1 hy with hy | hy;exact h.ok y hy;simp at hy;subst hy;exact hx,by have:=h.own_le;simp;omega⟩
theorem Does.read {rows:List RowM} (hr:ZC' rows) {own:List ChgM} {done:List OpM} {told:List (List RowM)} (h:Does rows own done told) {x:OpM} (hx:opOk x=true) (hw:Zp' x=false):Does rows own (done++[x]) (told++[ZT' (Zw' rows own) (Zi' x) 256]):=by
 have h1:=(Zdw_ hr done).1
 exact ⟨by rw [Xk',J8' h1 hx hw,h.left],by rw [Xk',J8' h1 hx hw,h.told,h.left],fun y hy=>by rcases List.mem_append.1 hy with hy | hy;exact h.ok y hy;simp at hy;subst hy;exact hx,by have:=h.own_le;simp;omega⟩
theorem Zjz_ {nums:List (ByteArray × UInt32)} {num:UInt32} {p:UInt32→Prop} (h:∀ y ∈ nums,p y.2) (hn:p num):∀ cs:List ChgM,∀ y ∈ JI' nums num cs,p y.2:=by
 refine KQ' h fun cs c ih=>?_
 rw [Zcd_]
 intro y hy
 unfold setN at hy
 split at hy
 ·rcases List.mem_or_eq_of_mem_set hy with hy | rfl
  ·exact ih y hy
  ·exact hn
 ·rcases List.mem_append.1 hy with hy | hy
  ·exact ih y hy
  ·simp at hy;subst hy;exact hn
theorem ZeT_ {rows:List RowM} (hr:ZC' rows) (h:VD' rows) {cs:List ChgM} (hc:∀ c ∈ cs,ZR' c=true):VD' (Zw' rows cs):=by
 revert hc
 refine KQ' (p:=fun cs=>(∀ c ∈ cs,ZR' c=true)→VD' (Zw' rows cs)) (fun _=>h) (fun cs c ih hc=>?_) cs
 rw [XZ']
 intro r hm
 rcases (K9' (ZS' cs hr).1 c r).1 hm with ⟨_,rfl⟩ | ⟨hm,_⟩
 ·have:=hc c (by simp);unfold ZR' at this;simp at this;exact this.1
 ·exact ih (fun c hc'=>hc c (by simp [hc'])) r hm
theorem Zce_ {r:RowM}:∀ (cs:List ChgM) {V V':List RowM},ZC' V→ZC' V'→(r ∈ V↔r ∈ V')→(r ∈ Zw' V cs↔r ∈ Zw' V' cs)
 | [],_,_,_,_,h=>h
 | c::cs,V,V',h1,h2,h=>by
  refine Zce_ cs (JP' h1 c).1 (JP' h2 c).1 ?_
  rw [K9' h1,K9' h2,h]
theorem VU' {r:RowM} (cs:List ChgM) {V:List RowM} (h:ZC' V) (hk:∀ c ∈ cs,c.key≠r.key):r ∈ Zw' V cs↔r ∈ V:=by
 induction cs generalizing V with
 | nil=>exact Iff.rfl
 | cons c cs ih=>
  show r ∈ Zw' (XL' V c) cs↔_
  rw [ih (JP' h c).1 (fun c' hc'=>hk c' (by simp [hc'])),K9' h]
  have:=hk c (by simp)
  constructor
  ·rintro (⟨_,e⟩ | ⟨h,_⟩)
   ·subst e;exact absurd rfl this
   ·exact h
  ·intro h;exact .inr ⟨h,fun e=>this e.symm⟩
theorem ZhZ_ {V V':List RowM} (h:ZC' V) (h':ZC' V') (p:SpanM) (n:Nat) (hm:∀ r:RowM,ZW' p r.key=true→(r ∈ V↔r ∈ V')):ZT' V p n=ZT' V' p n:=by
 unfold ZT'
 congr 1
 refine Uy' (h.sublist List.filter_sublist) (h'.sublist List.filter_sublist) fun r=>?_
 rw [List.mem_filter,List.mem_filter]
 constructor
 ·rintro ⟨h1,h2⟩;exact ⟨(hm r h2).1 h1,h2⟩
 ·rintro ⟨h1,h2⟩;exact ⟨(hm r h2).2 h1,h2⟩
def chs (ops:List OpM):List ChgM:=(ops.filter Zp').map Z4'
theorem UD' (ops:List OpM) {x:OpM} (h:Zp' x=true):chs (ops++[x])=chs ops++[Z4' x]:=by simp [chs,h]
theorem UE' (ops:List OpM) {x:OpM} (h:Zp' x=false):chs (ops++[x])=chs ops:=by simp [chs,h]
theorem VE' {V:List RowM} (hV:ZC' V):∀ ops:List OpM,(∀ x ∈ ops,opOk x=true)→(runM V ops).2=Zw' V (chs ops):=by
 refine KQ' (fun _=>rfl) fun l x ih h=>?_
 have hx:=h x (by simp)
 rw [Xk',ih fun y hy=>h y (by simp [hy])]
 cases hw:Zp' x with
 | true=>rw [JJ' hx hw,UD' l hw,XZ']
 | false=>rw [J8' (ZS' _ hV).1 hx hw,UE' l hw]
theorem Zdx_ {V V':List RowM} (h:ZC' V) (h':ZC' V'):∀ ops:List OpM,(∀ x ∈ ops,opOk x=true)→(∀ x ∈ ops,Zp' x=false→∀ r:RowM,ZW' (Zi' x) r.key=true→(r ∈ V↔r ∈ V'))→(runM V ops).1=(runM V' ops).1:=by
 refine KQ' (fun _ _=>rfl) fun l x ih hok hm=>?_
 have hx:=hok x (by simp)
 have hl:∀ y ∈ l,opOk y=true:=fun y hy=>hok y (by simp [hy])
 rw [Xk',Xk']
 show (runM V l).1++[(Jd' (runM V l).2 x).1]=(runM V' l).1++[(Jd' (runM V' l).2 x).1]
 rw [ih hl fun y hy=>hm y (by simp [hy])]
 suffices e:(Jd' (runM V l).2 x).1=(Jd' (runM V' l).2 x).1 by rw [e]
 rw [VE' h l hl,VE' h' l hl]
 cases hw:Zp' x with
 | true=>rw [JJ' hx hw,JJ' hx hw]
 | false=>
  rw [J8' (ZS' _ h).1 hx hw,J8' (ZS' _ h').1 hx hw]
  exact ZhZ_ (ZS' _ h).1 (ZS' _ h').1 _ _ fun r hr=>Zce_ _ h h' (hm x (by simp) hw r hr)
abbrev Og:=UInt32→List OpM × List (List RowM)
def setO (o:Og) (n:UInt32) (v:List OpM × List (List RowM)):Og:=fun m=>if m=n then v else o m
theorem Q1' (o:Og) (n:UInt32) (v:List OpM × List (List RowM)):setO o n v n=v:=by simp [setO]
theorem Qa' (o:Og) {n m:UInt32} (v:List OpM × List (List RowM)) (h:m≠n):setO o n v m=o m:=by simp [setO,h]
structure DidV where
 id:UInt32
 p:Nat
 num:UInt32
 os:SV
 ops:List OpM
 ls:SV
 l:List (SV × List RowM)
structure ActM where
 kind:UInt8
 tx:UInt32
 op:OpM
 keep:Int
 torn:Int
def ActM.c (x:ActM):List Value:=[.int .u8 x.kind.toNat,.int .u32 x.tx.toNat,.int .u8 x.op.kind.toNat,.string x.op.key,.string x.op.to,.int .u32 x.op.val.toNat,.int .u64 x.keep,.int .i64 x.torn]
section
variable {κ : Type} [DecidableEq κ]
theorem ZjA_ (p:κ × Value) (kvs:List (κ × Value)) (k:κ) (v:Value):mset (p::kvs) k v=if p.1=k then (k,v)::kvs else p::mset kvs k v:=by
 unfold mset midx
 rw [List.findIdx?_cons]
 by_cases h:p.1=k
 ·simp [h]
 ·simp only [h,decide_false]
  cases List.findIdx? (fun p:κ × Value=>decide (p.1=k)) kvs <;> simp
theorem Zdy_ (kvs:List (κ × Value)) (k n:κ) (v:Value):mget (mset kvs k v) n=if n=k then some v else mget kvs n:=by
 induction kvs with
 | nil=>unfold mset midx mget;by_cases h:k=n <;> simp [h,eq_comm]
 | cons p kvs ih=>
  rw [ZjA_]
  by_cases h:p.1=k
  ·rw [if_pos h]
   unfold mget
   rw [List.find?_cons,List.find?_cons]
   by_cases h2:n=k
   ·subst h2;simp
   ·have h3:k≠n:=fun e=>h2 e.symm
    simp [h,h2,h3]
  ·rw [if_neg h]
   unfold mget at ih ⊢
   rw [List.find?_cons,List.find?_cons]
   by_cases h4:p.1=n
   ·have h2:n≠k:=fun e=>h (h4.trans e)
    simp [h4,h2]
   ·simp only [h4,decide_false];exact ih
end
def Je' (F:List DidV) (n:UInt32):Option DidV:=F.find? fun d=>decide (d.id=n)
def delD (F:List DidV) (n:UInt32):List DidV:=F.filter fun d=>!decide (d.id=n)
theorem Jf' (d:DidV) (F:List DidV) (m:UInt32):Je' (d::F) m=if d.id=m then some d else Je' F m:=by
 unfold Je';rw [List.find?_cons]
 by_cases h:d.id=m <;> simp [h]
theorem XU' (F:List DidV) (n m:UInt32):Je' (delD F n) m=if m=n then none else Je' F m:=by
 induction F with
 | nil=>simp [Je',delD]
 | cons d F ih=>
  unfold delD at ih ⊢
  rw [List.filter_cons]
  by_cases h:d.id=n
  ·simp only [h,decide_true,Bool.not_true,Bool.false_eq_true,if_false]
   rw [ih,Jf']
   by_cases h2:m=n
   ·simp [h2]
   ·have:d.id≠m:=fun e=>h2 (e.symm.trans h)
    simp [h2,this]
  ·simp only [h,decide_false,Bool.not_false,if_true]
   rw [Jf',Jf',ih]
   by_cases h2:d.id=m
   ·have:m≠n:=fun e=>h (h2.trans e)
    simp [h2,this]
   ·simp [h2]
theorem ZeU_ {F:List DidV} {n:UInt32} {d:DidV} (h:Je' F n=some d):d ∈ F∧d.id=n:=by
 unfold Je' at h
 exact ⟨List.mem_of_find?_eq_some h,by have:=List.find?_some h;simpa using this⟩
theorem UF' {F:List DidV} {n:UInt32} {d:DidV} (h:d ∈ delD F n):d ∈ F:=(List.mem_filter.1 h).1
def OpenOk (kvs:List (UInt32 × Value)) (F:List DidV):Prop:=∀ n,(mget kvs n).getD (.pointer none)=.pointer ((Je' F n).map fun d=>⟨d.p,0,none⟩)
theorem OpenOk.nil {kvs:List (UInt32 × Value)} {F:List DidV} (h:OpenOk kvs F) (n:UInt32):OpenOk (mset kvs n (.pointer none)) (delD F n):=fun m=>by
 rw [Zdy_,XU']
 by_cases e:m=n
 ·simp [e]
 ·rw [if_neg e,if_neg e];exact h m
theorem OpenOk.new {kvs:List (UInt32 × Value)} {F:List DidV} (h:OpenOk kvs F) (d:DidV):OpenOk (mset kvs d.id (.pointer (some ⟨d.p,0,none⟩))) (d::delD F d.id):=fun m=>by
 rw [Zdy_,Jf',XU']
 by_cases e:m=d.id
 ·simp [e]
 ·rw [if_neg e,if_neg e,if_neg (fun e2=>e e2.symm)];exact h m
theorem OpenOk.upd {kvs:List (UInt32 × Value)} {F:List DidV} (h:OpenOk kvs F) {n:UInt32} {d d':DidV} (hf:Je' F n=some d) (hi:d'.id=n) (hp:d'.p=d.p):OpenOk kvs (d'::delD F n):=fun m=>by
 rw [Jf',XU',hi]
 by_cases e:n=m
 ·subst e;rw [if_pos rfl,h,hf];simp [hp]
 ·rw [if_neg e,if_neg (fun e2=>e e2.symm)];exact h m
def ogD (F:List DidV):Og:=fun n=>match Je' F n with
 | some d=>(d.ops,d.l.map (·.2))
 | none=>([],[])
theorem ZeV_ {F:List DidV} {n:UInt32} {d:DidV} (h:Je' F n=some d):ogD F n=(d.ops,d.l.map (·.2)):=by unfold ogD;rw [h]
theorem ZgW_ (F:List DidV) {n:UInt32} {d:DidV} (h:d.id=n):ogD (d::delD F n)=setO (ogD F) n (d.ops,d.l.map (·.2)):=by
 funext m
 unfold setO ogD
 rw [Jf',XU',h]
 by_cases e:n=m
 ·simp [e]
 ·have:m≠n:=fun e2=>e e2.symm
  simp [e,this]
theorem ZaQ_ (m:UInt32) (c:UInt8) (h:m.toNat < 16777216):((m <<< 8) ||| c.toUInt32).toNat=m.toNat * 256+c.toNat:=by
 have hc:=c.toNat_lt
 have e1:(m <<< 8).toNat=m.toNat <<< 8:=by
  rw [UInt32.toNat_shiftLeft,Nat.mod_eq_of_lt]
  ·rfl
  ·show m.toNat <<< 8 < _
   rw [Nat.shiftLeft_eq];omega
 rw [UInt32.toNat_or,e1,UInt8.toNat_toUInt32,← Nat.shiftLeft_add_eq_or_of_lt (by omega),Nat.shiftLeft_eq]
theorem ZcV_ (c:UInt8):(beN [c]).toNat=c.toNat:=by
 have:=ZaQ_ 0 c (by decide)
 simp [beN]
theorem UG' (l:List UInt8) (c:UInt8):beN (l++[c])=(beN l <<< 8) ||| c.toUInt32:=by simp [beN]
theorem ZcW_ (a b:UInt8):(beN [a,b]).toNat=a.toNat * 256+b.toNat:=by
 rw [show [a,b]=[a]++[b] from rfl,UG',ZaQ_ _ _ (by rw [ZcV_];have:=a.toNat_lt;omega),ZcV_]
theorem Zdz_ (a b c:UInt8):(beN [a,b,c]).toNat=(a.toNat * 256+b.toNat) * 256+c.toNat:=by
 have:=a.toNat_lt;have:=b.toNat_lt
 rw [show [a,b,c]=[a,b]++[c] from rfl,UG',ZaQ_ _ _ (by rw [ZcW_];omega),ZcW_]
theorem Zll_ (a b c d:UInt8):(beN [a,b,c,d]).toNat=((a.toNat * 256+b.toNat) * 256+c.toNat) * 256+d.toNat:=by
 have:=a.toNat_lt;have:=b.toNat_lt;have:=c.toNat_lt
 rw [show [a,b,c,d]=[a,b,c]++[d] from rfl,UG',ZaQ_ _ _ (by rw [Zdz_];omega),Zdz_]
theorem Zlm_ (n:Nat) (h:n < 256):(beN [UInt8.ofNat n]).toNat=n:=by
 rw [ZcV_,UInt8.toNat_ofNat'];exact Nat.mod_eq_of_lt h
theorem Zln_ (n:UInt32) (h:n.toNat < 65536):beN (numB n 2)=n:=by
 apply UInt32.toNat_inj.1
 show (beN [_,_]).toNat=_
 rw [ZcW_,UInt8.toNat_ofNat',UInt8.toNat_ofNat']
 simp only [Nat.reduceMul,Nat.reducePow,Nat.pow_zero,Nat.div_one]
 omega
theorem ZeW_ (n:UInt32):beN (numB n 4)=n:=by
 apply UInt32.toNat_inj.1
 have:=n.toNat_lt
 show (beN [_,_,_,_]).toNat=_
 rw [Zll_,UInt8.toNat_ofNat',UInt8.toNat_ofNat',UInt8.toNat_ofNat',UInt8.toNat_ofNat']
 simp only [Nat.reduceMul,Nat.reducePow,Nat.pow_zero,Nat.div_one]
 omega
theorem ZeX_ (s:ByteArray):QT' (Ki' s)=s:=by
 cases s;simp [QT',Ki']
theorem Zlo_ {c:ChgM} (h:ZR' c=true):c.key.size < 256:=by
 unfold ZR' at h
 simp at h
 have:=h.1
 unfold Yz' at this;simp at this;omega
theorem ZjB_ (c:ChgM):(beN [if c.gone then (1:UInt8) else 0] == 1)=c.gone:=by cases c.gone <;> rfl
theorem ZjC_ {α:Type} {l:List α} {i:Nat} {x:α} (h:l[i]?=some x):l.drop i=x::l.drop (i+1):=by
 have hlt:=Yf' h
 rw [List.getElem?_eq_getElem hlt] at h;cases h
 exact (List.getElem_cons_drop hlt).symm
theorem ZoC_ {x:Int} (h1:0≤x) (h2:x < 4294967296):IntKind.u32.wrap x=x:=by
 simp [IntKind.wrap,IntKind.bits,IntKind.signed];omega
abbrev RecG:=UInt32 × List ChgM
def recB (y:RecG):List UInt8:=numB y.1 4++Yn' y.2
def Zmy_ (y:RecG):Prop:=y.2.length≤4096∧∀ c ∈ y.2,ZR' c=true
section
variable {P : Program} {g : World} {Γ : Env} {L : List HP}
theorem Zm4_ {dst:Option Tmp} {t:TypeId} {pos:String} {aft:Array Edge} {gd:Option (Nat × Bool)} {x y:Operand} {T U:TypeId} {a b:UInt32} (hx:ev Γ x=some (.int .u32 a.toNat):=by rfl) (hy:ev Γ y=some (.int .u32 b.toNat):=by rfl):EO P g ⟨dst,.call ⟨.builtin .max,#[x,y],#[T,U]⟩,t,pos,aft,gd⟩ Γ L (.int .u32 (if a < b then b else a).toNat):=by
 have h:=ZnG_ (P:=P) (g:=g) (L:=L) (dst:=dst) (t:=t) (pos:=pos) (aft:=aft) (gd:=gd) (T:=T) (U:=U) hx hy
 have e:(if (a.toNat:Int) < b.toNat then (b.toNat:Int) else a.toNat)=((if a < b then b else a).toNat:Nat):=by
  by_cases h:a < b
  ·rw [if_pos h,if_pos (by have:=UInt32.lt_iff_toNat_lt.1 h;omega)]
  ·rw [if_neg h,if_neg (by intro h';exact h (UInt32.lt_iff_toNat_lt.2 (by omega)))]
 rw [← e];exact h
end
theorem Zlp_ {S T:ZN'} {z n:Nat} {u:Value} {cs:List Value} (h:RdS S z u n cs) (hl:le S T):RdS T z u n cs:=by
 rcases h with h | ⟨b,o,c,l,t,h1,h2,h3,h4,h5⟩
 ·exact .inl h
 ·exact .inr ⟨b,o,c,l,t,h1,h2,hl _ _ h3,h4,h5⟩
theorem ZjD_ {A:HP} {L:List HP} (h:A ∈ L):∀ S,Zo' L S→∃ T,le T S∧A T:=by
 induction L with
 | nil=>cases h
 | cons B L ih=>
  rintro S ⟨S1,S2,_,h1,h2,h3,h4⟩
  rcases List.mem_cons.1 h with rfl | h
  ·exact ⟨S1,h1,h3⟩
  ·obtain ⟨T,h5,h6⟩:=ih h S2 h4
   exact ⟨T,le_trans h5 h2,h6⟩
section
variable {P : Program} {g : World} {Γ : Env} {L : List HP} {dst : Option Tmp} {t : TypeId} {pos : String} {aft : Array Edge} {gd : Option (Nat × Bool)}
theorem ZeY_ {x i:Operand} {T:TypeId} {s:ByteArray} {k:IntKind} {b:UInt8} {n:Nat} (ht:P.underlying T=some .string) (hi:ev Γ i=some (.int k n):=by rfl) (hx:ev Γ x=some (.string s):=by rfl) (hb:s[n]?=some b:=by rfl):EO P g ⟨dst,.index T x i,t,pos,aft,gd⟩ Γ L (.int .u8 b.toNat):=
 .of (by simp) fun ρ hρ w hw=>by
  simp [execOp,hρ x _ (by simp [Op.operands]) hx,hρ i _ (by simp [Op.operands]) hi,Instr.index,asIntOf,run_underlying ht,hb]
end
theorem Zcf_ {r:List UInt8} (h:r.length≤16384) (rest:List UInt8):getF (frame r++rest)=some (r,secs r.length):=by
 have hs:=Kl' r.length
 have hl:=XD' r
 have hn:(UInt32.ofNat r.length).toNat=r.length:=by rw [UInt32.toNat_ofNat'];exact Nat.mod_eq_of_lt (by omega)
 have e4:(frame r++rest).take 4=numB (UInt32.ofNat r.length) 4:=by
  unfold frame
  rw [List.append_assoc,List.append_assoc,List.append_assoc]
  exact List.take_left' (Yh' _ _)
 have e8:(frame r++rest).drop 8=r++(List.replicate (secs r.length * 64 - 8 - r.length) 0++rest):=by
  unfold frame
  rw [List.append_assoc,List.append_assoc]
  exact List.drop_left' (by simp [Yh'])
 have er:((frame r++rest).drop 8).take r.length=r:=by rw [e8];exact List.take_left' rfl
 have ef:(frame r++rest).take (secs r.length * 64)=frame r:=List.take_left' hl
 unfold getF
 rw [if_neg (by rw [List.length_append,hl];omega)]
 simp only [e4,ZeW_,hn,er,ef]
 rw [if_neg (by omega),if_neg (by rw [List.length_append,hl];omega),if_pos trivial]
theorem Zbe_:∀ (ys:List RecG) (rest:List UInt8),(∀ y ∈ ys,(recB y).length≤16384)→recs rest=[]→recs ((ys.flatMap fun y=>frame (recB y))++rest)=ys.map fun y=>(recB y,secs (recB y).length)
 | [],rest,_,h=>by simpa using h
 | y::ys,rest,hy,h=>by
  have ih:=Zbe_ ys rest (fun z hz=>hy z (by simp [hz])) h
  rw [List.flatMap_cons,List.append_assoc,QW' (Zcf_ (hy y (by simp)) _),List.drop_left' (XD' _),ih]
  rfl
theorem V4':∀ (l:List (List UInt8)) (i:Nat),(∀ p ∈ l,p.length=64)→(l.take i).flatten=l.flatten.take (i * 64)
 | l,0,_=>by simp
 | [],i+1,_=>by simp
 | p::l,i+1,h=>by
  have hp:=h p (by simp)
  rw [List.take_succ_cons,List.flatten_cons,List.flatten_cons,V4' l i (fun q hq=>h q (by simp [hq])),List.take_append,hp,show (i+1) * 64 - 64=i * 64 by omega,List.take_of_length_le (l:=p) (by omega)]
theorem V5':∀ (l:List (List UInt8)) (i:Nat),(∀ p ∈ l,p.length=64)→(l.drop i).flatten=l.flatten.drop (i * 64)
 | l,0,_=>by simp
 | [],i+1,_=>by simp
 | p::l,i+1,h=>by
  have hp:=h p (by simp)
  rw [List.drop_succ_cons,List.flatten_cons,V5' l i (fun q hq=>h q (by simp [hq])),List.drop_append,hp,show (i+1) * 64 - 64=i * 64 by omega,List.drop_of_length_le (l:=p) (by omega),List.nil_append]
theorem Zar_:∀ (k:Nat) (d:DiskM) (i:Nat) (b:List UInt8),b.length=k * 64→i+k≤d.seen.length→(addW d i b k).seen.flatten=(d.seen.take i).flatten++b++(d.seen.drop (i+k)).flatten∧(addW d i b k).seen.length=d.seen.length
 | 0,d,i,b,hb,hi=>by
  have:b=[]:=by simpa using hb
  subst this
  refine ⟨?_,rfl⟩
  show d.seen.flatten=_
  rw [List.append_nil,← List.flatten_append,Nat.add_zero,List.take_append_drop]
 | k+1,d,i,b,hb,hi=>by
  have h1:(b.take 64).length=64:=by simp;omega
  have hw:(d.write i (b.take 64)).seen=d.seen.set i (b.take 64):=by simp [DiskM.write,Zb0_ h1]
  obtain ⟨e1,e2⟩:=Zar_ k (d.write i (b.take 64)) (i+1) (b.drop 64) (by simp;omega) (by rw [hw,List.length_set];omega)
  rw [hw] at e1 e2
  refine ⟨?_,by rw [addW,e2,List.length_set]⟩
  rw [addW,e1,List.drop_set_of_lt (by omega),show i+1+k=i+(k+1) by omega]
  congr 1
  have e3:(d.seen.set i (b.take 64)).take (i+1)=d.seen.take i++[b.take 64]:=by
   rw [ZA' (List.getElem?_set_self (by omega)),List.take_set_of_le (Nat.le_refl i)]
  rw [e3,List.flatten_append,List.append_assoc]
  congr 1
  simp
theorem Zcg_ (n:Nat):recs (List.replicate (n * 64) 0)=[]:=by
 cases n with
 | zero=>rfl
 | succ n=>exact Zao_ _ (by omega)
structure DiskLog (d:DiskM) (at0:Nat) (ys:List RecG):Prop where
 ok:d.ok
 waits:d.waits=[]
 same:d.sure=d.seen
 len:d.sure.length=4096
 flat:d.seen.flatten=(ys.flatMap fun y=>frame (recB y))++List.replicate ((4096 - at0) * 64) 0
 hat:(ys.map fun y=>secs (recB y).length).sum=at0
 le:at0≤4096
 yok:∀ y ∈ ys,Zmy_ y∧(recB y).length≤16384
theorem Ve':∀ (ys:List RecG),(ys.flatMap fun y=>frame (recB y)).length=(ys.map fun y=>secs (recB y).length).sum * 64
 | []=>rfl
 | y::ys=>by rw [List.flatMap_cons,List.length_append,Ve' ys,XD'];simp;omega
theorem Zby_ (all:List UInt8) (d:DiskM) (lo:Nat):∀ k,(∀ j,j < k→(all.drop ((lo+j) * 64)).take 64=List.replicate 64 0)→YF' all d lo k=d
 | 0,_=>rfl
 | k+1,h=>by rw [YF',if_pos (h k (by omega))];exact Zby_ all d lo k fun j hj=>h j (by omega)
theorem DiskLog.recs {d:DiskM} {at0:Nat} {ys:List RecG} (h:DiskLog d at0 ys):(SL.recs d.seen.flatten).map (·.1)=ys.map recB∧((SL.recs d.seen.flatten).map (·.2)).sum=at0∧YF' d.seen.flatten d at0 (d.sure.length - at0)=d:=by
 have hr:SL.recs d.seen.flatten=ys.map fun y=>(recB y,secs (recB y).length):=by
  rw [h.flat]
  exact Zbe_ ys _ (fun y hy=>(h.yok y hy).2) (Zcg_ _)
 refine ⟨by rw [hr];simp,by rw [hr,← h.hat];simp [Function.comp_def],Zby_ _ _ _ _ fun j hj=>?_⟩
 have hl:=h.len
 rw [h.flat,List.drop_append,Ve',h.hat,List.drop_of_length_le (by rw [Ve',h.hat];omega),List.nil_append,List.drop_replicate,List.take_replicate]
 congr 1
 omega
theorem DiskLog.sync {d:DiskM} {at0:Nat} {ys:List RecG} (h:DiskLog d at0 ys):d.sync=d:=by
 have h1:=h.same;have h2:=h.waits
 cases d;simp only [DiskM.sync] at h1 h2 ⊢;subst h1 h2;rfl
theorem DiskLog.first:DiskLog (Z0' 4096).sync 0 []:=
 ⟨YQ'.ok.sync,rfl,rfl,List.length_replicate,by show (Z0' 4096).seen.flatten=_;rw [VC'];rfl,rfl,Nat.zero_le _,by simp⟩
theorem DiskLog.add {d:DiskM} {at0:Nat} {ys:List RecG} (h:DiskLog d at0 ys) {y:RecG} (hy:Zmy_ y) (hl:(recB y).length≤16384) (hfit:at0+secs (recB y).length≤d.sure.length):DiskLog (addW d at0 (frame (recB y)) (secs (recB y).length)).sync (at0+secs (recB y).length) (ys++[y]):=by
 have hlen:=h.len
 have hsl:=h.ok.len
 obtain ⟨e1,e2⟩:=Zar_ (secs (recB y).length) d at0 (frame (recB y)) (XD' _) (by omega)
 have hfr:(ys.flatMap fun y=>frame (recB y)).length=at0 * 64:=by rw [Ve',h.hat]
 refine ⟨(KW' _ _ _ _ h.ok).sync,rfl,rfl,by show (addW _ _ _ _).seen.length=_;rw [e2];omega,?_,by rw [List.map_append,List.sum_append,h.hat];simp,by omega,fun z hz=>?_⟩
 ·show (addW _ _ _ _).seen.flatten=_
  rw [e1,V4' _ _ h.ok.l2,V5' _ _ h.ok.l2,h.flat,List.take_left' hfr,List.drop_append,List.drop_of_length_le (by rw [hfr];omega),List.nil_append,hfr,List.drop_replicate,List.flatMap_append]
  simp only [List.flatMap_cons,List.flatMap_nil,List.append_nil]
  congr 2
  omega
 ·rcases List.mem_append.1 hz with hz | hz
  ·exact h.yok z hz
  ·simp at hz;subst hz;exact ⟨hy,hl⟩
end Go.SL
