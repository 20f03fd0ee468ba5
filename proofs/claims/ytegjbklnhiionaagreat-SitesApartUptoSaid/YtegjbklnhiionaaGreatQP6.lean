import Derived.Test.YtegjbklnhiionaaGreatQP5
set_option linter.unusedSimpArgs false
set_option linter.unusedVariables false
set_option linter.unusedSectionVars false
namespace Go.SL
open Go
theorem Kl' (n:Nat):8+n≤secs n * 64:=by unfold secs;omega
theorem ZcQ_ (n:Nat):secs n * 64≤n+71:=by unfold secs;omega
theorem ZkU_ {α:Type} (xs ys:List α) (lo i:Nat) (c:α) (h:lo+ys.length≤xs.length) (hc:ys[i]?=some c):(over xs lo (ys.take i)).set (lo+i) c=over xs lo (ys.take (i+1)):=by
  have hi:=Yf' hc
  apply List.ext_getElem?
  intro j
  rw [List.getElem?_set]
  have e1:(ys.take i).take (xs.length - lo)=ys.take i:=List.take_of_length_le (by simp;omega)
  have e2:(ys.take (i+1)).take (xs.length - lo)=ys.take (i+1):=List.take_of_length_le (by simp;omega)
  simp only [over,e1,e2,List.length_append,List.length_take,List.length_drop]
  rw [List.append_assoc,List.append_assoc,List.getElem?_append,List.getElem?_append,List.getElem?_append,List.getElem?_append]
  simp only [List.length_take,List.getElem?_take,List.getElem?_drop]
  have m1:min lo xs.length=lo:=by omega
  have m2:min i ys.length=i:=by omega
  have m3:min (i+1) ys.length=i+1:=by omega
  rw [m1,m2,m3]
  by_cases h1:lo+i=j
  · subst h1
    simp [hc,show 0 < xs.length - (lo+i) by omega,show i < i+1 by omega];intro h;omega
  · rw [if_neg h1]
    by_cases h2:j < lo
    · simp [h2]
    · simp only [h2,if_false]
      by_cases h3:j - lo < i
      · simp [h3,show j - lo < i+1 by omega]
      · simp only [h3,show ¬ j - lo < i+1 by omega,if_false]
        congr 1;omega
theorem ZkV_ {α:Type} (xs:List α) (lo:Nat) (h:lo≤xs.length):over xs lo []=xs:=by simp [over]
theorem Uh' {α:Type} (A xs ys:List α) (lo:Nat) (hA:A.length=lo) (h:ys.length≤xs.length):over (A++xs) lo ys=A++ys++xs.drop ys.length:=by
  subst hA
  simp only [over,List.length_append]
  rw [List.take_left,show A.length+xs.length - A.length=xs.length by omega,List.take_of_length_le h,List.drop_append]
  simp [List.drop_eq_nil_of_le]
def XP' (b:List UInt8):List UInt8:=numB (UInt32.ofNat b.length) 4
def sum4 (b:List UInt8):List UInt8:=numB (JE' (JE' 0 (XP' b)) b) 4
theorem XR' (b:List UInt8):(XP' b).length=4:=Yh' _ _
theorem Vv' (b:List UInt8):(sum4 b).length=4:=Yh' _ _
theorem ZnO_ (b:List UInt8):over (List.replicate (secs b.length * 64) (0:UInt8)) 0 (XP' b)=XP' b++List.replicate (secs b.length * 64 - 4) 0:=by
  have:=Kl' b.length
  rw [show List.replicate (secs b.length * 64) (0:UInt8)=[]++List.replicate (secs b.length * 64) 0 from rfl,Uh' [] _ _ 0 rfl (by simp [XR'];omega)]
  simp [XR']
theorem ZnP_ (b:List UInt8):over (XP' b++List.replicate (secs b.length * 64 - 4) 0) 4 (sum4 b)=XP' b++sum4 b++List.replicate (secs b.length * 64 - 8) 0:=by
  have:=Kl' b.length
  rw [Uh' _ _ _ 4 (XR' b) (by simp [Vv'];omega)]
  simp [Vv'];omega
theorem ZnQ_ (b:List UInt8):over (XP' b++sum4 b++List.replicate (secs b.length * 64 - 8) 0) 8 b=frame b:=by
  have:=Kl' b.length
  rw [Uh' _ _ _ 8 (by simp [XR',Vv']) (by simp;omega)]
  simp [frame,XP',sum4]
theorem XD' (b:List UInt8):(frame b).length=secs b.length * 64:=by
  have:=Kl' b.length
  simp [frame,Yh'];omega
def beN (l:List UInt8):UInt32:=l.foldl (fun n c=>(n <<< 8) ||| c.toUInt32) 0
def getF (b:List UInt8):Option (List UInt8 × Nat):=
  if b.length < 8 then none else
  let n:=(beN (b.take 4)).toNat
  if 16384 < n then none else
  if b.length < secs n * 64 then none else
  if frame ((b.drop 8).take n)=b.take (secs n * 64) then some ((b.drop 8).take n,secs n) else none
theorem ZkW_ (a b:List UInt8):sEq (QT' a) (QT' b)=(a == b):=by
  simp [sEq,QT',ByteArray.toList_eq]
end Go.SL
namespace Go.SL.Fc
open Go Go.Proofs Go.SL
theorem a137:ZK' Tryz.prog 137=some none:=by kernel_rfl
theorem k119:Zh' Tryz.prog 119=true:=by kernel_rfl
theorem k120:Zh' Tryz.prog 120=true:=by kernel_rfl
theorem k121:Zh' Tryz.prog 121=true:=by kernel_rfl
theorem k127:Zh' Tryz.prog 127=true:=by kernel_rfl
theorem k129:Zh' Tryz.prog 129=true:=by kernel_rfl
theorem k97:Zh' Tryz.prog 97=true:=by kernel_rfl
theorem s137:szOf Tryz.prog 137=some 1:=by kernel_rfl
theorem s5:szOf Tryz.prog 5=some 1:=by kernel_rfl
theorem z137:ZH' Tryz.prog 137=some [.slice none 0 0]:=by kernel_rfl
end Go.SL.Fc
namespace Go.SL
open Go Go.Proofs Fc
theorem Zdk_ {g:World} {b:Nat} {u:Value} {xs:List UInt8} (lo:Nat) (n:UInt32) (h:lo+4≤xs.length) (hb:xs.length≤68719476736):Spec Tryz.prog g 127 [.int .i64 lo,.int .u32 n.toNat,.pointer (some ⟨b,0,none⟩)] [cl b 137 [u],Sl 5 1 eB u (xs)] fun K R=>K (.tuple #[]) (cl b 137 [u]::Sl 5 1 eB u (over xs lo (numB n 4))::R):=by
 refine Spec.intro Tryz.func127 rfl Tryz.ntmps127 rfl fun R K hK=>?_
 refine WP.seq<|WP.reg<|WL.e Za'<|WL.next<|WP.block ?_
 rw [show Sl 5 1 eB u (xs)=Sl 5 1 eB u (over xs lo ((numB n 4).take 0)) by rw [List.take_zero,ZkV_ xs lo (by omega)]]
 refine WP.loopK (fun (i:Nat)=>[(6,.int .i64 i)]) (fun (i:Nat)=>cl b 137 [u]::Sl 5 1 eB u (over xs lo ((numB n 4).take i))::R) [(0,_),(1,_),(2,_)] (fun (i:Nat)=>i≤4) (fun (i:Nat)=>4 - i) 0 (by omega) ?_
 intro i hx1
 refine WP.seq<|WP.reg<|WL.e Z3'<|WL.next<|WP.seq ?_
 refine WP.cond rfl (fun h1=>?_) (fun h1=>?_)
 ·have hlt:i < 4:=by simp at h1;omega
  refine WP.skip<|PO.next<|WP.seq<|WP.block<|WP.seq<|WP.reg<|WL.e Za'<|WL.e Zb'<|WL.next<|WP.draws Zq' 12<|RW.e 0 rfl (Zc' a137)<|RW.e 1 rfl Za'<|RW.e 2 rfl Za'<|RW.e 3 rfl (ZE' (c:=((lo+i:Nat):Int)) rfl rfl (by rw [Zt' (by omega) (by omega)];omega))<|RW.e 4 rfl Za'<|RW.e 5 rfl Za'<|RW.e 6 rfl (Y9' (c:=((3 - i:Nat):Int)) rfl rfl (by rw [Zt' (by omega) (by omega)];omega))<|RW.e 7 rfl (QC' (c:=((8 * (3 - i):Nat):Int)) rfl rfl (by rw [Zt' (by omega) (by omega)];omega))<|RW.e 8 rfl (Ug' (k:=.u32) (m:=8 * (3 - i)) (by simp [IntKind.bits];omega))<|RW.e 9 rfl (e_c8 (by rw [Tryz.underlying24];rfl) Tryz.underlying5)<|RW.e 10 rfl (ZZ' (j:=lo+i) (xs:=over xs lo ((numB n 4).take i)) Z6' Zr' (by rw [Vu' _ _ _ (by omega)];omega)) ?_
  refine RW.any (is:=[11]) rfl ⟨?_,trivial⟩
  refine RWat.h' rfl rfl rfl ?_
  refine (Vq' (j:=lo+i) (xs:=over xs lo ((numB n 4).take i)) (UInt8.ofNat (n.toNat / 2 ^ (8 * (3 - i)))) s5 Yp' (by rw [Vu' _ _ _ (by omega)];omega) ?_)
  rw [ZkU_ xs (numB n 4) lo i _ (by rw [Yh'];exact h) (by (obtain rfl | rfl | rfl | rfl:i=0∨i=1∨i=2∨i=3:=by omega) <;> rfl)]
  refine ⟨trivial,?_⟩
  refine RW.done<|PO.blockN<|PO.next<|WP.reg<|WL.e (ZE' rfl rfl (Zt' (by omega) (by omega)))<|WL.e Za'<|WL.nil ?_
  exact PO.againK (i+1) (by omega) (by omega)
 ·obtain rfl:i=4:=by simp at h1;omega
  rw [show (numB n 4).take 4=numB n 4 from List.take_of_length_le (by rw [Yh'];omega)]
  refine WP.exit<|PO.past nofun<|PO.round nofun<|PO.blockX ?_
  exact PO.fin Tryz.results127 Zf' hK
theorem Zba_ {g:World} {A:HP} {u:Value} {xs:List UInt8} (hA:RL A 1 eB u xs) (hb:xs.length≤68719476736):Spec Tryz.prog g 97 [u] [A] fun K R=>∀ a m c,K (.slice a m c) (Sl 5 1 eB (.slice a m c) xs::A::R):=by
 refine Spec.intro Tryz.func97 rfl Tryz.ntmps97 rfl fun R K hK=>?_
 refine WP.seq<|WP.reg<|WL.e Zb'<|WL.next<|WP.seq<|WP.seq<|WP.reg<|WL.e Za'<|WL.e (ZcO_ Z6' hA)<|WL.next ?_
 refine WP.cond rfl (fun h=>?_) (fun h=>?_)
 ·refine WP.know (φ:=xs=[]) (Pick.know (A:=A) (by exact .z) fun S hS=>?_) fun hx=>?_
  ·rcases hA S hS with ⟨h0,_⟩ | ⟨b,o,c,l,t,e,_⟩
   ·simpa using h0
   ·rw [e] at h;cases h
  subst hx
  refine WP.nils 5 1 eB none ?_
  refine WP.seq<|WP.reg<|WL.e Zb'<|WL.next<|WP.ret<|PO.past nofun ?_
  exact PO.fin Tryz.results97 (Zd' Zf') (hK none 0 0)
 ·skip
  refine WP.skip<|PO.next<|WP.seq<|WP.reg ?_
  refine WL.h (ZhA_ Z6' (enc:=eB) fun a1 n1 c1=>?_)
  refine WL.e Za' ?_
  refine WL.h (ZG' (xs:=[]) (ys:=xs) Z6' Yp' z5 hA (by simp;omega) fun a2 n2 c2=>?_)
  rw [List.nil_append]
  refine WL.e Zb'<|WL.next<|WP.ret ?_
  exact PO.fin Tryz.results97 (Zd' Zf') (hK a2 n2 c2)
theorem ZfQ_ {g:World} {A B:HP} {u v:Value} {xs ys:List UInt8} (hA:RL A 1 eB u xs) (hB:RL B 1 eB v ys) (hb:xs.length≤68719476736):Spec Tryz.prog g 121 [u,v] [A,B] fun K R=>K (.bool (xs == ys)) (A::B::R):=by
 refine Spec.intro Tryz.func121 rfl Tryz.ntmps121 rfl fun R K hK=>?_
 refine WP.seq<|WP.reg<|WL.e Zb'<|WL.next<|WP.seq<|WP.seq<|WP.reg<|WL.e Za'<|WL.e (ZD' Z6' hA)<|WL.e Za'<|WL.e (ZD' Z6' hB)<|WL.e Z2'<|WL.next ?_
 refine WP.cond rfl (fun h=>?_) (fun h=>?_)
 ·skip
  refine WP.seq<|WP.reg<|WL.e Zb'<|WL.next<|WP.ret<|PO.past nofun ?_
  exact PO.finE Tryz.results121 (Zd' Zf') (congrArg Value.bool (Eq.symm (beq_eq_false_iff_ne.2 (by rintro rfl;simp at h)))) hK
 ·replace h:xs.length=ys.length:=by simp at h;omega
  refine WP.skip<|PO.next<|WP.seq<|WP.seq<|WP.reg<|WL.e Za'<|WL.e (ZD' Z6' hA)<|WL.e Za'<|WL.next<|WP.block<|WP.loopK (fun (i:Nat)=>[(13,.int .i64 i)]) (fun (i:Nat)=>A::B::R) [(0,_),(1,_),(12,_)] (fun (i:Nat)=>i≤xs.length∧xs.take i=ys.take i) (fun (i:Nat)=>xs.length - i) 0 (⟨by omega,by simp⟩) ?_
  rintro i ⟨hx1,hx2⟩
  refine WP.seq<|WP.reg<|WL.e Z3'<|WL.next<|WP.seq ?_
  refine WP.cond rfl (fun h2=>?_) (fun h2=>?_)
  ·have hlt:i < xs.length:=by simp at h2;omega
   obtain ⟨x,hx⟩:∃ c,xs[i]?=some c:=⟨xs[i],List.getElem?_eq_getElem hlt⟩
   obtain ⟨y,hy⟩:∃ c,ys[i]?=some c:=⟨ys[i],List.getElem?_eq_getElem (by omega)⟩
   refine WP.skip<|PO.next<|WP.seq<|WP.block<|WP.seq<|WP.reg<|WL.e Za'<|WL.e Zb'<|WL.next<|WP.seq<|WP.draws Zq' 9<|RW.e 0 rfl Za'<|RW.e 1 rfl Za'<|RW.e 2 rfl (ZZ' Z6' hA hlt)<|RW.e 3 rfl (Ys' a5 Yp' hA hx)<|RW.e 4 rfl Za'<|RW.e 5 rfl Za'<|RW.e 6 rfl (ZZ' (j:=i) Z6' hB (by omega))<|RW.e 7 rfl (Ys' a5 Yp' hB hy)<|RW.e 8 rfl (Zi2_)<|RW.done<|PO.next ?_
   refine WP.cond rfl (fun h3=>?_) (fun h3=>?_)
   ·skip
    refine WP.seq<|WP.reg<|WL.e Zb'<|WL.next<|WP.ret<|PO.blockR<|PO.past nofun<|PO.round nofun<|PO.blockR<|PO.past nofun ?_
    exact PO.finE Tryz.results121 (Zd' Zf') (congrArg Value.bool (Eq.symm (beq_eq_false_iff_ne.2 (by rintro rfl;rw [hx] at hy;cases hy;simp at h3)))) hK
   ·skip
    refine WP.skip<|PO.blockN<|PO.next<|WP.reg<|WL.e (ZE' rfl rfl (Zt' (by omega) (by omega)))<|WL.e Za'<|WL.nil ?_
    exact PO.againK (i+1) ⟨by omega,by rw [ZA' hx,ZA' hy,hx2,show x=y by simpa using h3]⟩ (by omega)
  ·have hfin:xs=ys:=by rw [List.take_of_length_le (by simp at h2;omega),List.take_of_length_le (by simp at h2;omega)] at hx2;exact hx2
   refine WP.exit<|PO.past nofun<|PO.round nofun<|PO.blockX<|PO.next<|WP.seq<|WP.reg<|WL.e Zb'<|WL.next<|WP.ret ?_
   exact PO.finE Tryz.results121 (Zd' Zf') (by rw [hfin];simp) hK
theorem Zbb_ {g:World} {A B:HP} {u v:Value} {xs ys:List UInt8} (hA:RL A 1 eB u xs) (hB:RL B 1 eB v ys):Spec Tryz.prog g 71 [u,v] [A,B] fun K R=>K (.bool (xs == ys)) (A::B::R):=by
 refine Spec.intro Tryz.func71 rfl Tryz.ntmps71 rfl fun R K hK=>?_
 refine WP.seq<|WP.reg<|WL.e Zb'<|WL.next<|WP.seq<|WP.reg<|WL.e Za'<|WL.e (Zht_ Tryz.underlying137 Tryz.underlying5 Tryz.underlying9 hA)<|WL.e Za'<|WL.e (Zht_ Tryz.underlying137 Tryz.underlying5 Tryz.underlying9 hB)<|WL.e Zml_<|WL.e Zb'<|WL.next<|WP.ret ?_
 exact PO.finE Tryz.results71 (Zd' Zf') (by simp [ZkW_]) hK
theorem Zev_ {g:World} {A:HP} {u:Value} {b:List UInt8} (hA:RL A 1 eB u b):Spec Tryz.prog g 120 [u] [A] fun K R=>(16384 < b.length→K (.tuple #[.slice none 0 0,.int .i64 3]) (A::R))∧(b.length≤16384→∀ a m c,K (.tuple #[.slice a m c,.int .i64 0]) (Sl 5 1 eB (.slice a m c) (frame b)::A::R)):=by
 refine Spec.intro Tryz.func120 rfl Tryz.ntmps120 rfl fun R K hK=>?_
 refine WP.seq<|WP.reg<|WL.e Zb'<|WL.e Zb'<|WL.next<|WP.seq<|WP.reg<|WL.e Za'<|WL.e (ZD' Z6' hA)<|WL.e Zb'<|WL.next<|WP.seq<|WP.seq<|WP.reg<|WL.e Za'<|WL.e YY'<|WL.next ?_
 refine WP.cond rfl (fun h=>?_) (fun h=>?_)
 ·skip
  refine WP.seq<|WP.reg<|WL.e Zb'<|WL.e Zb'<|WL.next<|WP.ret<|PO.past nofun ?_
  exact PO.fin Tryz.results120 (Zd' (Zd' Zf')) (hK.1 (by simp at h;omega))
 ·replace h:b.length≤16384:=by simp at h;omega
  have hs1:=Kl' b.length
  have hs2:=ZcQ_ b.length
  refine WP.skip<|PO.next<|WP.seq<|WP.reg<|WL.e Za' ?_
  refine WL.h (Zg' (U8' b.length (by omega)) k119 ?_)
  refine WL.e (QC' (c:=((secs b.length * 64:Nat):Int)) rfl rfl (by rw [Zt' (by omega) (by omega)];omega)) ?_
  refine WL.h (Vl' (enc:=eB) (n:=secs b.length * 64) (0:UInt8) Z6' z5 (by omega) fun a5 n5 c5=>?_)
  refine WL.h (Zu' z137 fun b1=>?_)
  refine WL.h' (Zj' s137 ?_)
  refine WL.next<|WP.seq<|WP.reg<|WL.e Ym'<|WL.e Zb'<|WL.next<|WP.seq<|WP.reg<|WL.e Za'<|WL.e Za'<|WL.e (Zmr_ (by rw [Tryz.underlying3];rfl) Tryz.underlying24) ?_
  refine WL.h (ZcM_ (fs:=[]) (cs:=[.pointer (some ⟨b1,0,none⟩)]) (args:=[.int .i64 (0:Nat),.int .u32 (UInt32.ofNat b.length).toNat]) (Zdk_ (xs:=List.replicate (secs b.length * 64) (0:UInt8)) 0 (UInt32.ofNat b.length) (by simp;omega) (by simp;omega)) k127 ?_)
  rw [show numB (UInt32.ofNat b.length) 4=XP' b from rfl,ZnO_]
  refine WL.next<|WP.seq<|WP.reg<|WL.e Za'<|WL.e (Zc' a137)<|WL.e (Zd8_ (hi:=4) (xs:=XP' b++List.replicate (secs b.length * 64 - 4) 0) Z6' Zr' (by simp;omega)) ?_
  refine WL.h (Zg' (Zhz_ (b:=XP' b) (by have:=RL.sub (lo:=0) (hi:=4) (mx:=some 4) Yp' (Zr' (E:=5) (z:=1) (enc:=eB) (u:=.slice a5 n5 c5) (xs:=XP' b++List.replicate (secs b.length * 64 - 4) 0)) (by omega) (by simp;omega) (by rintro m ⟨⟩;simp;omega);rwa [List.drop_zero,List.take_left' (XR' b)] at this) (by rw [XR'];omega)) k129 ?_)
  refine WL.e Za' ?_
  refine WL.h (Zg' (ZgJ_ (JE' 0 (XP' b)) hA (by omega)) k128 ?_)
  refine WL.h (ZcM_ (fs:=[]) (cs:=[.pointer (some ⟨b1,0,none⟩)]) (args:=[.int .i64 (4:Nat),.int .u32 (JE' (JE' 0 (XP' b)) b).toNat]) (Zdk_ (xs:=XP' b++List.replicate (secs b.length * 64 - 4) 0) 4 (JE' (JE' 0 (XP' b)) b) (by simp [XR'];omega) (by simp [XR'];omega)) k127 ?_)
  rw [show numB (JE' (JE' 0 (XP' b)) b) 4=sum4 b from rfl,ZnP_]
  refine WL.next<|WP.seq<|WP.reg<|WL.e (Zc' a137)<|WL.e (XV' (lo:=8) (xs:=XP' b++sum4 b++List.replicate (secs b.length * 64 - 8) 0) Z6' Zr' (by simp [XR',Vv'];omega))<|WL.e Za' ?_
  refine WL.h (ZaM_ (lo:=8) (xs:=XP' b++sum4 b++List.replicate (secs b.length * 64 - 8) 0) Z6' Yp' (by simp [XR',Vv'];omega) hA ?_)
  rw [ZnQ_]
  refine WL.next<|WP.seq<|WP.reg<|WL.e (Zc' a137)<|WL.e Zb'<|WL.e Zb'<|WL.next<|WP.ret ?_
  exact PO.fin Tryz.results120 (Zd' (Zd' Zf')) (hK.2 h a5 n5 c5)
theorem ZkX_ {g:World} {A:HP} {u:Value} {b:List UInt8} (hA:RL A 1 eB u b) (hb:b.length≤68719476736):Spec Tryz.prog g 99 [u] [A] fun K R=>(getF b=none→K (.tuple #[.slice none 0 0,.int .i64 0,.int .i64 4]) (A::R))∧(∀ rec many,getF b=some (rec,many)→∀ a m c,K (.tuple #[.slice a m c,.int .i64 many,.int .i64 0]) (Sl 5 1 eB (.slice a m c) (rec)::A::R)):=by
 refine Spec.intro Tryz.func99 rfl Tryz.ntmps99 rfl fun R K hK=>?_
 refine WP.seq<|WP.reg<|WL.e Zb'<|WL.e Zb'<|WL.e Zb'<|WL.next<|WP.seq<|WP.seq<|WP.reg<|WL.e Za'<|WL.e (ZD' Z6' hA)<|WL.e Z3'<|WL.next ?_
 refine WP.cond rfl (fun h1=>?_) (fun h1=>?_)
 ·replace h1:b.length < 8:=by simp at h1;omega
  refine WP.seq<|WP.reg<|WL.e Zb'<|WL.e Zb'<|WL.e Zb'<|WL.next<|WP.ret<|PO.past nofun ?_
  exact PO.fin Tryz.results99 (Zd' (Zd' (Zd' Zf'))) (hK.1 (by simp [getF,h1]))
 ·replace h1:¬ b.length < 8:=by simp at h1;omega
  have hA4:RL A 1 eB (subV u 0 4 none 1) (b.take 4):=RL.to_ Yp' hA (by omega)
  have hl4:(b.take 4).length=4:=by simp;omega
  refine WP.skip<|PO.next<|WP.seq<|WP.reg<|WL.e Zb'<|WL.next<|WP.seq<|WP.seq<|WP.reg<|WL.e Za'<|WL.e (VH' (hi:=4) Z6' hA (by omega))<|WL.e (ZD' Z6' hA4)<|WL.e Za'<|WL.next<|WP.block<|WP.loopK (fun (x:Nat × UInt32)=>[(17,.int .i64 x.1),(5,.int .u32 x.2.toNat)]) (fun (x:Nat × UInt32)=>A::R) [(0,_),(2,_),(3,_),(4,_),(15,_),(16,_)] (fun (x:Nat × UInt32)=>x.1≤4∧x.2=beN ((b.take 4).take x.1)) (fun (x:Nat × UInt32)=>4 - x.1) (0,0) (⟨by omega,by simp [beN]⟩) ?_
  rintro ⟨x,n⟩ ⟨hx1,hx2⟩
  simp only at hx1 hx2
  dsimp only
  refine WP.seq<|WP.reg<|WL.e Z3'<|WL.next<|WP.seq ?_
  refine WP.cond rfl (fun h2=>?_) (fun h2=>?_)
  ·have hlt:x < (b.take 4).length:=by simp at h2;omega
   obtain ⟨c,hc⟩:∃ c,(b.take 4)[x]?=some c:=⟨_,List.getElem?_eq_getElem hlt⟩
   refine WP.skip<|PO.next<|WP.seq<|WP.block<|WP.seq<|WP.reg<|WL.e (ZZ' Z6' hA4 hlt)<|WL.e (Ys' a5 Yp' hA4 hc)<|WL.e Zb'<|WL.next<|WP.reg<|WL.e Za'<|WL.e (ZgH_ (m:=8) (by decide))<|WL.e Za'<|WL.e (Zeq_ (by rw [Tryz.underlying5];rfl) Tryz.underlying24)<|WL.e Zi6_<|WL.e Zb'<|WL.nil<|PO.blockN<|PO.next<|WP.reg<|WL.e (ZE' rfl rfl (Zt' (by omega) (by omega)))<|WL.e Za'<|WL.nil ?_
   exact PO.againK (x+1,(n <<< 8) ||| c.toUInt32) ⟨by simp only;omega,by simp only;rw [ZA' hc,beN,List.foldl_append,← beN,← hx2];rfl⟩ (by simp only;omega)
  ·obtain rfl:n=beN (b.take 4):=by rw [hx2,List.take_of_length_le (by simp at h2;omega)]
   clear hx2
   refine WP.exit<|PO.past nofun<|PO.round nofun<|PO.blockX<|PO.next<|WP.seq<|WP.seq<|WP.reg<|WL.e Za'<|WL.e (Qm' (b:=16384))<|WL.next ?_
   refine WP.cond rfl (fun h3=>?_) (fun h3=>?_)
   ·replace h3:16384 < (beN (b.take 4)).toNat:=by simpa [UInt32.lt_iff_toNat_lt] using h3
    refine WP.seq<|WP.reg<|WL.e Zb'<|WL.e Zb'<|WL.e Zb'<|WL.next<|WP.ret<|PO.past nofun ?_
    exact PO.fin Tryz.results99 (Zd' (Zd' (Zd' Zf'))) (hK.1 (by simp [getF,h1,h3]))
   ·replace h3:¬ 16384 < (beN (b.take 4)).toNat:=by simpa [UInt32.lt_iff_toNat_lt] using h3
    obtain ⟨n,hn⟩:∃ n,n=(beN (b.take 4)).toNat:=⟨_,rfl⟩
    rw [← hn] at h3
    rw [← hn]
    have hs1:=Kl' n
    have hs2:=ZcQ_ n
    refine WP.skip<|PO.next<|WP.seq<|WP.reg<|WL.e Za'<|WL.e (Y6' (c:=(n:Int)) (by rw [Tryz.underlying24];rfl) Tryz.underlying3 rfl (Zt' (by omega) (by omega)))<|WL.e (ZE' (c:=((8+n:Nat):Int)) rfl rfl (by rw [Zt' (by omega) (by omega)];omega))<|WL.e Zb'<|WL.next<|WP.seq<|WP.reg<|WL.e Za'<|WL.e (Y6' (c:=(n:Int)) (by rw [Tryz.underlying24];rfl) Tryz.underlying3 rfl (Zt' (by omega) (by omega))) ?_
    refine WL.h (Zg' (U8' n (by omega)) k119 ?_)
    refine WL.e Zb'<|WL.next<|WP.seq<|WP.seq<|WP.reg<|WL.e Za'<|WL.e (QC' (c:=((secs n * 64:Nat):Int)) rfl rfl (by rw [Zt' (by omega) (by omega)];omega))<|WL.e Za'<|WL.e (ZD' Z6' hA)<|WL.e YY'<|WL.next ?_
    refine WP.cond rfl (fun h4=>?_) (fun h4=>?_)
    ·replace h4:b.length < secs n * 64:=by simp at h4;omega
     refine WP.seq<|WP.reg<|WL.e Zb'<|WL.e Zb'<|WL.e Zb'<|WL.next<|WP.ret<|PO.past nofun ?_
     exact PO.fin Tryz.results99 (Zd' (Zd' (Zd' Zf'))) (hK.1 (by simp [getF,h1,← hn,h3,h4]))
    ·replace h4:¬ b.length < secs n * 64:=by simp at h4;omega
     have hA8:RL A 1 eB (subV u 8 (8+n) (some (8+n)) 1) ((b.drop 8).take n):=by have:=RL.sub (lo:=8) (hi:=8+n) (mx:=some (8+n)) Yp' hA (by omega) (by omega) (by rintro m ⟨⟩;omega);rwa [show 8+n - 8=n by omega] at this
     refine WP.skip<|PO.next<|WP.seq<|WP.reg<|WL.e Za'<|WL.e Za'<|WL.e Za'<|WL.e (Zho_ (lo:=8) (hi:=8+n) Z6' hA (by omega) (by omega)) ?_
     refine WL.h (Zg' (Zba_ hA8 (by simp;omega)) k97 ?_)
     intro a6 n6 c6
     refine WL.e Zb'<|WL.next<|WP.seq<|WP.reg<|WL.e Za' ?_
     refine WL.h (Zg' (Zev_ (b:=(b.drop 8).take n) Zr') k120 ?_)
     refine ⟨fun hx=>absurd hx (by simp;omega),fun _ a7 n7 c7=>?_⟩
     refine WL.e Za'<|WL.e Ze'<|WL.e Ze'<|WL.e Zb'<|WL.e Zb'<|WL.next<|WP.seq<|WP.seq<|WP.reg<|WL.e Za'<|WL.e Za'<|WL.e Za'<|WL.e (QC' (c:=((secs n * 64:Nat):Int)) rfl rfl (by rw [Zt' (by omega) (by omega)];omega))<|WL.e (VH' (hi:=secs n * 64) Z6' hA (by omega)) ?_
     refine WL.h (Zg' (ZfQ_ (xs:=frame ((b.drop 8).take n)) Zr' (RL.to_ (hi:=secs n * 64) Yp' hA (by omega)) (by rw [XD',show ((b.drop 8).take n).length=n by simp;omega];omega)) k121 ?_)
     refine WL.e Zx'<|WL.next ?_
     refine WP.cond rfl (fun h5=>?_) (fun h5=>?_)
     ·skip
      refine WP.seq<|WP.reg<|WL.e Zb'<|WL.e Zb'<|WL.e Zb'<|WL.next<|WP.ret<|PO.past nofun ?_
      exact PO.fin Tryz.results99 (Zd' (Zd' (Zd' Zf'))) (hK.1 (by simp at h5;simp [getF,h1,← hn,h3,h4,h5]))
     ·skip
      refine WP.skip<|PO.next<|WP.seq<|WP.reg<|WL.e Za'<|WL.e Za'<|WL.e Zb'<|WL.e Zb'<|WL.e Zb'<|WL.next<|WP.ret ?_
      exact PO.fin Tryz.results99 (Zd' (Zd' (Zd' Zf'))) (hK.2 ((b.drop 8).take n) (secs n) (by simp at h5;simp [getF,h1,← hn,h3,h4,h5]) a6 n6 c6)
end Go.SL
namespace Go.SL
open Go
def pad (b:List UInt8):List UInt8:=b.take 64++List.replicate (64 - b.length) 0
theorem Ui' (b:List UInt8):(pad b).length=64:=by simp [pad];omega
theorem Zb0_ {b:List UInt8} (h:b.length=64):pad b=b:=by simp [pad,h,List.take_of_length_le]
theorem ZmQ_ (b:List UInt8):pad (pad b)=pad b:=Zb0_ (Ui' b)
def Yq' (p:List UInt8):List Value:=(pad p).flatMap eB
theorem ZhC_ (p:List UInt8):Yq' (pad p)=Yq' p:=by simp [Yq',ZmQ_]
theorem QV':EncOk 64 Yq':=⟨fun p=>by simp [Yq',Yg' Yp',Ui'],fun p=>Jx' Yp' _⟩
def Jb' (w:Nat × List UInt8):List Value:=.int .i64 w.1::Yq' w.2
theorem ZhD_:EncOk 65 Jb':=⟨fun p=>by simp [Jb',QV'.len],fun p=>by simp [Jb',ones,QV'.one];rfl⟩
theorem Zb1_:Yq' (List.replicate 64 0)=List.replicate 64 (.int .u8 0):=by rw [Yq',Zb0_ (by simp)];rfl
theorem ZkY_ {A:HP} {u:Value} {xs:List (List UInt8)} {i:Nat} {b:List UInt8} (h:RL A 64 Yq' u xs) (hb:xs[i]?=some b):RL A 1 eB (slA u (i * 64) 64) (pad b):=by
  have hlt:=Yf' hb
  have:=Zox_ (k:=i * 64) (n:=64) (z1:=1) h (by omega) (by decide)
  rw [show 64 * 1=64 from rfl,Zgu_ QV' hb] at this
  unfold RL;rw [Ui'];exact this
structure DiskM where
  sure:List (List UInt8)
  seen:List (List UInt8)
  waits:List (Nat × List UInt8)
def Z0' (n:Nat):DiskM:=⟨List.replicate n (List.replicate 64 0),List.replicate n (List.replicate 64 0),[]⟩
def DiskM.write (d:DiskM) (i:Nat) (b:List UInt8):DiskM:={ d with seen:=d.seen.set i (pad b),waits:=d.waits++[(i,pad b)] }
def DiskM.sync (d:DiskM):DiskM:=⟨d.seen,d.seen,[]⟩
theorem ZhE_ (b:List UInt8) (h:b.length≤64):ZP' (List.replicate 64 (.int .u8 0)) 0 ((b.flatMap eB).take (Nat.min b.length 64 * 1))=Yq' b:=by
  have hm:Nat.min b.length 64=b.length:=Nat.min_eq_left h
  rw [hm,Nat.mul_one,List.take_of_length_le (by rw [Yg' Yp'];omega),X5' _ _ _ (by rw [Yg' Yp'];simp;omega),Yg' Yp']
  simp only [Yq',pad,List.take_of_length_le h,List.flatMap_append,List.take_zero,List.nil_append,Nat.zero_add,Nat.mul_one,List.drop_replicate]
  congr 1
  generalize 64 - b.length=k
  induction k with
  | zero=>rfl
  | succ k ih=>rw [List.replicate_succ,List.replicate_succ,List.flatMap_cons,ih];rfl
end Go.SL
namespace Go.SL.Fc
open Go Go.Proofs Go.SL
theorem a117:ZK' Tryz.prog 117=some none:=by kernel_rfl
theorem a118:ZK' Tryz.prog 118=some none:=by kernel_rfl
theorem a209:ZK' Tryz.prog 209=some (some 64):=by kernel_rfl
theorem Zmt_:Ur' Tryz.prog 209=some (5,64,1):=by kernel_rfl
theorem Zjb_:ZO' Tryz.prog 120 0=some 0:=by kernel_rfl
theorem Zew_:ZO' Tryz.prog 120 1=some 1:=by kernel_rfl
theorem Zb2_:ZO' Tryz.prog 120 2=some 2:=by kernel_rfl
theorem k68:Zh' Tryz.prog 68=true:=by kernel_rfl
theorem k96:Zh' Tryz.prog 96=true:=by kernel_rfl
theorem p120:Ya' Tryz.prog 120=some [(0,1),(1,1),(2,1)]:=by kernel_rfl
theorem p214:Ya' Tryz.prog 214=some [(0,1),(1,64)]:=by kernel_rfl
theorem pt71:X3' Tryz.prog 71=true:=by kernel_rfl
theorem s118:szOf Tryz.prog 118=some 1:=by kernel_rfl
theorem s209:szOf Tryz.prog 209=some 64:=by kernel_rfl
theorem VL':slOf Tryz.prog 117=some (209,64,64):=by kernel_rfl
theorem Zmu_:slOf Tryz.prog 118=some (214,65,72):=by kernel_rfl
theorem z120:ZH' Tryz.prog 120=some [.slice none 0 0,.slice none 0 0,.slice none 0 0]:=by kernel_rfl
theorem z209:ZH' Tryz.prog 209=some (List.replicate 64 (.int .u8 0)):=by kernel_rfl
theorem z214:ZH' Tryz.prog 214=some [.int .i64 0,.int .u8 0,.int .u8 0,.int .u8 0,.int .u8 0,.int .u8 0,.int .u8 0,.int .u8 0,.int .u8 0,.int .u8 0,.int .u8 0,.int .u8 0,.int .u8 0,.int .u8 0,.int .u8 0,.int .u8 0,.int .u8 0,.int .u8 0,.int .u8 0,.int .u8 0,.int .u8 0,.int .u8 0,.int .u8 0,.int .u8 0,.int .u8 0,.int .u8 0,.int .u8 0,.int .u8 0,.int .u8 0,.int .u8 0,.int .u8 0,.int .u8 0,.int .u8 0,.int .u8 0,.int .u8 0,.int .u8 0,.int .u8 0,.int .u8 0,.int .u8 0,.int .u8 0,.int .u8 0,.int .u8 0,.int .u8 0,.int .u8 0,.int .u8 0,.int .u8 0,.int .u8 0,.int .u8 0,.int .u8 0,.int .u8 0,.int .u8 0,.int .u8 0,.int .u8 0,.int .u8 0,.int .u8 0,.int .u8 0,.int .u8 0,.int .u8 0,.int .u8 0,.int .u8 0,.int .u8 0,.int .u8 0,.int .u8 0,.int .u8 0,.int .u8 0]:=by kernel_rfl
end Go.SL.Fc
namespace Go.SL
open Go Go.Proofs Fc
def Dk (p:Nat) (d:DiskM):HP:=fun S=>∃ x:SV × SV × SV,Zo' [cl p 120 [x.1.v,x.2.1.v,x.2.2.v],Sl 209 64 Yq' x.1.v d.sure,Sl 209 64 Yq' x.2.1.v d.seen,Sl 214 65 Jb' x.2.2.v d.waits] S
theorem ZdT_ {p:Nat} {d:DiskM}:∀ S,Dk p d S→∃ x:SV × SV × SV,Zo' [cl p 120 [x.1.v,x.2.1.v,x.2.2.v],Sl 209 64 Yq' x.1.v d.sure,Sl 209 64 Yq' x.2.1.v d.seen,Sl 214 65 Jb' x.2.2.v d.waits] S:=fun _ h=>h
theorem Qn' {g:World} (n:Nat) (hn:n < 4294967296):Spec Tryz.prog g 25 [.int .i64 n] [] fun K R=>((n < 1∨4096 < n)→K (.tuple #[.pointer none,.int .i64 1]) R)∧(¬ n < 1→¬ 4096 < n→∀ p,K (.tuple #[.pointer (some ⟨p,0,none⟩),.int .i64 0]) (Dk p (Z0' n)::R)):=by
 refine Spec.intro Tryz.func25 rfl Tryz.ntmps25 rfl fun R K hK=>?_
 refine WP.seq<|WP.reg<|WL.e Zb'<|WL.e Zb'<|WL.next<|WP.seq<|WP.seq<|WP.reg<|WL.e Za'<|WL.e Z3'<|WL.e Za' ?_
 refine WL.bool 6 rfl (fun h1=>?_) (fun h1=>?_)
 ·replace h1:n < 1:=by simp at h1;omega
  refine WL.skip<|WL.skip<|WL.e Zn'<|WL.next<|WP.cond_t rfl<|WP.seq<|WP.reg<|WL.e Zb'<|WL.e Zb'<|WL.next<|WP.ret<|PO.past nofun ?_
  exact PO.fin Tryz.results25 (Zd' (Zd' Zf')) (hK.1 (.inl h1))
 ·replace h1:¬ n < 1:=by simp at h1;omega
  refine WL.e Za'<|WL.e YY'<|WL.e Zl'<|WL.next ?_
  refine WP.cond rfl (fun h2=>?_) (fun h2=>?_)
  ·replace h2:4096 < n:=by simp at h2;omega
   refine WP.seq<|WP.reg<|WL.e Zb'<|WL.e Zb'<|WL.next<|WP.ret<|PO.past nofun ?_
   exact PO.fin Tryz.results25 (Zd' (Zd' Zf')) (hK.1 (.inr h2))
  ·replace h2:¬ 4096 < n:=by simp at h2;omega
   refine WP.skip<|PO.next<|WP.seq<|WP.draws Zq' 8<|RW.e 0 rfl Za'<|RW.e 2 rfl Za' ?_
   refine RW.any (is:=[1,3]) rfl ⟨?_,?_,trivial⟩
   ·skip
    refine RWat.h rfl rfl rfl ?_
    refine (Vl' (enc:=Yq') (n:=n) (List.replicate 64 0) VL' z209 (by omega) (fun a1 n1 c1=>?_) (hzz:=by simp) (ha:=Zb1_))
    refine ⟨⟨⟨_,rfl,.inl ⟨rfl,Za'⟩⟩,trivial⟩,?_⟩
    refine RW.any (is:=[3]) rfl ⟨?_,trivial⟩
    refine RWat.h rfl rfl rfl ?_
    refine (Vl' (enc:=Yq') (n:=n) (List.replicate 64 0) VL' z209 (by omega) (fun a2 n2 c2=>?_) (hzz:=by simp) (ha:=Zb1_))
    refine ⟨trivial,?_⟩
    refine RW.e 4 rfl (Zv' z120 p120 (.o (.tmp 11) rfl<|.o (.tmp 13) rfl<|.z (.slice none 0 0)<|.n)) ?_
    refine RW.any (is:=[5]) rfl ⟨?_,trivial⟩
    refine RWat.h rfl rfl rfl ?_
    refine (ZL' fun b1=>?_)
    refine ⟨trivial,?_⟩
    refine RW.e 6 rfl Zb'<|RW.e 7 rfl Zb'<|RW.done<|PO.next<|WP.ret<|PO.nils 214 65 Jb' none ?_
    refine PO.cls (A:=Dk b1 (Z0' n)) (fun S h=>⟨(⟨a1,n1,c1⟩,⟨a2,n2,c2⟩,⟨none,0,0⟩),h⟩) ?_ (B:=[cl b1 120 [.slice a1 n1 c1,.slice a2 n2 c2,.slice none 0 0],Sl 209 64 Yq' (.slice a1 n1 c1) (Z0' n).sure,Sl 209 64 Yq' (.slice a2 n2 c2) (Z0' n).seen,Sl 214 65 Jb' (.slice none 0 0) []])
    exact PO.fin Tryz.results25 (Zd' (Zd' Zf')) (hK.2 h1 h2 b1)
   ·skip
    refine RWat.h rfl rfl rfl ?_
    refine (Vl' (enc:=Yq') (n:=n) (List.replicate 64 0) VL' z209 (by omega) (fun a2 n2 c2=>?_) (hzz:=by simp) (ha:=Zb1_))
    refine ⟨⟨⟨_,rfl,.inl ⟨rfl,Za'⟩⟩,trivial⟩,?_⟩
    refine RW.any (is:=[1]) rfl ⟨?_,trivial⟩
    refine RWat.h rfl rfl rfl ?_
    refine (Vl' (enc:=Yq') (n:=n) (List.replicate 64 0) VL' z209 (by omega) (fun a1 n1 c1=>?_) (hzz:=by simp) (ha:=Zb1_))
    refine ⟨trivial,?_⟩
    refine RW.e 4 rfl (Zv' z120 p120 (.o (.tmp 11) rfl<|.o (.tmp 13) rfl<|.z (.slice none 0 0)<|.n)) ?_
    refine RW.any (is:=[5]) rfl ⟨?_,trivial⟩
    refine RWat.h rfl rfl rfl ?_
    refine (ZL' fun b2=>?_)
    refine ⟨trivial,?_⟩
    refine RW.e 6 rfl Zb'<|RW.e 7 rfl Zb'<|RW.done<|PO.next<|WP.ret<|PO.nils 214 65 Jb' none ?_
    refine PO.cls (A:=Dk b2 (Z0' n)) (fun S h=>⟨(⟨a1,n1,c1⟩,⟨a2,n2,c2⟩,⟨none,0,0⟩),h⟩) ?_ (B:=[cl b2 120 [.slice a1 n1 c1,.slice a2 n2 c2,.slice none 0 0],Sl 209 64 Yq' (.slice a1 n1 c1) (Z0' n).sure,Sl 209 64 Yq' (.slice a2 n2 c2) (Z0' n).seen,Sl 214 65 Jb' (.slice none 0 0) []])
    exact PO.fin Tryz.results25 (Zd' (Zd' Zf')) (hK.2 h1 h2 b2)
theorem J7' {g:World} {p:Nat} {d:DiskM}:Spec Tryz.prog g 68 [.pointer (some ⟨p,0,none⟩)] [Dk p d] fun K R=>K (.int .i64 d.sure.length) (Dk p d::R):=by
 refine Spec.intro Tryz.func68 rfl Tryz.ntmps68 rfl fun R K hK=>?_
 refine WP.seq<|WP.reg<|WL.e Zb'<|WL.next<|WP.seq<|WP.seq<|WP.reg<|WL.e Za'<|WL.e (JW' pt71)<|WL.next ?_
 refine WP.cond rfl (fun h=>?_) (fun h=>?_)
 ·cases h
 ·refine WP.opn (ZdT_ (p:=p) (d:=d)) fun x=>?_
  obtain ⟨s1,s2,s3⟩:=x
  dsimp only
  refine WP.skip<|PO.next<|WP.seq<|WP.reg<|WL.e Za'<|WL.e Zk'<|WL.e (e_fa Zjb_)<|WL.e (Zc' a117)<|WL.e (ZD' VL' (Zr' (xs:=d.sure)))<|WL.e Zb'<|WL.next<|WP.ret<|PO.cls (A:=Dk p d) (B:=[cl p 120 [s1.v,s2.v,s3.v],Sl 209 64 Yq' s1.v d.sure,Sl 209 64 Yq' s2.v d.seen,Sl 214 65 Jb' s3.v d.waits]) (fun S h=>⟨(s1,s2,s3),h⟩) ?_
  exact PO.fin Tryz.results68 (Zd' Zf') hK
theorem Zdl_ {g:World} {p:Nat} {d:DiskM} (i:Nat) (hi:i < d.sure.length):Spec Tryz.prog g 96 [.pointer (some ⟨p,0,none⟩),.int .i64 i] [Dk p d] fun K R=>K (.int .i64 0) (Dk p d::R):=by
 refine Spec.intro Tryz.func96 rfl Tryz.ntmps96 rfl fun R K hK=>?_
 refine WP.seq<|WP.reg<|WL.e Zb'<|WL.next<|WP.seq<|WP.block<|WP.seq<|WP.reg<|WL.e Za' ?_
 refine WL.h (Zg' (J7') k68 ?_)
 refine WL.e ZM'<|WL.e Zb'<|WL.next ?_
 refine WP.cond rfl (fun h=>?_) (fun h=>?_)
 ·rw [beq_iff_eq] at h;omega
 ·skip
  refine WP.seq<|WP.reg<|WL.e Za'<|WL.e Z3'<|WL.e Za' ?_
  refine WL.bool 12 rfl (fun h1=>?_) (fun h1=>?_)
  ·rw [decide_eq_true_eq] at h1;omega 
  ·skip
   refine WL.e Za'<|WL.e Za' ?_
   refine WL.h (Zg' (J7') k68 ?_)
   refine WL.e YD'<|WL.e Zl'<|WL.e Zb'<|WL.next ?_
   refine WP.cond rfl (fun h2=>?_) (fun h2=>?_)
   ·rw [decide_eq_true_eq] at h2;omega
   ·skip
    refine WP.skip<|PO.blockN<|PO.next<|WP.seq<|WP.reg<|WL.e Zb'<|WL.next<|WP.ret ?_
    exact PO.fin Tryz.results96 (Zd' Zf') hK
theorem Zb3_ {g:World} {A:HP} {p:Nat} {d:DiskM} {u:Value} {b:List UInt8} (i:Nat) (hA:RL A 1 eB u b) (hi:i < d.sure.length) (hd:d.seen.length=d.sure.length) (hl:d.sure.length≤4096) (hb:b.length≤64) (hw:d.waits.length < 4294967296):Spec Tryz.prog g 72 [.pointer (some ⟨p,0,none⟩),.int .i64 i,u] [Dk p d,A] fun K R=>K (.int .i64 0) (Dk p (d.write i b)::A::R):=by
 refine Spec.intro Tryz.func72 rfl Tryz.ntmps72 rfl fun R K hK=>?_
 refine WP.seq<|WP.reg<|WL.e Zb'<|WL.next<|WP.seq<|WP.seq<|WP.reg<|WL.e Za'<|WL.e Za' ?_
 refine WL.h (Zg' (Zdl_ (d:=d) i hi) k96 ?_)
 refine WL.e Zb'<|WL.next<|WP.seq<|WP.reg<|WL.e Za'<|WL.e Z2'<|WL.next<|WP.cond_f rfl<|WP.skip<|PO.next<|WP.seq<|WP.seq<|WP.reg<|WL.e Za'<|WL.e (ZD' Z6' hA)<|WL.e YY'<|WL.next ?_
 refine WP.cond rfl (fun h=>?_) (fun h=>?_)
 ·rw [decide_eq_true_eq] at h;omega
 ·skip
  refine WP.skip<|PO.next<|WP.seq<|WP.reg<|WL.opn (ZdT_ (p:=p) (d:=d)) fun x=>?_
  obtain ⟨s1,s2,s3⟩:=x
  dsimp only
  refine WL.h (Zu' z209 fun b1=>?_)
  refine WL.next<|WP.seq<|WP.reg<|WL.e (Za8_ Zmt_ rfl (.inl ⟨rfl,rfl⟩) (.inl ⟨rfl,rfl⟩) (by omega) (by omega))<|WL.e Za' ?_
  refine WL.h (Zel_ (T:=137) (l:=List.replicate 64 (.int .u8 0)) (n:=64) (c:=64) (o:=0) Z6' ((At.lit (b:=b1) (o:=0) (Nat.le_refl 64)).sub (Nat.zero_le _) (Nat.le_refl _) (Nat.le_refl _)) (by simp) hA (U5' _ (Jx' Yp' b)) ?_)
  rw [ZhE_ b hb,← ZhC_]
  refine WL.next<|WP.seq<|WP.draws Zq' 8<|RW.e 0 rfl Za'<|RW.e 1 rfl Zk'<|RW.e 2 rfl (e_fa Zew_)<|RW.e 3 rfl (Zc' a117)<|RW.e 4 rfl Za'<|RW.e 5 rfl (ZcP_ (l:=Yq' (pad b)) a209 (QV'.len _))<|RW.e 6 rfl (ZZ' (j:=i) (xs:=d.seen) VL' Zr' (by omega)) ?_
  refine RW.any (is:=[7]) rfl ⟨?_,trivial⟩
  refine RWat.h' rfl rfl rfl ?_
  refine (Vq' (xs:=d.seen) (j:=i) (pad b) s209 QV' (by omega) ?_)
  refine ⟨trivial,?_⟩
  refine RW.done<|PO.next<|WP.seq<|WP.draws Zq' 13<|RW.e 0 rfl Za'<|RW.e 1 rfl Za'<|RW.e 2 rfl Zk'<|RW.e 3 rfl (e_fa Zb2_)<|RW.e 4 rfl (Zc' a118)<|RW.e 5 rfl Za'<|RW.e 6 rfl (ZcP_ (l:=Yq' (pad b)) a209 (QV'.len _))<|RW.e 7 rfl (Zeu_ z214 p214 (QV'.len _)) ?_
  refine RW.any (is:=[8]) rfl ⟨?_,trivial⟩
  refine RWat.h rfl rfl rfl ?_
  refine (Zow_ (cs:=Jb' (i,pad b)) Zmu_ z214 (ZhD_.len _) (fun b5=>?_))
  refine ⟨⟨⟨_,rfl,.inl ⟨rfl,(Zc' a118)⟩⟩,⟨_,rfl,.inl ⟨rfl,(e_fa Zb2_)⟩⟩,⟨_,rfl,.inl ⟨rfl,Zk'⟩⟩,⟨_,rfl,.inl ⟨rfl,Za'⟩⟩,⟨_,rfl,.inl ⟨rfl,Za'⟩⟩,trivial⟩,?_⟩
  refine RW.any (is:=[9]) rfl ⟨?_,trivial⟩
  refine RWat.h rfl rfl rfl ?_
  refine (ZG' (xs:=d.waits) (ys:=[(i,pad b)]) Zmu_ ZhD_ z214 (Z7' ZhD_ [(i,pad b)] (show [(i,pad b)].flatMap Jb'=Jb' (i,pad b) by simp)) (by simp;omega) (fun a6 n6 c6=>?_))
  refine ⟨⟨⟨_,rfl,.inl ⟨rfl,Za'⟩⟩,trivial⟩,?_⟩
  refine RW.e 10 rfl Zk'<|RW.e 11 rfl (e_fa Zb2_) ?_
  refine RW.any (is:=[12]) rfl ⟨?_,trivial⟩
  refine RWat.h' rfl rfl rfl ?_
  refine (Zj' s118 ?_)
  refine ⟨trivial,?_⟩
  refine RW.done<|PO.next<|WP.seq<|WP.reg<|WL.e Zb'<|WL.next<|WP.ret<|PO.cls (A:=Dk p (d.write i b)) (B:=[cl p 120 [s1.v,s2.v,.slice a6 n6 c6],Sl 209 64 Yq' s1.v d.sure,Sl 209 64 Yq' s2.v (d.seen.set i (pad b)),Sl 214 65 Jb' (.slice a6 n6 c6) (d.waits++[(i,pad b)])]) (fun S h=>⟨(s1,s2,⟨a6,n6,c6⟩),h⟩) ?_
  exact PO.fin Tryz.results72 (Zd' Zf') hK
theorem Zdm_ {g:World} {p:Nat} {d:DiskM} (h0:0 < d.sure.length) (hd:d.seen.length=d.sure.length):Spec Tryz.prog g 73 [.pointer (some ⟨p,0,none⟩)] [Dk p d] fun K R=>K (.int .i64 0) (Dk p d.sync::R):=by
 refine Spec.intro Tryz.func73 rfl Tryz.ntmps73 rfl fun R K hK=>?_
 refine WP.seq<|WP.reg<|WL.e Zb'<|WL.next<|WP.seq<|WP.seq<|WP.reg<|WL.e Za' ?_
 refine WL.h (Zg' (J7') k68 ?_)
 refine WL.e ZM'<|WL.next ?_
 refine WP.cond rfl (fun h=>?_) (fun h=>?_)
 ·rw [beq_iff_eq] at h;omega
 ·refine WP.opn (ZdT_ (p:=p) (d:=d)) fun x=>?_
  obtain ⟨s1,s2,s3⟩:=x
  dsimp only
  refine WP.skip<|PO.next<|WP.seq<|WP.draws Zq' 9<|RW.e 0 rfl Za'<|RW.e 1 rfl Zk'<|RW.e 2 rfl (e_fa Zjb_)<|RW.e 3 rfl (Zc' a117)<|RW.e 4 rfl Za'<|RW.e 5 rfl Zk'<|RW.e 6 rfl (e_fa Zew_)<|RW.e 7 rfl (Zc' a117) ?_
  refine RW.any (is:=[8]) rfl ⟨?_,trivial⟩
  refine RWat.h rfl rfl rfl ?_
  refine (ZkT_ (u:=s1.v) (xs:=d.sure) VL' QV' (Zr' (xs:=d.seen)) ?_)
  rw [show over d.sure 0 d.seen=d.seen by simp [over,← hd]]
  refine ⟨trivial,?_⟩
  refine RW.done<|PO.next<|WP.seq<|WP.reg<|WL.e Za'<|WL.e Zk'<|WL.e (e_fa Zb2_) ?_
  refine WL.h' (Zj' s118 ?_)
  refine WL.next<|WP.seq<|WP.reg<|WL.e Zb'<|WL.next<|WP.ret<|PO.nils 214 65 Jb' none ?_
  refine PO.cls (A:=Dk p d.sync) (B:=[cl p 120 [s1.v,s2.v,.slice none 0 0],Sl 209 64 Yq' s1.v d.seen,Sl 209 64 Yq' s2.v d.seen,Sl 214 65 Jb' (.slice none 0 0) []]) (fun S h=>⟨(s1,s2,⟨none,0,0⟩),h⟩) ?_
  exact PO.fin Tryz.results73 (Zd' Zf') hK
theorem Zjc_ {g:World} {p:Nat} {d:DiskM} (i:Nat) (b:List UInt8) (hi:i < d.sure.length) (hb:d.seen[i]?=some b) (h64:b.length=64):Spec Tryz.prog g 69 [.pointer (some ⟨p,0,none⟩),.int .i64 i] [Dk p d] fun K R=>∀ a m c,K (.tuple #[.slice a m c,.int .i64 0]) (Sl 5 1 eB (.slice a m c) b::Dk p d::R):=by
 refine Spec.intro Tryz.func69 rfl Tryz.ntmps69 rfl fun R K hK=>?_
 refine WP.seq<|WP.reg<|WL.e Zb'<|WL.e Zb'<|WL.next<|WP.seq<|WP.seq<|WP.reg<|WL.e Za'<|WL.e Za' ?_
 refine WL.h (Zg' (Zdl_ (d:=d) i hi) k96 ?_)
 refine WL.opn (ZdT_ (p:=p) (d:=d)) fun x=>?_
 obtain ⟨s1,s2,s3⟩:=x
 dsimp only
 refine WL.e Zb'<|WL.next<|WP.seq<|WP.reg<|WL.e Za'<|WL.e Z2'<|WL.next<|WP.cond_f rfl<|WP.skip<|PO.next<|WP.seq<|WP.reg<|WL.e Za'<|WL.e Zk'<|WL.e (e_fa Zew_)<|WL.e (Zc' a117)<|WL.e Za'<|WL.e (ZZ' (j:=i) (xs:=d.seen) VL' Zr' (Yf' hb))<|WL.e (ZhB_ (k:=i * 64) (z:=64) Zmt_ (Zr' (E:=209) (z:=64) (enc:=Yq') (u:=s2.v) (xs:=d.seen)) (by have:=Yf' hb;omega)) ?_
 refine WL.h (Zg' (Zba_ (ZkY_ (Zr' (E:=209) (u:=s2.v) (xs:=d.seen)) hb) (by rw [Ui'];omega)) k97 ?_)
 intro a9 n9 c9
 rw [Zb0_ h64]
 refine WL.e Zb'<|WL.e Zb'<|WL.next<|WP.ret<|PO.cls (A:=Dk p d) (B:=[cl p 120 [s1.v,s2.v,s3.v],Sl 209 64 Yq' s1.v d.sure,Sl 209 64 Yq' s2.v d.seen,Sl 214 65 Jb' s3.v d.waits]) (fun S h=>⟨(s1,s2,s3),h⟩) ?_
 exact PO.fin Tryz.results69 (Zd' (Zd' Zf')) (hK a9 n9 c9)
end Go.SL
namespace Go.SL
open Go
def addW (d:DiskM) (i:Nat) (b:List UInt8):Nat→DiskM
  | 0=>d
  | k+1=>addW (d.write i (b.take 64)) (i+1) (b.drop 64) k
structure DiskM.ok (d:DiskM):Prop where
  pos:0 < d.sure.length
  le:d.sure.length≤4096
  len:d.seen.length=d.sure.length
  l1:∀ p ∈ d.sure,p.length=64
  l2:∀ p ∈ d.seen,p.length=64
theorem DiskM.ok.write {d:DiskM} (h:d.ok) (i:Nat) (b:List UInt8):(d.write i b).ok:=
  ⟨h.pos,h.le,by simpa [DiskM.write] using h.len,h.l1,fun p hp=>by
    rcases List.mem_or_eq_of_mem_set hp with h' | rfl
    · exact h.l2 p h'
    · exact Ui' b⟩
theorem DiskM.ok.sync {d:DiskM} (h:d.ok):d.sync.ok:=⟨by simp [DiskM.sync,h.len,h.pos],by simp [DiskM.sync,h.len,h.le],rfl,h.l2,h.l2⟩
theorem ZhF_ {n:Nat} (h1:0 < n) (h2:n≤4096):(Z0' n).ok:=by
  refine ⟨by simpa [Z0'] using h1,by simpa [Z0'] using h2,by simp [Z0'],?_,?_⟩ <;> intro p hp <;> simp [Z0',List.mem_replicate] at hp <;> simp [hp.2]
theorem KW':∀ (k:Nat) (d:DiskM) (i:Nat) (b:List UInt8),d.ok→(addW d i b k).ok
  | 0,_,_,_,h=>h
  | k+1,d,i,b,h=>KW' k _ _ _ (h.write i _)
theorem Zbq_:∀ (k:Nat) (d:DiskM) (i:Nat) (b:List UInt8),(addW d i b k).sure=d.sure∧(addW d i b k).waits.length=d.waits.length+k
  | 0,_,_,_=>⟨rfl,rfl⟩
  | k+1,d,i,b=>by
    obtain ⟨h1,h2⟩:=Zbq_ k (d.write i (b.take 64)) (i+1) (b.drop 64)
    exact ⟨h1,by rw [addW,h2];simp [DiskM.write];omega⟩
def YF' (all:List UInt8) (d:DiskM) (lo:Nat):Nat→DiskM
  | 0=>d
  | k+1=>if (all.drop ((lo+k) * 64)).take 64=List.replicate 64 0 then YF' all d lo k else (YF' all d lo k).write (lo+k) (List.replicate 64 0)
theorem Zb4_ (all:List UInt8) (d:DiskM) (lo:Nat):∀ k,d.ok→(YF' all d lo k).ok∧(YF' all d lo k).sure=d.sure∧(YF' all d lo k).waits.length≤d.waits.length+k
  | 0,h=>⟨h,rfl,by simp [YF']⟩
  | k+1,h=>by
    obtain ⟨h1,h2,h3⟩:=Zb4_ all d lo k h
    simp only [YF']
    split
    · exact ⟨h1,h2,by omega⟩
    · exact ⟨h1.write _ _,h2,by simp [DiskM.write];omega⟩
def recF:Nat→List UInt8→List (List UInt8 × Nat)
  | 0,_=>[]
  | k+1,b=>match getF b with
    | none=>[]
    | some (r,m)=>(r,m)::recF k (b.drop (m * 64))
def recs (b:List UInt8):List (List UInt8 × Nat):=recF b.length b
theorem VM' {b r:List UInt8} {m:Nat} (h:getF b=some (r,m)):0 < m∧m * 64≤b.length∧m=secs r.length∧r.length≤16384∧frame r=b.take (m * 64):=by
  unfold getF at h
  split at h
  · cases h
  simp only at h
  split at h
  · cases h
  split at h
  · cases h
  split at h
  case isFalse=>cases h
  cases h
  have:=Kl' (beN (b.take 4)).toNat
  rename_i h1 h2 h3 h4
  have e:((b.drop 8).take (beN (b.take 4)).toNat).length=(beN (b.take 4)).toNat:=by simp;omega
  refine ⟨by omega,by omega,by rw [e],by omega,h4⟩
theorem Zbc_:∀ (k j:Nat) (b:List UInt8),b.length≤k→b.length≤j→recF k b=recF j b
  | 0,0,_,_,_=>rfl
  | 0,j+1,b,h,_=>by
    have:b=[]:=by simpa using h
    subst this;rfl
  | k+1,0,b,_,h=>by
    have:b=[]:=by simpa using h
    subst this;rfl
  | k+1,j+1,b,h1,h2=>by
    simp only [recF]
    cases hg:getF b with
    | none=>rfl
    | some x=>
      obtain ⟨r,m⟩:=x
      obtain ⟨h3,h4,_⟩:=VM' hg
      simp only
      rw [Zbc_ k j _ (by simp;omega) (by simp;omega)]
theorem Zaa_ {b:List UInt8} (h:getF b=none):recs b=[]:=by
  unfold recs
  cases hb:b.length with
  | zero=>rfl
  | succ k=>simp [recF,h]
theorem QW' {b r:List UInt8} {m:Nat} (h:getF b=some (r,m)):recs b=(r,m)::recs (b.drop (m * 64)):=by
  obtain ⟨h3,h4,_⟩:=VM' h
  unfold recs
  obtain ⟨k,hk⟩:∃ k,b.length=k+1:=⟨b.length - 1,by omega⟩
  rw [hk];simp only [recF,h]
  rw [Zbc_ k (b.drop (m * 64)).length _ (by simp;omega) (Nat.le_refl _)]
theorem ZaN_:∀ (n:Nat) (b:List UInt8),b.length≤n→((recs b).map (·.2)).sum * 64≤b.length∧(recs b).length * 64≤b.length
  | 0,b,h=>by
    have:b=[]:=by simpa using h
    subst this;simp [recs,recF]
  | n+1,b,h=>by
    cases hg:getF b with
    | none=>rw [Zaa_ hg];simp
    | some x=>
      obtain ⟨r,m⟩:=x
      obtain ⟨h3,h4,_⟩:=VM' hg
      rw [QW' hg]
      have ih:=ZaN_ n (b.drop (m * 64)) (by simp;omega)
      simp only [List.map_cons,List.sum_cons,List.length_cons,List.length_drop] at ih ⊢
      omega
theorem VN' {l:List (List UInt8)} (h:∀ p ∈ l,p.length=64):l.flatten.length=l.length * 64:=by
  induction l with
  | nil=>rfl
  | cons p l ih=>rw [List.flatten_cons,List.length_append,ih (fun q hq=>h q (by simp [hq])),h p (by simp)];simp;omega
end Go.SL
namespace Go.SL.Fc
open Go Go.Proofs Go.SL
theorem a126:ZK' Tryz.prog 126=some none:=by kernel_rfl
theorem a127:ZK' Tryz.prog 127=some none:=by kernel_rfl
theorem a3:ZK' Tryz.prog 3=some none:=by kernel_rfl
theorem a71:ZK' Tryz.prog 71=some none:=by kernel_rfl
theorem Zb5_:ZO' Tryz.prog 164 0=some 0:=by kernel_rfl
theorem QX':ZO' Tryz.prog 164 1=some 1:=by kernel_rfl
theorem Kt':ZO' Tryz.prog 166 0=some 0:=by kernel_rfl
theorem k173:Zh' Tryz.prog 173=true:=by kernel_rfl
theorem k174:Zh' Tryz.prog 174=true:=by kernel_rfl
theorem k69:Zh' Tryz.prog 69=true:=by kernel_rfl
theorem k70:Zh' Tryz.prog 70=true:=by kernel_rfl
theorem k71:Zh' Tryz.prog 71=true:=by kernel_rfl
theorem k72:Zh' Tryz.prog 72=true:=by kernel_rfl
theorem k73:Zh' Tryz.prog 73=true:=by kernel_rfl
theorem k98:Zh' Tryz.prog 98=true:=by kernel_rfl
theorem k99:Zh' Tryz.prog 99=true:=by kernel_rfl
theorem p164:Ya' Tryz.prog 164=some [(0,1),(1,1)]:=by kernel_rfl
theorem p166:Ya' Tryz.prog 166=some [(0,2)]:=by kernel_rfl
theorem Zoy_:X3' Tryz.prog 126=true:=by kernel_rfl
theorem s126:szOf Tryz.prog 126=some 1:=by kernel_rfl
theorem s127:szOf Tryz.prog 127=some 1:=by kernel_rfl
theorem s3:szOf Tryz.prog 3=some 1:=by kernel_rfl
theorem Uu':slOf Tryz.prog 127=some (137,1,24):=by kernel_rfl
theorem z126:ZH' Tryz.prog 126=some [.pointer none]:=by kernel_rfl
theorem z127:ZH' Tryz.prog 127=some [.slice none 0 0]:=by kernel_rfl
theorem z164:ZH' Tryz.prog 164=some [.pointer none,.int .i64 0]:=by kernel_rfl
theorem z166:ZH' Tryz.prog 166=some [.pointer none,.int .i64 0]:=by kernel_rfl
end Go.SL.Fc
namespace Go.SL
open Go Go.Proofs Fc
theorem Zb6_ {g:World} {l p i:Nat}:Spec Tryz.prog g 173 [.pointer (some ⟨l,0,none⟩)] [cl l 166 [.pointer (some ⟨p,0,none⟩),.int .i64 i]] fun K R=>K (.bool true) (cl l 166 [.pointer (some ⟨p,0,none⟩),.int .i64 i]::R):=by
 refine Spec.intro Tryz.func173 rfl Tryz.ntmps173 rfl fun R K hK=>?_
 refine WP.seq<|WP.reg<|WL.e Zb'<|WL.next<|WP.seq<|WP.reg<|WL.e Za'<|WL.e (JX' Zoy_)<|WL.e Za' ?_
 refine WL.bool 5 rfl (fun h=>?_) (fun h=>?_)
 ·skip
  refine WL.e Za'<|WL.e Zk'<|WL.e (e_fa Kt')<|WL.e (e_fa Zb5_)<|WL.e (Zc' a71)<|WL.e (JX' pt71)<|WL.e Zn'<|WL.e Zb'<|WL.next<|WP.ret ?_
  exact PO.fin Tryz.results173 (Zd' Zf') hK
 ·cases h 
theorem Zjd_ {g:World} {l p i:Nat} {d:DiskM} (hi:i≤d.sure.length) (hl:d.sure.length≤4096):Spec Tryz.prog g 174 [.pointer (some ⟨l,0,none⟩)] [cl l 166 [.pointer (some ⟨p,0,none⟩),.int .i64 i],Dk p d] fun K R=>K (.int .i64 (d.sure.length - i:Nat)) (cl l 166 [.pointer (some ⟨p,0,none⟩),.int .i64 i]::Dk p d::R):=by
 refine Spec.intro Tryz.func174 rfl Tryz.ntmps174 rfl fun R K hK=>?_
 refine WP.seq<|WP.reg<|WL.e Zb'<|WL.next<|WP.seq<|WP.draws Zq' 11<|RW.e 0 rfl Za'<|RW.e 1 rfl Zk'<|RW.e 2 rfl (e_fa Zb5_)<|RW.e 3 rfl (Zc' a71)<|RW.e 5 rfl Za'<|RW.e 6 rfl Zk'<|RW.e 7 rfl (e_fa QX')<|RW.e 8 rfl (Zc' a3) ?_
 refine RW.any (is:=[4]) rfl ⟨?_,trivial⟩
 refine RWat.h rfl rfl rfl ?_
 refine (Zg' (J7') k68 ?_)
 refine ⟨⟨⟨_,rfl,.inl ⟨rfl,(Zc' a3)⟩⟩,⟨_,rfl,.inl ⟨rfl,(e_fa QX')⟩⟩,⟨_,rfl,.inl ⟨rfl,Zk'⟩⟩,⟨_,rfl,.inl ⟨rfl,Za'⟩⟩,trivial⟩,?_⟩
 refine RW.e 9 rfl (Y9' (c:=((d.sure.length - i:Nat):Int)) rfl rfl (by rw [Zt' (by omega) (by omega)];omega))<|RW.e 10 rfl Zb'<|RW.done<|PO.next<|WP.ret ?_
 exact PO.fin Tryz.results174 (Zd' Zf') hK
theorem Uv' {g:World} {l p i:Nat} {d:DiskM} (hd:d.ok):Spec Tryz.prog g 164 [.pointer (some ⟨l,0,none⟩)] [cl l 166 [.pointer (some ⟨p,0,none⟩),.int .i64 i],Dk p d] fun K R=>K (.int .i64 0) (cl l 166 [.pointer (some ⟨p,0,none⟩),.int .i64 i]::Dk p d.sync::R):=by
 refine Spec.intro Tryz.func164 rfl Tryz.ntmps164 rfl fun R K hK=>?_
 refine WP.seq<|WP.reg<|WL.e Zb'<|WL.next<|WP.seq<|WP.seq<|WP.reg<|WL.e Za' ?_
 refine WL.h (Zg' (Zb6_) k173 ?_)
 refine WL.e Zx'<|WL.next<|WP.cond_f rfl<|WP.skip<|PO.next<|WP.seq<|WP.reg<|WL.e Za'<|WL.e Zk'<|WL.e (e_fa Kt')<|WL.e (e_fa Zb5_)<|WL.e (Zc' a71) ?_
 refine WL.h (Zg' (Zdm_ hd.pos hd.len) k73 ?_)
 refine WL.e Zb'<|WL.next<|WP.ret ?_
 exact PO.fin Tryz.results164 (Zd' Zf') hK
theorem Zbr_ {g:World} {A:HP} {l p i:Nat} {d:DiskM} {u:Value} {b:List UInt8} (hA:RL A 1 eB u b) (hd:d.ok) (hi:i≤d.sure.length) (hw:d.waits.length < 4000000000) :
  Spec Tryz.prog g 163 [.pointer (some ⟨l,0,none⟩),u] [cl l 166 [.pointer (some ⟨p,0,none⟩),.int .i64 i],Dk p d,A] fun K R=>(16384 < b.length→K (.int .i64 3) (cl l 166 [.pointer (some ⟨p,0,none⟩),.int .i64 i]::Dk p d::A::R))∧(b.length≤16384→d.sure.length < i+secs b.length→K (.int .i64 5) (cl l 166 [.pointer (some ⟨p,0,none⟩),.int .i64 i]::Dk p d::A::R)) ∧
   (b.length≤16384→i+secs b.length≤d.sure.length→K (.int .i64 0) (cl l 166 [.pointer (some ⟨p,0,none⟩),.int .i64 (i+secs b.length:Nat)]::Dk p (addW d i (frame b) (secs b.length))::A::R)):=by
 refine Spec.intro Tryz.func163 rfl Tryz.ntmps163 rfl fun R K hK=>?_
 refine WP.seq<|WP.reg<|WL.e Zb'<|WL.next<|WP.seq<|WP.seq<|WP.reg<|WL.e Za' ?_
 refine WL.h (Zg' (Zb6_) k173 ?_)
 refine WL.e Zx'<|WL.next<|WP.cond_f rfl<|WP.skip<|PO.next<|WP.seq<|WP.reg<|WL.e Za' ?_
 refine WL.h (Zg' (Zev_ hA) k120 ?_)
 refine ⟨fun h1=>?_,fun h1 a1 n1 c1=>?_⟩
 ·skip
  refine WL.e Za'<|WL.e Ze'<|WL.e Ze'<|WL.e Zb'<|WL.e Zb'<|WL.next<|WP.seq<|WP.block<|WP.seq<|WP.reg<|WL.e Za'<|WL.e Z2'<|WL.e Zb'<|WL.next<|WP.cond_t rfl<|WP.seq<|WP.reg<|WL.e Za'<|WL.e Zb'<|WL.next<|WP.ret<|PO.blockR<|PO.past nofun ?_
  exact PO.fin Tryz.results163 (Zd' Zf') (hK.1 h1)
 ·have hdl:=hd.le
  have hs1:=Kl' b.length
  have hs2:=ZcQ_ b.length
  refine WL.e Za'<|WL.e Ze'<|WL.e Ze'<|WL.e Zb'<|WL.e Zb'<|WL.next<|WP.seq<|WP.block<|WP.seq<|WP.reg<|WL.e Za'<|WL.e Z2'<|WL.e Zb'<|WL.next<|WP.cond_f rfl<|WP.seq<|WP.reg<|WL.e Za'<|WL.e (ZD' (xs:=frame b) Z6' Zr')<|WL.e Za'<|WL.e Zk'<|WL.e (e_fa Kt') ?_
  refine WL.h (Zg' (Zjd_ (d:=d) hi hd.le) k174 ?_)
  refine WL.e (QC' (c:=(((d.sure.length - i) * 64:Nat):Int)) rfl rfl (by rw [Zt' (by omega) (by omega)];omega))<|WL.e YY'<|WL.e Zb'<|WL.next ?_
  refine WP.cond rfl (fun h2=>?_) (fun h2=>?_)
  ·replace h2:d.sure.length < i+secs b.length:=by rw [decide_eq_true_eq,XD'] at h2;omega
   refine WP.seq<|WP.reg<|WL.e Zb'<|WL.next<|WP.ret<|PO.blockR<|PO.past nofun ?_
   exact PO.fin Tryz.results163 (Zd' Zf') (hK.2.1 h1 h2)
  ·replace h2:i+secs b.length≤d.sure.length:=by rw [decide_eq_false_iff_not,XD'] at h2;omega
   refine WP.skip<|PO.blockN<|PO.next<|WP.seq<|WP.block<|WP.loopK (fun (x:Value × List UInt8 × Nat × Nat × DiskM)=>[(5,x.1)]) (fun (x:Value × List UInt8 × Nat × Nat × DiskM)=>cl l 166 [.pointer (some ⟨p,0,none⟩),.int .i64 x.2.2.2.1]::Dk p x.2.2.2.2::Sl 5 1 eB (.slice a1 n1 c1) (frame b)::A::R) [(0,_),(4,_)] (fun (x:Value × List UInt8 × Nat × Nat × DiskM)=>RL (Sl 5 1 eB (.slice a1 n1 c1) (frame b)) 1 eB x.1 x.2.1∧x.2.1.length=x.2.2.1 * 64∧addW x.2.2.2.2 x.2.2.2.1 x.2.1 x.2.2.1=addW d i (frame b) (secs b.length)∧x.2.2.2.1+x.2.2.1=i+secs b.length∧x.2.2.2.2.ok∧x.2.2.2.2.sure=d.sure∧x.2.2.2.2.waits.length+x.2.2.1=d.waits.length+secs b.length) (fun (x:Value × List UInt8 × Nat × Nat × DiskM)=>x.2.2.1) (.slice a1 n1 c1,frame b,secs b.length,i,d) (⟨Zr',XD' b,rfl,rfl,hd,rfl,rfl⟩) ?_
   rintro ⟨w,bs,k,j,e⟩ ⟨hr,hl,he,hj,hok,hsu,hwt⟩
   simp only at hr hl he hj hok hsu hwt
   dsimp only
   refine WP.seq<|WP.seq<|WP.reg<|WL.e Za'<|WL.e (ZD' Z6' hr)<|WL.e YY'<|WL.next ?_
   refine WP.cond rfl (fun h3=>?_) (fun h3=>?_)
   ·obtain ⟨m,rfl⟩:∃ m,k=m+1:=⟨k - 1,by rw [decide_eq_true_eq] at h3;omega⟩
    refine WP.skip<|PO.next<|WP.seq<|WP.block<|WP.seq<|WP.draws Zq' 13<|RW.e 0 rfl Za'<|RW.e 1 rfl Zk'<|RW.e 2 rfl (e_fa Kt')<|RW.e 3 rfl (e_fa Zb5_)<|RW.e 4 rfl (Zc' a71)<|RW.e 5 rfl Za'<|RW.e 6 rfl Zk'<|RW.e 7 rfl (e_fa Kt')<|RW.e 8 rfl (e_fa QX')<|RW.e 9 rfl (Zc' a3)<|RW.e 10 rfl Za'<|RW.e 11 rfl (VH' (hi:=64) Z6' hr (by omega)) ?_
    refine RW.any (is:=[12]) rfl ⟨?_,trivial⟩
    refine RWat.h rfl rfl rfl ?_
    refine (Zg' (Zb3_ (d:=e) (b:=bs.take 64) j (RL.to_ (hi:=64) Yp' hr (by omega)) (by rw [hsu];omega) hok.len hok.le (by simp;omega) (by omega)) k72 ?_)
    refine ⟨trivial,?_⟩
    refine RW.done<|PO.next<|WP.reg<|WL.e Za'<|WL.e Zk'<|WL.e (e_fa Kt')<|WL.e (e_fa QX')<|WL.e (Zc' a3)<|WL.e (ZE' (c:=((j+1:Nat):Int)) rfl rfl (by rw [Zt' (by omega) (by omega)];omega))<|WL.e Zk'<|WL.e (e_fa Kt')<|WL.e (e_fa QX') ?_
    refine WL.h' (Zj' s3 ?_)
    refine WL.nil<|PO.blockN<|PO.next<|WP.reg<|WL.e Za'<|WL.e (XV' (lo:=64) Z6' hr (by omega))<|WL.e Zb'<|WL.nil ?_
    exact PO.againK (subV w 64 bs.length none 1,bs.drop 64,m,j+1,e.write j (bs.take 64)) ⟨RL.from_ Yp' hr (by omega),by simp;omega,he,by simp only;omega,hok.write _ _,hsu,by simp [DiskM.write];omega⟩ (by simp only;omega)
   ·obtain rfl:k=0:=by rw [decide_eq_false_iff_not] at h3;omega
    obtain rfl:j=i+secs b.length:=by omega
    simp only [addW] at he
    subst he
    refine WP.exit<|PO.past nofun<|PO.round nofun<|PO.blockX<|PO.next<|WP.seq<|WP.reg<|WL.e Zb'<|WL.next<|WP.ret ?_
    exact PO.fin Tryz.results163 (Zd' Zf') (hK.2.2 h1 h2)
abbrev RecV:=SV × List UInt8 × Nat
def recE (x:RecV):List Value:=[x.1.v,.int .i64 x.2.2]
def recR (x:RecV):HP:=Sl 5 1 eB x.1.v x.2.1
theorem ZhG_ {g:World} {A:HP} {c1:Nat} {w:SV} {b:List UInt8} (hA:RL A 1 eB w.v b) (hb:b.length≤68719476736) :
  Iter Tryz.prog g 98 (fun y=>[]++[y]++[.pointer (some ⟨c1,0,none⟩)]) [cl c1 137 [w.v],A] recE recR (fun xs=>xs.map (·.2)=recs b) (fun pre=>pre.map (·.2) <+: recs b) [A]:=by
 intro y J X cont hy
 refine Spec.intro Tryz.func98 rfl Tryz.ntmps98 rfl fun R K hK=>?_
 refine WP.block<|WP.loopK (fun (x:SV × List UInt8 × List RecV)=>[]) (fun (x:SV × List UInt8 × List RecV)=>J x.2.2::cl c1 137 [x.1.v]::A::R) [(0,_),(1,_)] (fun (x:SV × List UInt8 × List RecV)=>RL A 1 eB x.1.v x.2.1∧x.2.1.length≤b.length∧x.2.2.map (·.2)++recs x.2.1=recs b∧Hist cont x.2.2) (fun (x:SV × List UInt8 × List RecV)=>x.2.1.length) (w,b,[]) (⟨hA,Nat.le_refl _,rfl,Hist.nil⟩) ?_
 rintro ⟨w1,b1,pre⟩ ⟨hr,hl,he,hh⟩
 simp only at hr hl he hh
 dsimp only
 refine WP.block<|WP.seq<|WP.reg<|WL.e (Zc' a137) ?_
 refine WL.h (Zg' (ZkX_ hr (by omega)) k99 ?_)
 refine ⟨fun hg=>?_,fun r m hg a2 n2 c2=>?_⟩
 ·skip
  refine WL.e Za'<|WL.e Ze'<|WL.e Ze'<|WL.e Ze'<|WL.e Zb'<|WL.e Zb'<|WL.e Zb'<|WL.next<|WP.seq<|WP.seq<|WP.reg<|WL.e Za'<|WL.e Z2'<|WL.e Za' ?_
  refine WL.bool 14 rfl (fun h=>?_) (fun h=>?_)
  ·skip
   refine WL.skip<|WL.skip<|WL.skip<|WL.skip<|WL.skip<|WL.e Zn'<|WL.next<|WP.cond_t rfl<|WP.ret<|PO.past nofun<|PO.blockR<|PO.round nofun<|PO.blockR ?_
   exact PO.fin Tryz.results98 Zf' (hK.1 pre (by rw [← he,Zaa_ hg];simp) hh)
  ·simp at h 
 ·have hm:=VM' hg
  have hpf:(pre++[((⟨a2,n2,c2⟩,r,m):RecV)]).map (·.2) <+: recs b:=by rw [← he,QW' hg];simp
  refine WL.e Za'<|WL.e Ze'<|WL.e Ze'<|WL.e Ze'<|WL.e Zb'<|WL.e Zb'<|WL.e Zb'<|WL.next<|WP.seq<|WP.seq<|WP.reg<|WL.e Za'<|WL.e Z2'<|WL.e Za' ?_
  refine WL.bool 14 rfl (fun h=>?_) (fun h=>?_)
  ·simp at h 
  ·skip
   refine WL.e Za'<|WL.e Za'<|WL.e Za' ?_
   refine WL.h (YE' (hy pre (⟨a2,n2,c2⟩,r,m) hpf hh) ?_)
   refine ⟨fun hc=>?_,fun hc=>?_⟩
   ·skip
    refine WL.e Zx'<|WL.e Zl'<|WL.next<|WP.cond_f rfl<|WP.skip<|PO.next<|WP.reg<|WL.e (Zc' a137)<|WL.e Za'<|WL.e (QC' (c:=((m * 64:Nat):Int)) rfl rfl (by rw [Zt' (by omega) (by omega)];omega))<|WL.e (XV' (lo:=m * 64) Z6' hr hm.2.1) ?_
    refine WL.h' (Zj' s137 ?_)
    refine WL.nil<|PO.blockN ?_
    exact PO.againK (subS w1 (m * 64) b1.length 1,b1.drop (m * 64),pre++[(⟨a2,n2,c2⟩,r,m)]) ⟨by rw [ZmO_];exact RL.from_ Yp' hr hm.2.1,by simp;omega,by rw [← he,QW' hg];simp,hh.snoc hc⟩ (by simp;omega)
   ·skip
    refine WL.e Zx'<|WL.e Zl'<|WL.next<|WP.cond_t rfl<|WP.ret<|PO.past nofun<|PO.blockR<|PO.round nofun<|PO.blockR ?_
    exact PO.fin Tryz.results98 Zf' (hK.2 pre (⟨a2,n2,c2⟩,r,m) hpf hh hc)
theorem ZhH_ {g:World} {w:SV}:Spec Tryz.prog g 70 [w.v] [] fun K R=>∀ c1,K (.func (.func 98) #[] #[.pointer (some ⟨c1,0,none⟩)]) (cl c1 137 [w.v]::R):=by
 refine Spec.intro Tryz.func70 rfl Tryz.ntmps70 rfl fun R K hK=>?_
 refine WP.seq<|WP.reg ?_
 refine WL.h (ZL' fun b1=>?_)
 refine WL.e Zb'<|WL.next<|WP.seq<|WP.reg<|WL.e Ym'<|WL.e Zb'<|WL.next<|WP.ret ?_
 exact PO.fin Tryz.results70 (Zd' Zf') (hK b1)
def recC (x:RecV):List Value:=[x.1.v]
theorem ZdU_:EncOk 1 recC:=⟨fun _=>rfl,fun _=>rfl⟩
def JF' (l:List RecV):HP:=bun (l.map recR)
theorem ZhI_ {l:List RecV} {x:RecV}:∀ S,Zo' [JF' l,recR x] S→JF' (l++[x]) S:=fun S h=>by
 have:=Yx' h
 unfold JF' bun
 rwa [List.map_append]
theorem Zje_ {L:List HP} {S:ZN'} (h:Zo' L S):Zo' (JF' []::L) S:=YB' (L:=[]) h
def tot (l:List RecV):Nat:=(l.map (·.2.2)).sum
def OpJ (b2 bl b3 p:Nat) (pre:List RecV):HP:=fun S=>∃ sv:SV,Zo' [cl b2 126 [.pointer (some ⟨bl,0,none⟩)],cl bl 166 [.pointer (some ⟨p,0,none⟩),.int .i64 (tot pre)],cl b3 127 [sv.v],Sl 137 1 recC sv.v pre,JF' pre] S
theorem Zjf_ {all:List UInt8} {pre:List RecV} (h:pre.map (·.2) <+: recs all):tot pre * 64≤all.length∧pre.length * 64≤all.length:=by
 obtain ⟨t,ht⟩:=h
 have h1:=ZaN_ _ all (Nat.le_refl _)
 rw [← ht] at h1
 simp only [List.map_append,List.sum_append,List.length_append,List.length_map,List.map_map] at h1
 have e:(pre.map ((fun x=>x.2)∘fun x=>x.2)).sum=tot pre:=rfl
 rw [e] at h1
 omega
theorem Zex_ (pre:List RecV) (x:RecV):tot (pre++[x])=tot pre+x.2.2:=by simp [tot]
theorem Zab_ {g:World} {p:Nat} {d:DiskM} (hd:d.ok) (hw:d.waits.length < 4000000000):Spec Tryz.prog g 55 [.pointer (some ⟨p,0,none⟩)] [Dk p d] fun K R=>∀ (l:Nat) (sv:SV) (xs:List RecV),xs.map (·.2)=recs d.seen.flatten→K (.tuple #[.pointer (some ⟨l,0,none⟩),sv.v,.int .i64 0]) (cl l 166 [.pointer (some ⟨p,0,none⟩),.int .i64 (tot xs)]::Sl 137 1 recC sv.v xs::JF' xs::Dk p (YF' d.seen.flatten d (tot xs) (d.sure.length - tot xs)).sync::R):=by
 refine Spec.intro Tryz.func55 rfl Tryz.ntmps55 rfl fun R K hK=>?_
 refine WP.seq<|WP.reg ?_
 refine WL.h (Zu' z126 fun b1=>?_)
 refine WL.h (Zu' z127 fun b2=>?_)
 refine WL.e Zb'<|WL.next<|WP.seq<|WP.seq<|WP.reg<|WL.e Za' ?_
 refine WL.h (Zg' (J7') k68 ?_)
 refine WL.e ZM'<|WL.next ?_
 refine WP.cond rfl (fun h=>?_) (fun h=>?_)
 ·rw [beq_iff_eq] at h;have:=hd.pos;omega
 ·have hle:=hd.le
  have hlen:=hd.len
  refine WP.skip<|PO.next<|WP.seq<|WP.reg<|WL.e Zb'<|WL.next<|WP.seq<|WP.seq<|WP.reg<|WL.e Za' ?_
  refine WL.h (Zg' (J7') k68 ?_)
  refine WL.e Za'<|WL.next<|WP.block<|WP.nils 5 1 eB none ?_
  refine WP.loopK (fun (x:Nat × Value)=>[(18,.int .i64 x.1),(5,x.2)]) (fun (x:Nat × Value)=>Sl 5 1 eB x.2 (d.seen.take x.1).flatten::cl b1 126 [.pointer none]::cl b2 127 [.slice none 0 0]::Dk p d::R) [(0,_),(2,_),(3,_),(4,_),(17,_)] (fun (x:Nat × Value)=>x.1≤d.sure.length) (fun (x:Nat × Value)=>d.sure.length - x.1) (0,.slice none 0 0) (Nat.zero_le _) ?_
  rintro ⟨i,u5⟩ hx1
  simp only at hx1
  dsimp only
  refine WP.seq<|WP.reg<|WL.e Z3'<|WL.next<|WP.seq ?_
  refine WP.cond rfl (fun h2=>?_) (fun h2=>?_)
  ·have hlt:i < d.sure.length:=by rw [decide_eq_true_eq] at h2;omega
   obtain ⟨q,hq⟩:∃ q,d.seen[i]?=some q:=⟨_,List.getElem?_eq_getElem (by omega)⟩
   have hq64:=hd.l2 q (List.mem_of_getElem? hq)
   have hfl:(d.seen.take i).flatten.length=i * 64:=by rw [VN' (fun p hp=>hd.l2 p (List.mem_of_mem_take hp))];simp;omega
   refine WP.skip<|PO.next<|WP.seq<|WP.block<|WP.seq<|WP.reg<|WL.e Za'<|WL.e Zb'<|WL.next<|WP.seq<|WP.reg<|WL.e Za'<|WL.e Za' ?_
   refine WL.h (Zg' (Zjc_ i q hlt hq hq64) k69 ?_)
   intro a4 n4 c4
   refine WL.e Za'<|WL.e Ze'<|WL.e Ze'<|WL.e Zb'<|WL.e Zb'<|WL.next<|WP.reg<|WL.e Za'<|WL.e Za' ?_
   refine WL.h (ZG' (xs:=(d.seen.take i).flatten) (ys:=q) Z6' Yp' z5 Zr' (by omega) (fun a6 n6 c6=>?_))
   rw [show (d.seen.take i).flatten++q=(d.seen.take (i+1)).flatten by rw [ZA' hq];simp]
   refine WL.e Zb'<|WL.nil<|PO.blockN<|PO.next<|WP.reg<|WL.e (ZE' rfl rfl (Zt' (by omega) (by omega)))<|WL.e Za'<|WL.nil ?_
   exact PO.againK (i+1,.slice a6 n6 c6) (by simp only;omega) (by simp only;omega)
  ·rw [List.take_of_length_le (show d.seen.length≤i by rw [decide_eq_false_iff_not] at h2;omega)]
   have hall:d.seen.flatten.length=d.sure.length * 64:=by rw [VN' hd.l2,hlen]
   refine WP.sh (u:=u5) ?_
   rintro a5 n5 c5 rfl
   refine WP.exit<|PO.past nofun<|PO.round nofun<|PO.blockX<|PO.next<|WP.seq<|WP.reg<|WL.e Za'<|WL.e (Zv' z164 p164 (.o (.tmp 31) rfl<|.z (.int .i64 0)<|.n))<|WL.e (Zv' z166 p166 (.a2 (.tmp 32) rfl<|.n)) ?_
   refine WL.h (ZL' fun b3=>?_)
   refine WL.h' (Zj' s126 ?_)
   refine WL.next<|WP.seq<|WP.seq<|WP.reg<|WL.e Za' ?_
   refine WL.h (Zg' (ZhH_ (w:=⟨a5,n5,c5⟩)) k70 ?_)
   intro c1
   refine WL.next<|WP.block<|WP.nils 137 1 recC none ?_
   refine WP.conv (fun S h=>Zje_ h) ?_
   refine WP.cls (A:=OpJ b1 b3 b2 p []) (B:=[cl b1 126 [.pointer (some ⟨b3,0,none⟩)],cl b3 166 [.pointer (some ⟨p,0,none⟩),.int .i64 (tot ([]))],cl b2 127 [.slice none 0 0],Sl 137 1 recC (.slice none 0 0) ([]),JF' ([])]) (fun S h=>⟨⟨none,0,0⟩,h⟩) ?_
   refine WP.range (R:=?RR) (f:=98) (fs:=[]) (cs:=[.pointer (some ⟨c1,0,none⟩)]) (OpJ b1 b3 b2 p) (fun _ _ _=>pu True) (fun _ _=>True) (ZhG_ (A:=Sl 5 1 eB (.slice a5 n5 c5) d.seen.flatten) (w:=⟨a5,n5,c5⟩) (b:=d.seen.flatten) Zr' (by omega)) k98 ?hLL ?_ ?_ ?_ (fun _=>rfl)
   case hLL=>repeat first | exact .nil | exact Pick.z | apply Pick.s | apply Split.cons
   ·rintro lb db fn tmps pre ⟨⟨a7,n7,c7⟩,r,m⟩ R2 hp hh
    have htl:=Zjf_ hp
    rw [Zex_,List.length_append] at htl
    simp only [List.length_cons,List.length_nil] at htl
    refine WP.opn (B:=fun sv:SV=>[cl b1 126 [.pointer (some ⟨b3,0,none⟩)],cl b3 166 [.pointer (some ⟨p,0,none⟩),.int .i64 (tot (pre))],cl b2 127 [sv.v],Sl 137 1 recC (sv.v) (pre),JF' (pre)]) (fun _ h=>h) fun sv=>?_
    refine WP.seq<|WP.reg<|WL.e Zb'<|WL.next<|WP.reg<|WL.e Zb'<|WL.nil<|PO.asg rfl (by repeat first | exact .z | apply Put.s)<|WP.block<|WP.seq<|WP.reg<|WL.e (Zc' a127)<|WL.e Za' ?_
    refine WL.h (h_bs Uu' z137 (.o (.tmp 40) rfl<|.n) fun b4=>?_)
    refine WL.h (ZG' (xs:=pre) (ys:=[((⟨a7,n7,c7⟩,r,m):RecV)]) Uu' ZdU_ z137 (Z7' ZdU_ [((⟨a7,n7,c7⟩,r,m):RecV)] rfl) (by simp;omega) (fun a8 n8 c8=>?_))
    refine WL.h' (Zj' s127 ?_)
    refine WL.next<|WP.reg<|WL.e (Zc' a126)<|WL.e Zk'<|WL.e (e_fa Kt')<|WL.e (e_fa QX')<|WL.e (Zc' a3)<|WL.e Za'<|WL.e (ZE' (c:=((tot (pre++[((⟨a7,n7,c7⟩,r,m):RecV)]):Nat):Int)) rfl rfl (by rw [Zex_];simp only;rw [Zt' (by omega) (by omega)];omega))<|WL.e Zk'<|WL.e (e_fa Kt')<|WL.e (e_fa QX') ?_
    refine WL.h' (Zj' s3 ?_)
    refine WL.nil<|PO.blockN<|PO.cls (B:=[JF' pre,recR (⟨a7,n7,c7⟩,r,m)]) ZhI_ ?_
    refine PO.cls (A:=OpJ b1 b3 b2 p (pre++[((⟨a7,n7,c7⟩,r,m):RecV)])) (B:=[cl b1 126 [.pointer (some ⟨b3,0,none⟩)],cl b3 166 [.pointer (some ⟨p,0,none⟩),.int .i64 (tot (pre++[((⟨a7,n7,c7⟩,r,m):RecV)]))],cl b2 127 [.slice a8 n8 c8],Sl 137 1 recC (.slice a8 n8 c8) (pre++[((⟨a7,n7,c7⟩,r,m):RecV)]),JF' (pre++[((⟨a7,n7,c7⟩,r,m):RecV)])]) (fun S h=>⟨⟨a8,n8,c8⟩,h⟩) ?_
    exact PO.rnd trivial (by repeat first | exact .refl | exact Pick.z | apply Pick.s | apply Sub.cons | apply Sub.drop)
   ·intro db xs hx hh
    have htl:=Zjf_ (hx ▸ List.prefix_refl _:xs.map (·.2) <+: recs d.seen.flatten)
    refine PO.opn (B:=fun sv:SV=>[cl b1 126 [.pointer (some ⟨b3,0,none⟩)],cl b3 166 [.pointer (some ⟨p,0,none⟩),.int .i64 (tot (xs))],cl b2 127 [sv.v],Sl 137 1 recC (sv.v) (xs),JF' (xs)]) (fun _ h=>h) fun sv=>?_
    refine PO.blockN<|PO.next<|WP.seq<|WP.reg ?_
    refine WL.h (Vl' (enc:=eB) (n:=64) (0:UInt8) Z6' z5 (by omega) (fun a9 n9 c9=>?_))
    refine WL.e Zb'<|WL.next<|WP.seq<|WP.seq<|WP.reg<|WL.e (Zc' a126)<|WL.e Zk'<|WL.e (e_fa Kt')<|WL.e (e_fa QX')<|WL.e (Zc' a3)<|WL.e Zb'<|WL.next<|WP.block<|WP.loopK (fun (k:Nat)=>[(12,.int .i64 (tot xs+k:Nat))]) (fun (k:Nat)=>[cl b1 126 [.pointer (some ⟨b3,0,none⟩)],cl b3 166 [.pointer (some ⟨p,0,none⟩),.int .i64 (tot (xs))],cl b2 127 [sv.v],Sl 137 1 recC (sv.v) (xs),JF' (xs)]++(Sl 5 1 eB (.slice a5 n5 c5) d.seen.flatten::Sl 5 1 eB (.slice a9 n9 c9) (List.replicate 64 0)::Dk p (YF' d.seen.flatten d (tot xs) k)::pt db (.deferred (some []))::R)) [(0,_),(2,_),(3,_),(4,_),(5,_),(11,_)] (fun (k:Nat)=>tot xs+k≤d.sure.length) (fun (k:Nat)=>d.sure.length - k) 0 (by omega) ?_
    intro k hk
    obtain ⟨hok,hsu,hwt⟩:=Zb4_ d.seen.flatten d (tot xs) k hd
    refine WP.seq<|WP.seq<|WP.reg<|WL.e Za'<|WL.e Za' ?_
    refine WL.h (Zg' (J7') k68 ?_)
    refine WL.e Z3'<|WL.next ?_
    refine WP.cond rfl (fun h4=>?_) (fun h4=>?_)
    ·have hlt:tot xs+k < d.sure.length:=by rw [decide_eq_true_eq,hsu] at h4;omega
     refine WP.skip<|PO.next<|WP.seq<|WP.block<|WP.seq<|WP.reg<|WL.e Za'<|WL.e Za'<|WL.e (QC' (c:=(((tot xs+k) * 64:Nat):Int)) rfl rfl (by rw [Zt' (by omega) (by omega)];omega))<|WL.e Za'<|WL.e (ZE' (c:=((tot xs+k+1:Nat):Int)) rfl rfl (by rw [Zt' (by omega) (by omega)];omega))<|WL.e (QC' (c:=(((tot xs+k+1) * 64:Nat):Int)) rfl rfl (by rw [Zt' (by omega) (by omega)];omega))<|WL.e (ZiR_ (lo:=(tot xs+k) * 64) (hi:=(tot xs+k+1) * 64) (xs:=d.seen.flatten) Z6' Zr' (by omega) (by omega))<|WL.e Za' ?_
     refine WL.h (Zg' (Zbb_ (xs:=(d.seen.flatten.drop ((tot xs+k) * 64)).take 64) (ys:=List.replicate 64 0) (by have:=RL.sub (lo:=(tot xs+k) * 64) (hi:=(tot xs+k+1) * 64) (mx:=none) Yp' (Zr' (E:=5) (z:=1) (enc:=eB) (u:=.slice a5 n5 c5) (xs:=d.seen.flatten)) (by omega) (by omega) (by simp);rwa [show (tot xs+k+1) * 64 - (tot xs+k) * 64=64 by omega] at this) Zr') k71 ?_)
     refine WL.e Zx'<|WL.next ?_
     refine WP.cond rfl (fun h5=>?_) (fun h5=>?_)
     ·replace h5:¬ (d.seen.flatten.drop ((tot xs+k) * 64)).take 64=List.replicate 64 0:=by simpa using h5
      refine WP.reg<|WL.e Za'<|WL.e Za'<|WL.e Za' ?_
      refine WL.h (Zg' (Zb3_ (d:=(YF' d.seen.flatten d (tot xs) k)) (b:=List.replicate 64 0) (tot xs+k) Zr' (by rw [hsu];exact hlt) hok.len hok.le (by simp) (by omega)) k72 ?_)
      refine WL.nil<|PO.blockN<|PO.next<|WP.reg<|WL.e Za'<|WL.e (ZE' (c:=((tot xs+(k+1):Nat):Int)) rfl rfl (by rw [Zt' (by omega) (by omega)];omega))<|WL.e Zb'<|WL.nil ?_
      rw [show (YF' d.seen.flatten d (tot xs) k).write (tot xs+k) (List.replicate 64 0)=YF' d.seen.flatten d (tot xs) (k+1) by rw [YF',if_neg h5]]
      exact PO.againK (k+1) (by omega) (by omega)
     ·replace h5:(d.seen.flatten.drop ((tot xs+k) * 64)).take 64=List.replicate 64 0:=by simpa using h5
      refine WP.skip<|PO.blockN<|PO.next<|WP.reg<|WL.e Za'<|WL.e (ZE' (c:=((tot xs+(k+1):Nat):Int)) rfl rfl (by rw [Zt' (by omega) (by omega)];omega))<|WL.e Zb'<|WL.nil ?_
      rw [show (YF' d.seen.flatten d (tot xs) k)=YF' d.seen.flatten d (tot xs) (k+1) by rw [YF',if_pos h5]]
      exact PO.againK (k+1) (by omega) (by omega)
    ·obtain rfl:k=d.sure.length - tot xs:=by rw [decide_eq_false_iff_not,hsu] at h4;omega
     refine WP.exit<|PO.past nofun<|PO.round nofun<|PO.blockX<|PO.next<|WP.seq<|WP.draws Zq' 7<|RW.e 0 rfl (Zc' a126)<|RW.e 1 rfl (Zc' a127)<|RW.e 2 rfl Za' ?_
     refine RW.any (is:=[3]) rfl ⟨?_,trivial⟩
     refine RWat.h rfl rfl rfl ?_
     refine (Zg' (Zdm_ hok.pos hok.len) k73 ?_)
     refine ⟨⟨⟨_,rfl,.inl ⟨rfl,(Zc' a127)⟩⟩,⟨_,rfl,.inl ⟨rfl,(Zc' a126)⟩⟩,trivial⟩,?_⟩
     refine RW.any (is:=[4]) rfl ⟨?_,trivial⟩
     refine RWat.h' rfl rfl rfl ?_
     refine (Zj' s126 ?_)
     refine ⟨⟨⟨_,rfl,.inl ⟨rfl,(Zc' a127)⟩⟩,trivial⟩,?_⟩
     refine RW.any (is:=[5]) rfl ⟨?_,trivial⟩
     refine RWat.h' rfl rfl rfl ?_
     refine (Zj' s127 ?_)
     refine ⟨trivial,?_⟩
     refine RW.e 6 rfl Zb'<|RW.done<|PO.next<|WP.ret ?_
     exact PO.finM (by repeat first | exact .z | apply Put.s) Tryz.results55 (YV' a126 (YV' a127 (Zd' Zf'))) (hK b3 sv xs hx)
   ·exact fun _ _ _ _ _ _ hc=>absurd trivial hc
end Go.SL
namespace Go.SL
open Go
def cmpS (a b:ByteArray):Int:=if sLt a b then -1 else if sLt b a || sEq a b then (if sEq a b then 0 else 1) else 1
theorem XW' {a b:ByteArray}:sEq a b=true↔a=b:=by
  simp only [sEq,beq_iff_eq]
  constructor
  · intro h
    rw [ByteArray.ext_iff]
    apply Array.ext'
    simpa [ByteArray.toList_eq] using h
  · rintro rfl;rfl
theorem Zdn_:∀ l:List UInt8,Op.bytesLess l l=false
  | []=>rfl
  | a::l=>by simp [Op.bytesLess,Zdn_ l]
theorem Zey_:∀ {a b c:List UInt8},Op.bytesLess a b=true→Op.bytesLess b c=true→Op.bytesLess a c=true
  | [],[],_,h,_=>by simp [Op.bytesLess] at h
  | [],_::_,[],_,h=>by simp [Op.bytesLess] at h
  | [],_::_,_::_,_,_=>by simp [Op.bytesLess]
  | _::_,[],_,h,_=>by simp [Op.bytesLess] at h
  | _::_,_::_,[],_,h=>by simp [Op.bytesLess] at h
  | x::a,y::b,z::c,h,h'=>by
    simp only [Op.bytesLess,Bool.or_eq_true,Bool.and_eq_true,decide_eq_true_eq,beq_iff_eq] at h h' ⊢
    rcases h with h | ⟨rfl,h⟩ <;> rcases h' with h' | ⟨rfl,h'⟩
    · left;exact UInt8.lt_trans h h'
    · exact .inl h
    · exact .inl h'
    · exact .inr ⟨rfl,Zey_ h h'⟩
theorem Zjg_:∀ (a b:List UInt8),Op.bytesLess a b=true∨a=b∨Op.bytesLess b a=true
  | [],[]=>.inr (.inl rfl)
  | [],_::_=>.inl (by simp [Op.bytesLess])
  | _::_,[]=>.inr (.inr (by simp [Op.bytesLess]))
  | x::a,y::b=>by
    simp only [Op.bytesLess,Bool.or_eq_true,Bool.and_eq_true,decide_eq_true_eq,beq_iff_eq,List.cons.injEq]
    rcases UInt8.lt_or_lt_of_ne_or_eq x y with h | h | h
    · exact .inl (.inl h)
    · exact .inr (.inr (.inl h))
    · subst h
      rcases Zjg_ a b with h | h | h
      · exact .inl (.inr ⟨rfl,h⟩)
      · exact .inr (.inl ⟨rfl,h⟩)
      · exact .inr (.inr (.inr ⟨rfl,h⟩))
where
  UInt8.lt_or_lt_of_ne_or_eq (x y:UInt8):x < y∨y < x∨x=y:=by
    rcases Nat.lt_trichotomy x.toNat y.toNat with h | h | h
    · exact .inl (UInt8.lt_iff_toNat_lt.2 h)
    · exact .inr (.inr (UInt8.toNat_inj.1 h))
    · exact .inr (.inl (UInt8.lt_iff_toNat_lt.2 h))
theorem Yr' (a:ByteArray):sLt a a=false:=Zdn_ _
theorem XS' {a b c:ByteArray} (h:sLt a b=true) (h':sLt b c=true):sLt a c=true:=Zey_ h h'
theorem Km' (a b:ByteArray):sLt a b=true∨a=b∨sLt b a=true:=by
  rcases Zjg_ a.toList b.toList with h | h | h
  · exact .inl h
  · refine .inr (.inl (XW'.1 ?_));simp [sEq,h]
  · exact .inr (.inr h)
theorem KX' {a b:ByteArray} (h:sLt a b=true):sLt b a=false:=by
  cases e:sLt b a with
  | false=>rfl
  | true=>have:=XS' h e;rw [Yr'] at this;cases this
def ZC' (l:List RowM):Prop:=l.Pairwise fun a b=>sLt a.key b.key=true
def lowI (l:List RowM) (k:ByteArray):Nat:=(l.takeWhile fun r=>sLt r.key k).length
def hasI (l:List RowM) (k:ByteArray):Bool:=match l[lowI l k]? with
  | some r=>sEq r.key k
  | none=>false
theorem ZaO_ (l:List RowM) (k:ByteArray):lowI l k≤l.length:=(List.takeWhile_sublist _).length_le
theorem ZnR_ {l:List RowM} {k:ByteArray} {h:Nat} {x:RowM} (hx:l[h]?=some x) (hp:sLt x.key k=false):lowI l k≤h:=by
  induction l generalizing h with
  | nil=>simp at hx
  | cons a l ih=>
    unfold lowI at *
    rw [List.takeWhile_cons]
    cases h with
    | zero=>simp at hx;subst hx;simp [hp]
    | succ h=>
      simp at hx
      split
      · simp;exact ih hx
      · simp
theorem ZnS_ {l:List RowM} {k:ByteArray} (hl:ZC' l) {h:Nat} {x:RowM} (hx:l[h]?=some x) (hp:sLt x.key k=true):h < lowI l k:=by
  induction l generalizing h with
  | nil=>simp at hx
  | cons a l ih=>
    have hr:=List.pairwise_cons.1 hl
    unfold lowI at *
    rw [List.takeWhile_cons]
    cases h with
    | zero=>simp at hx;subst hx;simp [hp]
    | succ h=>
      simp at hx
      have ha:sLt a.key k=true:=XS' (hr.1 x (List.mem_of_getElem? hx)) hp
      simp [ha];exact ih hr.2 hx
theorem ZgK_ (a b:ByteArray):decide (cmpS a b < 0)=sLt a b:=by
  unfold cmpS
  cases sLt a b <;> simp
  split <;> (try split) <;> simp
theorem ZmR_ {a b:ByteArray}:(cmpS a b == 0)=sEq a b:=by
  unfold cmpS
  by_cases h:sEq a b=true
  · have:=XW'.1 h;subst this;simp [Yr',h]
  · simp only [Bool.not_eq_true] at h
    rw [h];split <;> (try split) <;> simp_all
end Go.SL
