import Derived.Test.YtegjbklnhiionaaGreatQP4
import Derived.Test.YtegjbklnhiionaaGreatProg
import Derived.KernelRfl
set_option linter.unusedSimpArgs false
set_option linter.unusedVariables false
namespace Go.SL.Fc
open Go Go.Proofs Go.SL
theorem a23:ZK' Tryz.prog 23=some none:=by kernel_rfl
theorem a24:ZK' Tryz.prog 24=some none:=by kernel_rfl
theorem a45:ZK' Tryz.prog 45=some (some 2):=by kernel_rfl
theorem a9:ZK' Tryz.prog 9=some none:=by kernel_rfl
theorem XF':ZO' Tryz.prog 26 0=some 0:=by kernel_rfl
theorem X8':ZO' Tryz.prog 26 1=some 1:=by kernel_rfl
theorem ZbV_:ZO' Tryz.prog 26 2=some 2:=by kernel_rfl
theorem ZaK_:ZO' Tryz.prog 26 3=some 3:=by kernel_rfl
theorem ZbW_:ZO' Tryz.prog 45 0=some 0:=by kernel_rfl
theorem Zhw_:ZO' Tryz.prog 45 1=some 1:=by kernel_rfl
theorem k45:Zh' Tryz.prog 45=true:=by kernel_rfl
theorem k47:Zh' Tryz.prog 47=true:=by kernel_rfl
theorem k63:Zh' Tryz.prog 63=true:=by kernel_rfl
theorem k64:Zh' Tryz.prog 64=true:=by kernel_rfl
theorem p45:Ya' Tryz.prog 45=some [(0,1),(1,1)]:=by kernel_rfl
theorem s45:szOf Tryz.prog 45=some 2:=by kernel_rfl
theorem s9:szOf Tryz.prog 9=some 1:=by kernel_rfl
theorem z45:ZH' Tryz.prog 45=some [.string .empty,.string .empty]:=by kernel_rfl
end Go.SL.Fc
namespace Go.SL
open Go Go.Proofs Fc
theorem ZgC_ {g:World} (k a b:ByteArray):Spec Tryz.prog g 47 [.string k,.string a,.string b] [] fun K R=>K (.bool (sIn k a b)) R:=by
 refine Spec.intro Tryz.func47 rfl Tryz.ntmps47 rfl fun R K hK=>?_
 refine WP.seq<|WP.reg<|WL.e Zb'<|WL.next<|WP.seq<|WP.reg<|WL.e Za'<|WL.e Za'<|WL.e Zmn_<|WL.e Za' ?_
 refine WL.join 14 (.bool (sIn k a b)) (.c (.c (.c (.c .n)))) ?_ ?_
 ·refine WL.bool 10 rfl (fun hg=>?_) (fun hg=>?_)
  ·skip
   refine WL.e Za'<|WL.e Za'<|WL.e Zmn_<|WL.e Zn' ?_
   exact WL.nil (PO.joined rfl (by simp [sIn,hg]))
  ·skip
   refine WL.skip<|WL.skip<|WL.skip<|WL.e Zl' ?_
   exact WL.nil (PO.joined rfl (by simp [sIn,hg]))
 refine WL.e Zb'<|WL.next<|WP.ret ?_
 exact PO.fin Tryz.results47 (Zd' Zf') hK
theorem Kk' {g:World} (x:OpM):Spec Tryz.prog g 14 [x.v] [] fun K R=>K (Zi' x).v R:=by
 refine Spec.intro Tryz.func14 rfl Tryz.ntmps14 rfl fun R K hK=>?_
 refine WP.seq<|WP.reg ?_
 refine WL.h (ZL' fun b1=>?_)
 refine WL.h (Zu' z45 fun b2=>?_)
 refine WL.next<|WP.seq<|WP.seq<|WP.reg<|WL.e (e_fa XF')<|WL.e (Zc' a23)<|WL.e (Zi2_ (b:=4))<|WL.next ?_
 refine WP.cond rfl (fun h=>?_) (fun h=>?_)
 ·replace h:x.kind≠4:=by simpa using h
  refine WP.reg<|WL.e (e_fa X8')<|WL.e (Zc' a9)<|WL.e (e_fa ZbV_) ?_
  refine WL.h' (Zj' s9 ?_)
  refine WL.next<|WP.seq<|WP.reg<|WL.e (e_fa X8')<|WL.e (Zc' a9)<|WL.e (e_fa ZbV_)<|WL.e (Zc' a9)<|WL.e (Zv' z45 p45 (.o (.tmp 10) rfl<|.o (.tmp 12) rfl<|.n)) ?_
  refine WL.h' (Zj' s45 ?_)
  refine WL.next<|WP.ret ?_
  exact PO.fin Tryz.results14 (ZB' a45 Zf') (by simpa [Zi',h,SpanM.v] using hK)
 ·replace h:x.kind=4:=by simpa using h
  refine WP.skip<|PO.next<|WP.seq<|WP.reg<|WL.e (e_fa X8')<|WL.e (Zc' a9)<|WL.e (e_fa ZbV_)<|WL.e (Zc' a9)<|WL.e (Zv' z45 p45 (.o (.tmp 10) rfl<|.o (.tmp 12) rfl<|.n)) ?_
  refine WL.h' (Zj' s45 ?_)
  refine WL.next<|WP.ret ?_
  exact PO.fin Tryz.results14 (ZB' a45 Zf') (by simpa [Zi',h,SpanM.v] using hK)
theorem Y8' {g:World} (a b:SpanM):Spec Tryz.prog g 30 [a.v,b.v] [] fun K R=>K (.bool (meet a b)) R:=by
 refine Spec.intro Tryz.func30 rfl Tryz.ntmps30 rfl fun R K hK=>?_
 refine WP.seq<|WP.reg ?_
 refine WL.h (ZL' fun b1=>?_)
 refine WL.h (ZL' fun b2=>?_)
 refine WL.e Zb'<|WL.next<|WP.seq<|WP.reg<|WL.e (e_fa ZbW_)<|WL.e (Zc' a9)<|WL.e (e_fa ZbW_)<|WL.e (Zc' a9)<|WL.e ZnH_<|WL.e Zb'<|WL.next<|WP.seq<|WP.reg<|WL.e Za'<|WL.e (e_fa ZbW_)<|WL.e (Zc' a9)<|WL.e (e_fa Zhw_)<|WL.e (Zc' a9) ?_
 refine WL.h (Zg' (ZgC_ _ _ _) k47 ?_)
 refine WL.e Za' ?_
 refine WL.join 24 (.bool (meet a b)) (.c (.c (.c (.c (.c (.c (.c .n))))))) ?_ ?_
 ·refine WL.bool 17 rfl (fun hg=>?_) (fun hg=>?_)
  ·skip
   refine WL.e Za'<|WL.e (e_fa ZbW_)<|WL.e (Zc' a9)<|WL.e (e_fa Zhw_)<|WL.e (Zc' a9) ?_
   refine WL.h (Zg' (ZgC_ _ _ _) k47 ?_)
   refine WL.e Zn' ?_
   exact WL.nil (PO.joined rfl (by simp [meet,hg]))
  ·skip
   refine WL.skip<|WL.skip<|WL.skip<|WL.skip<|WL.skip<|WL.skip<|WL.e Zl' ?_
   exact WL.nil (PO.joined rfl (by simp [meet,hg]))
 refine WL.e Zb'<|WL.next<|WP.ret ?_
 exact PO.fin Tryz.results30 (Zd' Zf') hK
theorem Zen_ {g:World} (k:ByteArray):Spec Tryz.prog g 264 [.string k] [] fun K R=>K (one k).v R:=by
 refine Spec.intro Tryz.func264 rfl Tryz.ntmps264 rfl fun R K hK=>?_
 refine WP.seq<|WP.reg ?_
 refine WL.h (Zu' z45 fun b1=>?_)
 refine WL.next<|WP.seq<|WP.reg<|WL.e Za'<|WL.e Za'<|WL.e (Zv' z45 p45 (.o (.tmp 3) rfl<|.o (.tmp 4) rfl<|.n)) ?_
 refine WL.h' (Zj' s45 ?_)
 refine WL.next<|WP.ret ?_
 exact PO.fin Tryz.results264 (ZB' a45 Zf') hK
theorem QG' {g:World} (x:OpM):Spec Tryz.prog g 167 [x.v] [] fun K R=>K (.bool (Zp' x)) R:=by
 refine Spec.intro Tryz.func167 rfl Tryz.ntmps167 rfl fun R K hK=>?_
 refine WP.seq<|WP.reg ?_
 refine WL.h (ZL' fun b1=>?_)
 refine WL.e Zb'<|WL.next<|WP.seq<|WP.reg<|WL.e (e_fa XF')<|WL.e (Zc' a23)<|WL.e (Xq' (b:=2))<|WL.e Za' ?_
 refine WL.bool 6 rfl (fun g1=>?_) (fun g1=>?_)
 ·skip
  refine WL.skip<|WL.skip<|WL.skip<|WL.e Zn'<|WL.e Zb'<|WL.next<|WP.ret ?_
  exact PO.finE Tryz.results167 (Zd' Zf') (by simp_all [Zp']) hK
 ·skip
  refine WL.e (e_fa XF')<|WL.e (Zc' a23)<|WL.e (Xq' (b:=3))<|WL.e Zl'<|WL.e Zb'<|WL.next<|WP.ret ?_
  exact PO.finE Tryz.results167 (Zd' Zf') (by simp_all [Zp']) hK
theorem Zeo_ {g:World} (c:Int):Spec Tryz.prog g 64 [.int .i32 c] [] fun K R=>K (.bool (Xu' c)) R:=by
 refine Spec.intro Tryz.func64 rfl Tryz.ntmps64 rfl fun R K hK=>?_
 refine WP.seq<|WP.reg<|WL.e Zb'<|WL.next<|WP.seq<|WP.reg<|WL.e Za'<|WL.e YD'<|WL.e Za' ?_
 refine WL.bool 5 rfl (fun g1=>?_) (fun g1=>?_)
 ·skip
  refine WL.e Za'<|WL.e X2'<|WL.e Zn'<|WL.e Za' ?_
  refine WL.bool 9 rfl (fun g2=>?_) (fun g2=>?_)
  ·skip
   refine WL.skip<|WL.skip<|WL.skip<|WL.skip<|WL.skip<|WL.skip<|WL.e Zn'<|WL.e Za'<|WL.skip<|WL.skip<|WL.e Zn'<|WL.e Zb'<|WL.next<|WP.ret ?_
   exact PO.finE Tryz.results64 (Zd' Zf') (by simp_all [Xu'] <;> (intros;omega)) hK
  ·skip
   refine WL.e Za'<|WL.e YD'<|WL.e Za' ?_
   refine WL.bool 12 rfl (fun g3=>?_) (fun g3=>?_)
   ·skip
    refine WL.e Za'<|WL.e X2'<|WL.e Zn'<|WL.e Zl'<|WL.e Za' ?_
    refine WL.bool 17 rfl (fun g4=>?_) (fun g4=>?_)
    ·skip
     refine WL.skip<|WL.skip<|WL.e Zn'<|WL.e Zb'<|WL.next<|WP.ret ?_
     exact PO.finE Tryz.results64 (Zd' Zf') (by simp_all [Xu'] <;> (intros;omega)) hK
    ·skip
     refine WL.e Za'<|WL.e ZM'<|WL.e Zl'<|WL.e Zb'<|WL.next<|WP.ret ?_
     exact PO.finE Tryz.results64 (Zd' Zf') (by simp_all [Xu'] <;> (intros;omega)) hK
   ·skip
    refine WL.skip<|WL.skip<|WL.e Zl'<|WL.e Zl'<|WL.e Za'<|WL.e Za'<|WL.e ZM'<|WL.e Zl'<|WL.e Zb'<|WL.next<|WP.ret ?_
    exact PO.finE Tryz.results64 (Zd' Zf') (by simp_all [Xu'] <;> (intros;omega)) hK
 ·skip
  refine WL.skip<|WL.skip<|WL.e Zl'<|WL.e Za'<|WL.e Za'<|WL.e YD'<|WL.e Za' ?_
  refine WL.bool 12 rfl (fun g5=>?_) (fun g5=>?_)
  ·skip
   refine WL.e Za'<|WL.e X2'<|WL.e Zn'<|WL.e Zl'<|WL.e Za' ?_
   refine WL.bool 17 rfl (fun g6=>?_) (fun g6=>?_)
   ·skip
    refine WL.skip<|WL.skip<|WL.e Zn'<|WL.e Zb'<|WL.next<|WP.ret ?_
    exact PO.finE Tryz.results64 (Zd' Zf') (by simp_all [Xu'] <;> (intros;omega)) hK
   ·skip
    refine WL.e Za'<|WL.e ZM'<|WL.e Zl'<|WL.e Zb'<|WL.next<|WP.ret ?_
    exact PO.finE Tryz.results64 (Zd' Zf') (by simp_all [Xu'] <;> (intros;omega)) hK
  ·skip
   refine WL.skip<|WL.skip<|WL.e Zl'<|WL.e Zl'<|WL.e Za'<|WL.e Za'<|WL.e ZM'<|WL.e Zl'<|WL.e Zb'<|WL.next<|WP.ret ?_
   exact PO.finE Tryz.results64 (Zd' Zf') (by simp_all [Xu'] <;> (intros;omega)) hK
theorem ZkM_ {g:World} (s:ByteArray) {y:Value} {p:Int→Bool} (hy:∀ c,CallV Tryz.prog g y [.int .i32 c] [] fun K R=>K (.bool (p c)) R):Spec Tryz.prog g 63 [.string s,y] [] fun K R=>K (.bool (allR p s)) R:=by
 refine Spec.intro Tryz.func63 rfl Tryz.ntmps63 rfl fun R K hK=>?_
 refine WP.seq<|WP.reg<|WL.e Zb'<|WL.next<|WP.seq<|WP.seq<|WP.reg<|WL.e Za' ?_
 refine WL.h (ZfO_ Tryz.underlying9 fun i=>?_)
 refine WL.next<|WP.block<|WP.loopK (fun (x:Nat × Nat)=>[]) (fun (x:Nat × Nat)=>pt i (.stringIter s x.2)::R) [(1,_),(8,_)] (fun (x:Nat × Nat)=>s.size≤x.2+x.1∧Kj' p s x.1 x.2=allR p s) (fun (x:Nat × Nat)=>x.1) (s.size,0) (⟨by simp,rfl⟩) ?_
 rintro ⟨k,q⟩ ⟨hx1,hx2⟩
 simp only at hx1 hx2
 refine WP.seq<|WP.reg ?_
 refine WL.h (Zhs_ (fun h=>?_) (fun h=>?_))
 ·skip
  refine WL.e Ze'<|WL.next<|WP.seq<|WP.cond_f rfl<|WP.exit<|PO.past nofun<|PO.round nofun<|PO.blockX<|PO.next<|WP.seq<|WP.reg<|WL.e Zb'<|WL.next<|WP.ret ?_
  exact PO.finE Tryz.results63 (Zd' Zf') (by rw [← hx2];cases k <;> simp [Kj',h]) hK
 ·have hk:k=(k - 1)+1:=by omega
  have hx3:p (Utf8.decode s q).1=true→Kj' p s (k - 1) (q+(Utf8.decode s q).2)=allR p s:=by rw [hk] at hx2;simp only [Kj',h,if_true] at hx2;intro e;simpa [e] using hx2
  refine WL.e Ze'<|WL.next<|WP.seq<|WP.cond_t rfl<|WP.skip<|PO.next<|WP.block<|WP.seq<|WP.reg<|WL.e Ze'<|WL.e Zb'<|WL.next<|WP.seq<|WP.reg<|WL.e Za'<|WL.e Za' ?_
  refine WL.h (YE' (hy _) ?_)
  refine WL.e Zx'<|WL.next ?_
  refine WP.cond rfl (fun hc=>?_) (fun hc=>?_)
  ·skip
   refine WP.seq<|WP.reg<|WL.e Zb'<|WL.next<|WP.ret<|PO.blockR<|PO.round nofun<|PO.blockR<|PO.past nofun ?_
   exact PO.finE Tryz.results63 (Zd' Zf') (by rw [← hx2,hk];simp at hc;simp [Kj',h,hc]) hK
  ·replace hc:p (Utf8.decode s q).1=true:=by simpa using hc
   refine WP.skip<|PO.blockN ?_
   exact PO.againK (k - 1,q+(Utf8.decode s q).2) ⟨by have:=Zi4_ s q h;omega,hx3 hc⟩ (by omega)
theorem X9' {g:World} (k:ByteArray):Spec Tryz.prog g 45 [.string k] [] fun K R=>K (.bool (Yz' k)) R:=by
 refine Spec.intro Tryz.func45 rfl Tryz.ntmps45 rfl fun R K hK=>?_
 refine WP.seq<|WP.reg<|WL.e Zb'<|WL.next<|WP.seq<|WP.reg<|WL.e Za'<|WL.e Zmm_<|WL.e Za' ?_
 refine WL.bool 5 rfl (fun g1=>?_) (fun g1=>?_)
 ·skip
  refine WL.e Za'<|WL.e (Zdd_ Tryz.underlying9)<|WL.e X2'<|WL.e Zn'<|WL.e Za' ?_
  refine WL.bool 10 rfl (fun g2=>?_) (fun g2=>?_)
  ·skip
   refine WL.e Za' ?_
   refine WL.h (Zg' (ZkM_ _ (p:=Xu') fun c=>CallV.of_spec (fs:=[]) (cs:=[]) (Zeo_ c) k64) k63 ?_)
   refine WL.e Zn'<|WL.e Zb'<|WL.next<|WP.ret ?_
   exact PO.finE Tryz.results45 (Zd' Zf') (by simp_all [Yz'] <;> (intros;omega)) hK
  ·skip
   refine WL.skip<|WL.skip<|WL.e Zl'<|WL.e Zb'<|WL.next<|WP.ret ?_
   exact PO.finE Tryz.results45 (Zd' Zf') (by simp_all [Yz'] <;> (intros;omega)) hK
 ·skip
  refine WL.skip<|WL.skip<|WL.skip<|WL.e Zl'<|WL.e Za'<|WL.skip<|WL.skip<|WL.e Zl'<|WL.e Zb'<|WL.next<|WP.ret ?_
  exact PO.finE Tryz.results45 (Zd' Zf') (by simp_all [Yz'] <;> (intros;omega)) hK
theorem Vt' {g:World} (x:OpM):Spec Tryz.prog g 165 [x.v] [] fun K R=>K (.bool (opOk x)) R:=by
 refine Spec.intro Tryz.func165 rfl Tryz.ntmps165 rfl fun R K hK=>?_
 refine WP.seq<|WP.reg ?_
 refine WL.h (ZL' fun b1=>?_)
 refine WL.e Zb'<|WL.next<|WP.seq<|WP.reg<|WL.e (e_fa ZbV_)<|WL.e (Zc' a9)<|WL.e Zml_<|WL.e Zb'<|WL.next<|WP.seq<|WP.seq<|WP.reg<|WL.e (e_fa XF')<|WL.e (Zc' a23)<|WL.e (Xq' (b:=4))<|WL.next ?_
 refine WP.cond rfl (fun g1=>?_) (fun g1=>?_)
 ·skip
  refine WP.reg<|WL.e (e_fa ZbV_)<|WL.e (Zc' a9) ?_
  refine WL.h (Zg' (X9' _) k45 ?_)
  refine WL.e Zb'<|WL.next<|WP.seq<|WP.reg<|WL.e (e_fa XF')<|WL.e (Zc' a23)<|WL.e YD'<|WL.e Za' ?_
  refine WL.bool 16 rfl (fun g2=>?_) (fun g2=>?_)
  ·skip
   refine WL.e (e_fa XF')<|WL.e (Zc' a23)<|WL.e X2'<|WL.e Zn'<|WL.e Za' ?_
   refine WL.bool 21 rfl (fun g3=>?_) (fun g3=>?_)
   ·skip
    refine WL.e (e_fa X8')<|WL.e (Zc' a9) ?_
    refine WL.h (Zg' (X9' _) k45 ?_)
    refine WL.e Zn'<|WL.e Za' ?_
    refine WL.bool 26 rfl (fun g4=>?_) (fun g4=>?_)
    ·skip
     refine WL.e Za'<|WL.e Zn'<|WL.e Za' ?_
     refine WL.bool 29 rfl (fun g5=>?_) (fun g5=>?_)
     ·skip
      refine WL.e (e_fa ZaK_)<|WL.e (Zc' a24)<|WL.e (Jt' (b:=0))<|WL.e Za' ?_
      refine WL.bool 33 rfl (fun g6=>?_) (fun g6=>?_)
      ·skip
       refine WL.skip<|WL.skip<|WL.skip<|WL.e Zn'<|WL.e Zn'<|WL.e Zb'<|WL.next<|WP.ret ?_
       exact PO.finE Tryz.results165 (Zd' Zf') (by simp_all [opOk] <;> (intros;omega)) hK
      ·skip
       refine WL.e (e_fa XF')<|WL.e (Zc' a23)<|WL.e (Xq' (b:=2))<|WL.e Zl'<|WL.e Zn'<|WL.e Zb'<|WL.next<|WP.ret ?_
       exact PO.finE Tryz.results165 (Zd' Zf') (by simp_all [opOk] <;> (intros;omega)) hK
     ·skip
      refine WL.skip<|WL.skip<|WL.skip<|WL.skip<|WL.skip<|WL.skip<|WL.skip<|WL.skip<|WL.e Zl'<|WL.e Zb'<|WL.next<|WP.ret ?_
      exact PO.finE Tryz.results165 (Zd' Zf') (by simp_all [opOk] <;> (intros;omega)) hK
    ·skip
     refine WL.skip<|WL.e Zl'<|WL.e Za'<|WL.skip<|WL.skip<|WL.skip<|WL.skip<|WL.skip<|WL.skip<|WL.skip<|WL.skip<|WL.e Zl'<|WL.e Zb'<|WL.next<|WP.ret ?_
     exact PO.finE Tryz.results165 (Zd' Zf') (by simp_all [opOk] <;> (intros;omega)) hK
   ·skip
    refine WL.skip<|WL.skip<|WL.skip<|WL.e Zl'<|WL.e Za'<|WL.skip<|WL.e Zl'<|WL.e Za'<|WL.skip<|WL.skip<|WL.skip<|WL.skip<|WL.skip<|WL.skip<|WL.skip<|WL.skip<|WL.e Zl'<|WL.e Zb'<|WL.next<|WP.ret ?_
    exact PO.finE Tryz.results165 (Zd' Zf') (by simp_all [opOk] <;> (intros;omega)) hK
  ·skip
   refine WL.skip<|WL.skip<|WL.skip<|WL.e Zl'<|WL.e Za'<|WL.skip<|WL.skip<|WL.skip<|WL.e Zl'<|WL.e Za'<|WL.skip<|WL.e Zl'<|WL.e Za'<|WL.skip<|WL.skip<|WL.skip<|WL.skip<|WL.skip<|WL.skip<|WL.skip<|WL.skip<|WL.e Zl'<|WL.e Zb'<|WL.next ?_
   refine WP.ret ?_
   exact PO.finE Tryz.results165 (Zd' Zf') (by simp_all [opOk] <;> (intros;omega)) hK
 ·skip
  refine WP.skip<|PO.next<|WP.seq<|WP.reg<|WL.e (e_fa XF')<|WL.e (Zc' a23)<|WL.e YD'<|WL.e Za' ?_
  refine WL.bool 16 rfl (fun g7=>?_) (fun g7=>?_)
  ·skip
   refine WL.e (e_fa XF')<|WL.e (Zc' a23)<|WL.e X2'<|WL.e Zn'<|WL.e Za' ?_
   refine WL.bool 21 rfl (fun g8=>?_) (fun g8=>?_)
   ·skip
    refine WL.e (e_fa X8')<|WL.e (Zc' a9) ?_
    refine WL.h (Zg' (X9' _) k45 ?_)
    refine WL.e Zn'<|WL.e Za' ?_
    refine WL.bool 26 rfl (fun g9=>?_) (fun g9=>?_)
    ·skip
     refine WL.e Za'<|WL.e Zn'<|WL.e Za' ?_
     refine WL.bool 29 rfl (fun g10=>?_) (fun g10=>?_)
     ·skip
      refine WL.e (e_fa ZaK_)<|WL.e (Zc' a24)<|WL.e (Jt' (b:=0))<|WL.e Za' ?_
      refine WL.bool 33 rfl (fun g11=>?_) (fun g11=>?_)
      ·skip
       refine WL.skip<|WL.skip<|WL.skip<|WL.e Zn'<|WL.e Zn'<|WL.e Zb'<|WL.next<|WP.ret ?_
       exact PO.finE Tryz.results165 (Zd' Zf') (by simp_all [opOk] <;> (intros;omega)) hK
      ·skip
       refine WL.e (e_fa XF')<|WL.e (Zc' a23)<|WL.e (Xq' (b:=2))<|WL.e Zl'<|WL.e Zn'<|WL.e Zb'<|WL.next<|WP.ret ?_
       exact PO.finE Tryz.results165 (Zd' Zf') (by simp_all [opOk] <;> (intros;omega)) hK
     ·skip
      refine WL.skip<|WL.skip<|WL.skip<|WL.skip<|WL.skip<|WL.skip<|WL.skip<|WL.skip<|WL.e Zl'<|WL.e Zb'<|WL.next<|WP.ret ?_
      exact PO.finE Tryz.results165 (Zd' Zf') (by simp_all [opOk] <;> (intros;omega)) hK
    ·skip
     refine WL.skip<|WL.e Zl'<|WL.e Za'<|WL.skip<|WL.skip<|WL.skip<|WL.skip<|WL.skip<|WL.skip<|WL.skip<|WL.skip<|WL.e Zl'<|WL.e Zb'<|WL.next<|WP.ret ?_
     exact PO.finE Tryz.results165 (Zd' Zf') (by simp_all [opOk] <;> (intros;omega)) hK
   ·skip
    refine WL.skip<|WL.skip<|WL.skip<|WL.e Zl'<|WL.e Za'<|WL.skip<|WL.e Zl'<|WL.e Za'<|WL.skip<|WL.skip<|WL.skip<|WL.skip<|WL.skip<|WL.skip<|WL.skip<|WL.skip<|WL.e Zl'<|WL.e Zb'<|WL.next<|WP.ret ?_
    exact PO.finE Tryz.results165 (Zd' Zf') (by simp_all [opOk] <;> (intros;omega)) hK
  ·skip
   refine WL.skip<|WL.skip<|WL.skip<|WL.e Zl'<|WL.e Za'<|WL.skip<|WL.skip<|WL.skip<|WL.e Zl'<|WL.e Za'<|WL.skip<|WL.e Zl'<|WL.e Za'<|WL.skip<|WL.skip<|WL.skip<|WL.skip<|WL.skip<|WL.skip<|WL.skip<|WL.skip<|WL.e Zl'<|WL.e Zb'<|WL.next ?_
   refine WP.ret ?_
   exact PO.finE Tryz.results165 (Zd' Zf') (by simp_all [opOk] <;> (intros;omega)) hK
end Go.SL
set_option linter.unusedSectionVars false
namespace Go.SL
open Go
def numB (n:UInt32):Nat→List UInt8
  | 0=>[]
  | k+1=>UInt8.ofNat (n.toNat / 2 ^ (8 * k))::numB n k
theorem Yh' (n:UInt32):∀ k,(numB n k).length=k
  | 0=>rfl
  | k+1=>by simp [numB,Yh' n k]
def YW' (s:ByteArray):List UInt8:=UInt8.ofNat s.size::Ki' s
theorem YJ' (s:ByteArray):(Ki' s).length=s.size:=rfl
def chgB (c:ChgM):List UInt8:=YW' c.key++[if c.gone then 1 else 0]++numB c.val 4
def Yn' (l:List ChgM):List UInt8:=numB (UInt32.ofNat l.length) 2++l.flatMap chgB
end Go.SL
namespace Go.SL.Fc
open Go Go.Proofs Go.SL
theorem a179:ZK' Tryz.prog 179=some (some 3):=by kernel_rfl
theorem a4:ZK' Tryz.prog 4=some none:=by kernel_rfl
theorem XC':ZO' Tryz.prog 179 0=some 0:=by kernel_rfl
theorem Y4':ZO' Tryz.prog 179 1=some 1:=by kernel_rfl
theorem QU':ZO' Tryz.prog 179 2=some 2:=by kernel_rfl
theorem k103:Zh' Tryz.prog 103=true:=by kernel_rfl
theorem k104:Zh' Tryz.prog 104=true:=by kernel_rfl
theorem k105:Zh' Tryz.prog 105=true:=by kernel_rfl
theorem k106:Zh' Tryz.prog 106=true:=by kernel_rfl
theorem k107:Zh' Tryz.prog 107=true:=by kernel_rfl
theorem k108:Zh' Tryz.prog 108=true:=by kernel_rfl
theorem Zq':Tryz.prog.follows .mixedOrders=true:=by kernel_rfl
theorem s179:szOf Tryz.prog 179=some 3:=by kernel_rfl
theorem Z6':slOf Tryz.prog 137=some (5,1,1):=by kernel_rfl
theorem Yw':slOf Tryz.prog 138=some (179,3,24):=by kernel_rfl
theorem z179:ZH' Tryz.prog 179=some [.string .empty,.int .u32 0,.bool false]:=by kernel_rfl
theorem z5:ZH' Tryz.prog 5=some [.int .u8 0]:=by kernel_rfl
end Go.SL.Fc
namespace Go.SL
open Go Go.Proofs Fc
theorem U7' {g:World} (b:Bool) (e:Int):Spec Tryz.prog g 104 [.bool b,.int .i64 e] [] fun K R=>K (.int .i64 (if b then 0 else e)) R:=by
 refine Spec.intro Tryz.func104 rfl Tryz.ntmps104 rfl fun R K hK=>?_
 refine WP.seq<|WP.reg<|WL.e Zb'<|WL.next<|WP.seq<|WP.seq<|WP.reg<|WL.e Za'<|WL.next ?_
 refine WP.cond rfl (fun g1=>?_) (fun g1=>?_)
 ·skip
  refine WP.seq<|WP.reg<|WL.e Zb'<|WL.next<|WP.ret<|PO.past nofun ?_
  exact PO.finE Tryz.results104 (Zd' Zf') (by simp_all) hK
 ·skip
  refine WP.skip<|PO.next<|WP.seq<|WP.reg<|WL.e Za'<|WL.e Zb'<|WL.next<|WP.ret ?_
  exact PO.finE Tryz.results104 (Zd' Zf') (by simp_all) hK
theorem ZkN_ {g:World} (c:ChgM):Spec Tryz.prog g 103 [c.v] [] fun K R=>K (.int .i64 (if ZR' c then 0 else 1)) R:=by
 refine Spec.intro Tryz.func103 rfl Tryz.ntmps103 rfl fun R K hK=>?_
 refine WP.seq<|WP.reg ?_
 refine WL.h (ZL' fun b1=>?_)
 refine WL.e Zb'<|WL.next<|WP.seq<|WP.reg<|WL.e (e_fa XC')<|WL.e (Zc' a9) ?_
 refine WL.h (Zg' (X9' _) k45 ?_)
 refine WL.e Za' ?_
 refine WL.bool 6 rfl (fun g1=>?_) (fun g1=>?_)
 ·skip
  refine WL.e (e_fa QU')<|WL.e (Zc' a4)<|WL.e Zx'<|WL.e Za' ?_
  refine WL.bool 10 rfl (fun g2=>?_) (fun g2=>?_)
  ·skip
   refine WL.skip<|WL.skip<|WL.skip<|WL.e Zn'<|WL.e Zn' ?_
   refine WL.h (Zg' (U7' _ _) k104 ?_)
   refine WL.e Zb'<|WL.next<|WP.ret ?_
   exact PO.finE Tryz.results103 (Zd' Zf') (by simp_all [ZR']) hK
  ·skip
   refine WL.e (e_fa Y4')<|WL.e (Zc' a24)<|WL.e (Jt' (b:=0))<|WL.e Zl'<|WL.e Zn' ?_
   refine WL.h (Zg' (U7' _ _) k104 ?_)
   refine WL.e Zb'<|WL.next<|WP.ret ?_
   exact PO.finE Tryz.results103 (Zd' Zf') (by simp_all [ZR']) hK
 ·skip
  refine WL.skip<|WL.skip<|WL.skip<|WL.skip<|WL.skip<|WL.skip<|WL.skip<|WL.skip<|WL.e Zl' ?_
  refine WL.h (Zg' (U7' _ _) k104 ?_)
  refine WL.e Zb'<|WL.next<|WP.ret ?_
  exact PO.finE Tryz.results103 (Zd' Zf') (by simp_all [ZR']) hK
theorem Ks' {g:World} {u:Value} {xs:List UInt8} (n:UInt32) (k:Nat) (hk:k≤4) (hb:xs.length+k≤68719476736):Spec Tryz.prog g 107 [u,.int .u32 n.toNat,.int .i64 k] [Sl 5 1 eB u xs] fun K R=>∀ a m c,K (.slice a m c) (Sl 5 1 eB (.slice a m c) (xs++numB n k)::R):=by
 refine Spec.intro Tryz.func107 rfl Tryz.ntmps107 rfl fun R K hK=>?_
 refine WP.seq<|WP.reg<|WL.e Zb'<|WL.next<|WP.seq<|WP.seq<|WP.reg<|WL.e Za'<|WL.e (Y9' rfl rfl (Zt' (by omega) (by omega)))<|WL.e Zb'<|WL.next<|WP.block<|WP.loopK (fun (x:Value × Nat × List UInt8)=>[(0,x.1),(7,.int .i64 ((x.2.1:Int) - 1))]) (fun (x:Value × Nat × List UInt8)=>Sl 5 1 eB x.1 x.2.2::R) [(1,_),(6,_)] (fun (x:Value × Nat × List UInt8)=>x.2.1≤k∧x.2.2++numB n x.2.1=xs++numB n k) (fun (x:Value × Nat × List UInt8)=>x.2.1) (u,k,xs) (⟨Nat.le_refl _,rfl⟩) ?_
 rintro ⟨u1,j,pre⟩ ⟨hx1,hx2⟩
 simp only at hx1 hx2
 dsimp only
 refine WP.seq<|WP.seq<|WP.reg<|WL.e Za'<|WL.e YD'<|WL.next ?_
 refine WP.cond rfl (fun h=>?_) (fun h=>?_)
 ·obtain ⟨m,rfl⟩:∃ m,j=m+1:=⟨j - 1,by simp at h;omega⟩
  have hpl:pre.length+(m+1)=xs.length+k:=by have:=congrArg List.length hx2;simpa [Yh'] using this
  refine WP.skip<|PO.next<|WP.seq<|WP.block<|WP.reg<|WL.e Za'<|WL.e Za'<|WL.e Za'<|WL.e (QC' (c:=((8 * m:Nat):Int)) rfl rfl (by rw [Zt' (by omega) (by omega)];omega))<|WL.e (Ug' (k:=.u32) (m:=8 * m) (by simp [IntKind.bits];omega))<|WL.e (e_c8 (by rw [Tryz.underlying24];rfl) Tryz.underlying5) ?_
  refine WL.h (h_bs Z6' z5 (.o (.tmp 19) rfl<|.n) fun b1=>?_)
  refine WL.h (ZG' (xs:=pre) Z6' Yp' z5 (Z7' Yp' [UInt8.ofNat (n.toNat / 2 ^ (8 * m))] rfl) (by simp;omega) fun a2 n2 c2=>?_)
  refine WL.e Zb'<|WL.nil<|PO.blockN<|PO.next<|WP.reg<|WL.e Za'<|WL.e (Y9' (c:=(m:Int) - 1) rfl rfl (by rw [Zt' (by omega) (by omega)];omega))<|WL.e Zb'<|WL.nil ?_
  exact PO.againK (.slice a2 n2 c2,m,pre++[UInt8.ofNat (n.toNat / 2 ^ (8 * m))]) ⟨by simp only;omega,by rw [← hx2];simp [numB]⟩ (by simp only;omega)
 ·obtain rfl:j=0:=by simp at h;omega
  refine WP.exit<|PO.past nofun<|PO.round nofun<|PO.blockX<|PO.next<|WP.seq<|WP.reg<|WL.e Za'<|WL.e Zb'<|WL.next<|WP.ret<|PO.sh (u:=u1) ?_
  rintro a1 n1 c1 rfl
  exact PO.fin Tryz.results107 (Zd' Zf') (by have:=hK a1 n1 c1;rw [← hx2] at this;simpa [numB] using this)
theorem VK' {g:World} {u:Value} {xs:List UInt8} (s:ByteArray) (hb:xs.length+s.size+1≤68719476736):Spec Tryz.prog g 108 [u,.string s] [Sl 5 1 eB u xs] fun K R=>∀ a m c,K (.slice a m c) (Sl 5 1 eB (.slice a m c) (xs++YW' s)::R):=by
 refine Spec.intro Tryz.func108 rfl Tryz.ntmps108 rfl fun R K hK=>?_
 refine WP.seq<|WP.reg<|WL.e Zb'<|WL.next<|WP.seq<|WP.reg<|WL.e Za'<|WL.e Za'<|WL.e (Zdd_ Tryz.underlying9)<|WL.e (e_c8 (by rw [Tryz.underlying3];rfl) Tryz.underlying5) ?_
 refine WL.h (h_bs Z6' z5 (.o (.tmp 8) rfl<|.n) fun b1=>?_)
 refine WL.h (ZG' (xs:=xs) Z6' Yp' z5 (Z7' Yp' [UInt8.ofNat s.size] rfl) (by simp;omega) fun a2 n2 c2=>?_)
 refine WL.e Za' ?_
 refine WL.h (ZfP_ (xs:=xs++[UInt8.ofNat s.size]) Z6' Tryz.underlying9 z5 (s:=s) (by simp;omega) fun a3 n3 c3=>?_)
 rw [List.append_assoc]
 refine WL.e Zb'<|WL.next<|WP.ret ?_
 exact PO.fin Tryz.results108 (Zd' Zf') (hK a3 n3 c3)
theorem ZkO_ {g:World} {u:Value} {xs:List UInt8} (c:ChgM) (hb:xs.length+(chgB c).length≤68719476736):Spec Tryz.prog g 106 [u,c.v] [Sl 5 1 eB u xs] fun K R=>∀ a m k,K (.slice a m k) (Sl 5 1 eB (.slice a m k) (xs++chgB c)::R):=by
 refine Spec.intro Tryz.func106 rfl Tryz.ntmps106 rfl fun R K hK=>?_
 refine WP.seq<|WP.reg ?_
 refine WL.h (ZL' fun b1=>?_)
 refine WL.e Zb'<|WL.next<|WP.seq<|WP.reg<|WL.e Zb'<|WL.next<|WP.seq<|WP.seq<|WP.reg<|WL.e (e_fa QU')<|WL.e (Zc' a4)<|WL.next ?_
 refine WP.cond rfl (fun hg=>?_) (fun hg=>?_)
 ·skip
  refine WP.reg<|WL.e Zb'<|WL.next<|WP.seq<|WP.draws Zq' 11<|RW.e 0 rfl Za'<|RW.e 1 rfl (e_fa XC')<|RW.e 2 rfl (Zc' a9)<|RW.e 4 rfl Za'<|RW.e 7 rfl (e_fa Y4')<|RW.e 8 rfl (Zc' a24) ?_
  refine RW.any (is:=[3,5]) rfl ⟨?_,?_,trivial⟩
  ·skip
   refine RWat.h rfl rfl rfl ?_
   refine (Zg' (VK' (xs:=xs) c.key (by simp [chgB,YW',YJ',Yh'] at hb;omega)) k108 ?_)
   intro a2 n2 c2
   refine ⟨⟨⟨_,rfl,.inl ⟨rfl,(Zc' a24)⟩⟩,⟨_,rfl,.inl ⟨rfl,(e_fa Y4')⟩⟩,⟨_,rfl,.inl ⟨rfl,Za'⟩⟩,trivial⟩,?_⟩
   refine RW.any (is:=[5]) rfl ⟨?_,trivial⟩
   refine RWat.h rfl rfl rfl ?_
   refine (h_bs Z6' z5 (.o (.tmp 12) rfl<|.n) fun b2=>?_)
   refine ⟨⟨⟨_,rfl,.inl ⟨rfl,(Zc' a24)⟩⟩,⟨_,rfl,.inl ⟨rfl,(e_fa Y4')⟩⟩,trivial⟩,?_⟩
   refine RW.any (is:=[6]) rfl ⟨?_,trivial⟩
   refine RWat.h rfl rfl rfl ?_
   refine (ZG' (xs:=xs++YW' c.key) Z6' Yp' z5 (Z7' Yp' [1] rfl) (by simp [chgB,YW',YJ',Yh'] at hb ⊢;omega) fun a3 n3 c3=>?_)
   refine ⟨⟨⟨_,rfl,.inl ⟨rfl,(Zc' a24)⟩⟩,⟨_,rfl,.inl ⟨rfl,(e_fa Y4')⟩⟩,trivial⟩,?_⟩
   refine RW.any (is:=[9]) rfl ⟨?_,trivial⟩
   refine RWat.h rfl rfl rfl ?_
   refine (Zg' (Ks' (xs:=xs++YW' c.key++[1]) c.val 4 (by decide) (by simp [chgB,YW',YJ',Yh'] at hb ⊢;omega)) k107 ?_)
   intro a4 n4 c4
   refine ⟨trivial,?_⟩
   refine RW.e 10 rfl Zb'<|RW.done<|PO.next<|WP.ret ?_
   exact PO.fin Tryz.results106 (Zd' Zf') (by have:=hK a4 n4 c4;rwa [show xs++chgB c=xs++YW' c.key++[1]++numB c.val 4 by simp [chgB,hg]] at this)
  ·skip
   refine RWat.h rfl rfl rfl ?_
   refine (h_bs Z6' z5 (.o (.tmp 12) rfl<|.n) fun b3=>?_)
   refine ⟨⟨⟨_,rfl,.inl ⟨rfl,(Zc' a24)⟩⟩,⟨_,rfl,.inl ⟨rfl,(e_fa Y4')⟩⟩,⟨_,rfl,.inl ⟨rfl,(Zc' a9)⟩⟩,⟨_,rfl,.inl ⟨rfl,(e_fa XC')⟩⟩,⟨_,rfl,.inl ⟨rfl,Za'⟩⟩,trivial⟩,?_⟩
   refine RW.any (is:=[3]) rfl ⟨?_,trivial⟩
   refine RWat.h rfl rfl rfl ?_
   refine (Zg' (VK' (xs:=xs) c.key (by simp [chgB,YW',YJ',Yh'] at hb;omega)) k108 ?_)
   intro a2 n2 c2
   refine ⟨⟨⟨_,rfl,.inl ⟨rfl,(Zc' a24)⟩⟩,⟨_,rfl,.inl ⟨rfl,(e_fa Y4')⟩⟩,trivial⟩,?_⟩
   refine RW.any (is:=[6]) rfl ⟨?_,trivial⟩
   refine RWat.h rfl rfl rfl ?_
   refine (ZG' (xs:=xs++YW' c.key) Z6' Yp' z5 (Z7' Yp' [1] rfl) (by simp [chgB,YW',YJ',Yh'] at hb ⊢;omega) fun a3 n3 c3=>?_)
   refine ⟨⟨⟨_,rfl,.inl ⟨rfl,(Zc' a24)⟩⟩,⟨_,rfl,.inl ⟨rfl,(e_fa Y4')⟩⟩,trivial⟩,?_⟩
   refine RW.any (is:=[9]) rfl ⟨?_,trivial⟩
   refine RWat.h rfl rfl rfl ?_
   refine (Zg' (Ks' (xs:=xs++YW' c.key++[1]) c.val 4 (by decide) (by simp [chgB,YW',YJ',Yh'] at hb ⊢;omega)) k107 ?_)
   intro a4 n4 c4
   refine ⟨trivial,?_⟩
   refine RW.e 10 rfl Zb'<|RW.done<|PO.next<|WP.ret ?_
   exact PO.fin Tryz.results106 (Zd' Zf') (by have:=hK a4 n4 c4;rwa [show xs++chgB c=xs++YW' c.key++[1]++numB c.val 4 by simp [chgB,hg]] at this)
 ·skip
  refine WP.skip<|PO.next<|WP.seq<|WP.draws Zq' 11<|RW.e 0 rfl Za'<|RW.e 1 rfl (e_fa XC')<|RW.e 2 rfl (Zc' a9)<|RW.e 4 rfl Za'<|RW.e 7 rfl (e_fa Y4')<|RW.e 8 rfl (Zc' a24) ?_
  refine RW.any (is:=[3,5]) rfl ⟨?_,?_,trivial⟩
  ·skip
   refine RWat.h rfl rfl rfl ?_
   refine (Zg' (VK' (xs:=xs) c.key (by simp [chgB,YW',YJ',Yh'] at hb;omega)) k108 ?_)
   intro a2 n2 c2
   refine ⟨⟨⟨_,rfl,.inl ⟨rfl,(Zc' a24)⟩⟩,⟨_,rfl,.inl ⟨rfl,(e_fa Y4')⟩⟩,⟨_,rfl,.inl ⟨rfl,Za'⟩⟩,trivial⟩,?_⟩
   refine RW.any (is:=[5]) rfl ⟨?_,trivial⟩
   refine RWat.h rfl rfl rfl ?_
   refine (h_bs Z6' z5 (.o (.tmp 12) rfl<|.n) fun b4=>?_)
   refine ⟨⟨⟨_,rfl,.inl ⟨rfl,(Zc' a24)⟩⟩,⟨_,rfl,.inl ⟨rfl,(e_fa Y4')⟩⟩,trivial⟩,?_⟩
   refine RW.any (is:=[6]) rfl ⟨?_,trivial⟩
   refine RWat.h rfl rfl rfl ?_
   refine (ZG' (xs:=xs++YW' c.key) Z6' Yp' z5 (Z7' Yp' [0] rfl) (by simp [chgB,YW',YJ',Yh'] at hb ⊢;omega) fun a3 n3 c3=>?_)
   refine ⟨⟨⟨_,rfl,.inl ⟨rfl,(Zc' a24)⟩⟩,⟨_,rfl,.inl ⟨rfl,(e_fa Y4')⟩⟩,trivial⟩,?_⟩
   refine RW.any (is:=[9]) rfl ⟨?_,trivial⟩
   refine RWat.h rfl rfl rfl ?_
   refine (Zg' (Ks' (xs:=xs++YW' c.key++[0]) c.val 4 (by decide) (by simp [chgB,YW',YJ',Yh'] at hb ⊢;omega)) k107 ?_)
   intro a4 n4 c4
   refine ⟨trivial,?_⟩
   refine RW.e 10 rfl Zb'<|RW.done<|PO.next<|WP.ret ?_
   exact PO.fin Tryz.results106 (Zd' Zf') (by have:=hK a4 n4 c4;rwa [show xs++chgB c=xs++YW' c.key++[0]++numB c.val 4 by simp [chgB,hg]] at this)
  ·skip
   refine RWat.h rfl rfl rfl ?_
   refine (h_bs Z6' z5 (.o (.tmp 12) rfl<|.n) fun b5=>?_)
   refine ⟨⟨⟨_,rfl,.inl ⟨rfl,(Zc' a24)⟩⟩,⟨_,rfl,.inl ⟨rfl,(e_fa Y4')⟩⟩,⟨_,rfl,.inl ⟨rfl,(Zc' a9)⟩⟩,⟨_,rfl,.inl ⟨rfl,(e_fa XC')⟩⟩,⟨_,rfl,.inl ⟨rfl,Za'⟩⟩,trivial⟩,?_⟩
   refine RW.any (is:=[3]) rfl ⟨?_,trivial⟩
   refine RWat.h rfl rfl rfl ?_
   refine (Zg' (VK' (xs:=xs) c.key (by simp [chgB,YW',YJ',Yh'] at hb;omega)) k108 ?_)
   intro a2 n2 c2
   refine ⟨⟨⟨_,rfl,.inl ⟨rfl,(Zc' a24)⟩⟩,⟨_,rfl,.inl ⟨rfl,(e_fa Y4')⟩⟩,trivial⟩,?_⟩
   refine RW.any (is:=[6]) rfl ⟨?_,trivial⟩
   refine RWat.h rfl rfl rfl ?_
   refine (ZG' (xs:=xs++YW' c.key) Z6' Yp' z5 (Z7' Yp' [0] rfl) (by simp [chgB,YW',YJ',Yh'] at hb ⊢;omega) fun a3 n3 c3=>?_)
   refine ⟨⟨⟨_,rfl,.inl ⟨rfl,(Zc' a24)⟩⟩,⟨_,rfl,.inl ⟨rfl,(e_fa Y4')⟩⟩,trivial⟩,?_⟩
   refine RW.any (is:=[9]) rfl ⟨?_,trivial⟩
   refine RWat.h rfl rfl rfl ?_
   refine (Zg' (Ks' (xs:=xs++YW' c.key++[0]) c.val 4 (by decide) (by simp [chgB,YW',YJ',Yh'] at hb ⊢;omega)) k107 ?_)
   intro a4 n4 c4
   refine ⟨trivial,?_⟩
   refine RW.e 10 rfl Zb'<|RW.done<|PO.next<|WP.ret ?_
   exact PO.fin Tryz.results106 (Zd' Zf') (by have:=hK a4 n4 c4;rwa [show xs++chgB c=xs++YW' c.key++[0]++numB c.val 4 by simp [chgB,hg]] at this)
theorem ZkP_ {g:World} {A:HP} {u y1 y2:Value} {l:List ChgM} (hA:RL A 3 ChgM.c u l) (most:Nat) (hl:l.length≤68719476736)
  (h1:∀ c,CallV Tryz.prog g y1 [c.v] [] fun K R=>K (.int .i64 (if ZR' c then 0 else 1)) R)
  (h2:∀ u xs c,xs.length+(chgB c).length≤68719476736→CallV Tryz.prog g y2 [u,c.v] [Sl 5 1 eB u xs] fun K R=>∀ a m c',K (.slice a m c') (Sl 5 1 eB (.slice a m c') (xs++chgB c)::R))
  (hb:2+(l.flatMap chgB).length≤68719476736) :
  Spec Tryz.prog g 105 [u,.int .i64 most,y1,y2] [A] fun K R=>(l.all ZR'=false→K (.tuple #[.slice none 0 0,.int .i64 1]) (A::R))∧(l.all ZR'=true→¬ l.length≤most→K (.tuple #[.slice none 0 0,.int .i64 3]) (A::R)) ∧
   (l.all ZR'=true→l.length≤most→∀ a m c,K (.tuple #[.slice a m c,.int .i64 0]) (Sl 5 1 eB (.slice a m c) (Yn' l)::A::R)):=by
 refine Spec.intro Tryz.func105 rfl Tryz.ntmps105 rfl fun R K hK=>?_
 refine WP.seq<|WP.reg<|WL.e Zb'<|WL.e Zb'<|WL.next<|WP.seq<|WP.reg<|WL.e Zb'<|WL.next<|WP.seq<|WP.seq<|WP.reg<|WL.e Za'<|WL.e (ZD' Yw' hA)<|WL.e Za'<|WL.next<|WP.block<|WP.loopK (fun (x:Nat)=>[(18,.int .i64 x),(10,.int .i64 0)]) (fun (x:Nat)=>A::R) [(0,_),(1,_),(2,_),(3,_),(16,_),(17,_)] (fun (x:Nat)=>x≤l.length∧(l.take x).all ZR'=true) (fun (x:Nat)=>l.length - x) 0 (⟨Nat.zero_le _,by simp⟩) ?_
 rintro x ⟨hx1,hx2⟩
 try dsimp only
 refine WP.seq<|WP.reg<|WL.e Z3'<|WL.next<|WP.seq ?_
 refine WP.cond rfl (fun g1=>?_) (fun g1=>?_)
 ·have hlt:x < l.length:=by simp at g1;omega
  obtain ⟨c,hc⟩:∃ c,l[x]?=some c:=⟨l[x],List.getElem?_eq_getElem hlt⟩
  refine WP.skip<|PO.next<|WP.seq<|WP.block<|WP.seq<|WP.reg<|WL.e (ZZ' Yw' hA hlt)<|WL.e (YA' a179 chgE hA hc) ?_
  refine WL.h (Zu' z179 fun b1=>?_)
  refine WL.h' (Zj' s179 ?_)
  refine WL.next<|WP.seq<|WP.reg<|WL.e Za'<|WL.e (Zm' a179) ?_
  refine WL.h (YE' (h1 c) ?_)
  refine WL.next<|WP.block<|WP.seq<|WP.reg<|WL.e ZM'<|WL.e Zb'<|WL.next ?_
  refine WP.cond rfl (fun h=>?_) (fun h=>?_)
  ·replace h:ZR' c=false:=by cases hq:ZR' c <;> simp_all
   refine WP.seq<|WP.reg<|WL.e Zb'<|WL.e Zb'<|WL.next<|WP.ret<|PO.blockR<|PO.blockR<|PO.past nofun<|PO.round nofun<|PO.blockR<|PO.past nofun ?_
   exact PO.fin Tryz.results105 (Zd' (Zd' Zf')) (hK.1 (by rw [Bool.eq_false_iff];intro e;rw [List.all_eq_true] at e;have:=e c (List.mem_of_getElem? hc);rw [h] at this;cases this))
  ·replace h:ZR' c=true:=by cases hq:ZR' c <;> simp_all
   refine WP.seq<|WP.reg<|WL.e ZM'<|WL.e Zb'<|WL.next ?_
   refine WP.cond rfl (fun h9=>?_) (fun h9=>?_)
   ·simp [h] at h9
   ·skip
    refine WP.skip<|PO.blockN<|PO.blockN<|PO.next<|WP.reg<|WL.e (ZE' rfl rfl (Zt' (by omega) (by omega)))<|WL.e Za'<|WL.nil ?_
    exact PO.againK (x+1) ⟨by omega,by rw [List.take_add_one,hc];simp [hx2,h]⟩ (by omega)
 ·have hall:l.all ZR'=true:=by (rw [List.take_of_length_le (by simp at g1;omega)] at hx2;exact hx2)
  refine WP.exit<|PO.past nofun<|PO.round nofun<|PO.blockX<|PO.next<|WP.seq<|WP.seq<|WP.reg<|WL.e Za'<|WL.e Z2'<|WL.e Za' ?_
  refine WL.bool 32 rfl (fun h0=>?_) (fun h0=>?_)
  ·simp at h0 
  ·skip
   refine WL.e Za'<|WL.e (ZD' Yw' hA)<|WL.e Za'<|WL.e YY'<|WL.e Zl'<|WL.next ?_
   refine WP.cond rfl (fun g3=>?_) (fun g3=>?_)
   ·skip
    refine WP.seq<|WP.reg<|WL.e Zb'<|WL.e Zb'<|WL.next<|WP.ret<|PO.past nofun ?_
    exact PO.fin Tryz.results105 (Zd' (Zd' Zf')) (hK.2.1 hall (by simp at g3;omega))
   ·skip
    refine WP.skip<|PO.next<|WP.seq<|WP.reg<|WL.e Za'<|WL.e (ZD' Yw' hA)<|WL.e (Y6' (by rw [Tryz.underlying3];rfl) Tryz.underlying24 rfl rfl)<|WL.nils 5 1 eB none ?_
    refine WL.h (Zg' (Ks' (xs:=[]) (UInt32.ofNat l.length) 2 (by decide) (by simp)) k107 ?_)
    intro a2 n2 c2
    refine WL.e Zb'<|WL.next<|WP.seq<|WP.seq<|WP.reg<|WL.e Za'<|WL.e (ZD' Yw' hA)<|WL.e Za'<|WL.next<|WP.block<|WP.loopK (fun (x:Nat × Value)=>[(44,.int .i64 x.1),(13,x.2)]) (fun (x:Nat × Value)=>Sl 5 1 eB x.2 (numB (UInt32.ofNat l.length) 2++(l.take x.1).flatMap chgB)::A::R) [(3,_),(42,_),(43,_)] (fun (x:Nat × Value)=>x.1≤l.length) (fun (x:Nat × Value)=>l.length - x.1) (0,.slice a2 n2 c2) (Nat.zero_le _) ?_
    rintro ⟨x,u3⟩ hx1
    simp only at hx1
    dsimp only
    refine WP.seq<|WP.reg<|WL.e Z3'<|WL.next<|WP.seq ?_
    refine WP.cond rfl (fun g4=>?_) (fun g4=>?_)
    ·have hlt:x < l.length:=by simp at g4;omega
     obtain ⟨c,hc⟩:∃ c,l[x]?=some c:=⟨l[x],List.getElem?_eq_getElem hlt⟩
     refine WP.skip<|PO.next<|WP.seq<|WP.block<|WP.seq<|WP.reg<|WL.e (ZZ' Yw' hA hlt)<|WL.e (YA' a179 chgE hA hc) ?_
     refine WL.h (Zu' z179 fun b2=>?_)
     refine WL.h' (Zj' s179 ?_)
     refine WL.next<|WP.reg<|WL.e Za'<|WL.e Za'<|WL.e (Zm' a179) ?_
     refine WL.h (YE' (h2 u3 _ c ?_) ?_)
     ·have:=Zi3_ chgB hc;simp only [List.length_append,Yh'];omega
     intro a4 n4 c4
     rw [show numB (UInt32.ofNat l.length) 2++(l.take x).flatMap chgB++chgB c=numB (UInt32.ofNat l.length) 2++(l.take (x+1)).flatMap chgB by rw [List.take_add_one,hc];simp]
     refine WL.e Zb'<|WL.nil<|PO.blockN<|PO.next<|WP.reg<|WL.e (ZE' rfl rfl (Zt' (by omega) (by omega)))<|WL.e Za'<|WL.nil ?_
     exact PO.againK (x+1,.slice a4 n4 c4) (by simp only;omega) (by simp only;omega)
    ·have hfin:l.take x=l:=List.take_of_length_le (by simp at g4;omega)
     rw [hfin]
     refine WP.exit<|PO.past nofun<|PO.round nofun<|PO.blockX<|PO.next<|WP.seq<|WP.reg<|WL.e Za'<|WL.e Zb'<|WL.e Zb'<|WL.next<|WP.ret<|PO.sh (u:=u3) ?_
     rintro a3 n3 c3 rfl
     exact PO.fin Tryz.results105 (Zd' (Zd' Zf')) (hK.2.2 hall (by simp at g3;omega) a3 n3 c3)
theorem JY' {g:World} {A:HP} {u:Value} {l:List ChgM} (hA:RL A 3 ChgM.c u l) (hl:l.length≤68719476736) (hb:2+(l.flatMap chgB).length≤68719476736) :
  Spec Tryz.prog g 78 [u] [A] fun K R=>(l.all ZR'=false→K (.tuple #[.slice none 0 0,.int .i64 1]) (A::R))∧(l.all ZR'=true→¬ l.length≤4096→K (.tuple #[.slice none 0 0,.int .i64 3]) (A::R)) ∧
   (l.all ZR'=true→l.length≤4096→∀ a m c,K (.tuple #[.slice a m c,.int .i64 0]) (Sl 5 1 eB (.slice a m c) (Yn' l)::A::R)):=by
 refine Spec.intro Tryz.func78 rfl Tryz.ntmps78 rfl fun R K hK=>?_
 refine WP.seq<|WP.reg<|WL.e Zb'<|WL.e Zb'<|WL.next<|WP.seq<|WP.reg<|WL.e Zb'<|WL.next<|WP.seq<|WP.reg<|WL.e Za'<|WL.e Za' ?_
 refine WL.h (Zg' (ZkP_ hA 4096 hl (fun c=>CallV.of_spec (fs:=[]) (cs:=[]) (ZkN_ c) k103) (fun u xs c h=>CallV.of_spec (fs:=[]) (cs:=[]) (ZkO_ c h) k106) hb) k105 ?_)
 refine ⟨fun h1=>?_,fun h1 h2=>?_,fun h1 h2 a3 n3 c3=>?_⟩
 ·skip
  refine WL.e Ze'<|WL.e Ze'<|WL.e Zb'<|WL.e Zb'<|WL.next<|WP.ret ?_
  exact PO.fin Tryz.results78 (Zd' (Zd' Zf')) (hK.1 h1)
 ·skip
  refine WL.e Ze'<|WL.e Ze'<|WL.e Zb'<|WL.e Zb'<|WL.next<|WP.ret ?_
  exact PO.fin Tryz.results78 (Zd' (Zd' Zf')) (hK.2.1 h1 h2)
 ·skip
  refine WL.e Ze'<|WL.e Ze'<|WL.e Zb'<|WL.e Zb'<|WL.next<|WP.ret ?_
  exact PO.fin Tryz.results78 (Zd' (Zd' Zf')) (hK.2.2 h1 h2 a3 n3 c3)
end Go.SL
namespace Go.SL
open Go
theorem bv32 (a:UInt32):BitVec.ofInt IntKind.u32.bits (a.toNat:Int)=a.toBitVec:=by
  show BitVec.ofInt 32 _=_
  apply BitVec.eq_of_toNat_eq;simp
theorem bv8 (a:UInt8):BitVec.ofInt IntKind.u8.bits (a.toNat:Int)=a.toBitVec:=by
  show BitVec.ofInt 8 _=_
  apply BitVec.eq_of_toNat_eq;simp
theorem Zep_ (x:BitVec 32):IntKind.u32.wrap (x.toNat:Int)=((⟨x⟩:UInt32).toNat:Int):=by
  rw [wu32];congr 1;show (UInt32.ofNat x.toNat).toNat=x.toNat;simp
theorem Zot_ (x:BitVec 8):IntKind.u8.wrap (x.toNat:Int)=((⟨x⟩:UInt8).toNat:Int):=by
  rw [wu8];congr 1;show (UInt8.ofNat x.toNat).toNat=x.toNat;simp
theorem ZnM_ (a b:UInt32):bits .and .u32 (a.toNat:Int) (b.toNat:Int)=((a &&& b).toNat:Int):=by unfold bits;simp only [bv32];exact Zep_ _
theorem Zou_ (a b:UInt32):bits .or .u32 (a.toNat:Int) (b.toNat:Int)=((a ||| b).toNat:Int):=by unfold bits;simp only [bv32];exact Zep_ _
theorem Zi5_ (a b:UInt32):bits .xor .u32 (a.toNat:Int) (b.toNat:Int)=((a ^^^ b).toNat:Int):=by unfold bits;simp only [bv32];exact Zep_ _
theorem Zov_ (a b:UInt8):bits .xor .u8 (a.toNat:Int) (b.toNat:Int)=((a ^^^ b).toNat:Int):=by unfold bits;simp only [bv8];exact Zot_ _
section
variable {P : Program} {r : Option Nat} {g : World} {Γ : Env} {L M : List HP} {Q : Post} {dst : Option Tmp} {t : TypeId} {pos : String} {aft : Array Edge} {gd : Option (Nat × Bool)}
section
variable {xt yt ot : TypeId} {x y : Operand} {a b : UInt32} {p q : UInt8}
theorem ZgD_ (hx:ev Γ x=some (.int .u32 a.toNat):=by rfl) (hy:ev Γ y=some (.int .u32 b.toNat):=by rfl):EO P g ⟨dst,.binOp .and xt x y yt,t,pos,aft,gd⟩ Γ L (.int .u32 (a &&& b).toNat):=Ub' (by simp) hx hy (ZnM_ a b)
theorem Zi6_ (hx:ev Γ x=some (.int .u32 a.toNat):=by rfl) (hy:ev Γ y=some (.int .u32 b.toNat):=by rfl):EO P g ⟨dst,.binOp .or xt x y yt,t,pos,aft,gd⟩ Γ L (.int .u32 (a ||| b).toNat):=Ub' (by simp) hx hy (Zou_ a b)
theorem ZgE_ (hx:ev Γ x=some (.int .u32 a.toNat):=by rfl) (hy:ev Γ y=some (.int .u32 b.toNat):=by rfl):EO P g ⟨dst,.binOp .xor xt x y yt,t,pos,aft,gd⟩ Γ L (.int .u32 (a ^^^ b).toNat):=Ub' (by simp) hx hy (Zi5_ a b)
theorem ZnN_ (hx:ev Γ x=some (.int .u8 p.toNat):=by rfl) (hy:ev Γ y=some (.int .u8 q.toNat):=by rfl):EO P g ⟨dst,.binOp .xor xt x y yt,t,pos,aft,gd⟩ Γ L (.int .u8 (p ^^^ q).toNat):=Ub' (by simp) hx hy (Zov_ p q)
theorem ZgF_ (hx:ev Γ x=some (.int .u32 a.toNat):=by rfl):EO P g ⟨dst,.unOp .xor ot x,t,pos,aft,gd⟩ Γ L (.int .u32 (0xffffffff ^^^ a).toNat):=
  .of (by simp) fun ρ hρ w _=>by
    have:=Zi5_ 0xffffffff a
    simp only [execOp,hρ x _ (by simp [Op.operands]) hx,Op.unary]
    rw [show (if IntKind.u32.signed=true then (-1:Int) else IntKind.u32.max)=((0xffffffff:UInt32).toNat:Int) from rfl,intBits_xor,this];rfl
theorem ZmN_ (hx:ev Γ x=some (.int .u32 a.toNat):=by rfl):EO P g ⟨dst,.unOp .neg ot x,t,pos,aft,gd⟩ Γ L (.int .u32 (0 - a).toNat):=
  .of (by simp) fun ρ hρ w _=>by
    have h:IntKind.u32.wrap (0 - (a.toNat:Int))=((0 - a).toNat:Int):=by
      rw [UInt32.toNat_sub];simp [IntKind.wrap,IntKind.bits,IntKind.signed];have:=a.toNat_lt;omega
    simp only [execOp,hρ x _ (by simp [Op.operands]) hx,Op.unary]
    show ((do pure (Next.value (← Op.intArith .sub .u32 0 a.toNat)):Sem Next)).run P w=_
    simp only [Op.intArith,h];rfl
theorem ZgG_ {k':IntKind} {m:UInt32} (hm:m.toNat < 32) (hx:ev Γ x=some (.int .u32 a.toNat):=by rfl) (hy:ev Γ y=some (.int k' m.toNat):=by rfl):EO P g ⟨dst,.binOp .shr xt x y yt,t,pos,aft,gd⟩ Γ L (.int .u32 (a >>> m).toNat):=
  ZaG_ hx hy (by omega) (by simp [IntKind.bits];omega) (by rw [UInt32.toNat_shiftRight,Nat.mod_eq_of_lt hm,Nat.shiftRight_eq_div_pow];simp)
theorem ZgH_ {k':IntKind} {m:UInt32} (hm:m.toNat < 32) (hx:ev Γ x=some (.int .u32 a.toNat):=by rfl) (hy:ev Γ y=some (.int k' m.toNat):=by rfl):EO P g ⟨dst,.binOp .shl xt x y yt,t,pos,aft,gd⟩ Γ L (.int .u32 (a <<< m).toNat):=
  Zhl_ hx hy (by omega) (by simp [IntKind.bits];omega) (by
    rw [UInt32.toNat_shiftLeft,Nat.mod_eq_of_lt hm,Nat.shiftLeft_eq];simp [IntKind.wrap,IntKind.bits,IntKind.signed])
theorem ZkQ_ {s d:TypeId} (hs:(P.underlying s).isSome=true) (hd:P.underlying d=some (.int .u8)) (hx:ev Γ x=some (.int .u32 a.toNat):=by rfl):EO P g ⟨dst,.convert s d x,t,pos,aft,gd⟩ Γ L (.int .u8 a.toUInt8.toNat):=
  Y6' hs hd hx (by rw [wu8];simp)
theorem Zeq_ {s d:TypeId} (hs:(P.underlying s).isSome=true) (hd:P.underlying d=some (.int .u32)) (hx:ev Γ x=some (.int .u8 p.toNat):=by rfl):EO P g ⟨dst,.convert s d x,t,pos,aft,gd⟩ Γ L (.int .u32 p.toUInt32.toNat):=
  Y6' hs hd hx (by rw [wu32];simp)
end
theorem ZaL_:∀ (l:List Value),Ext l 0 l.length l
  | []=>.done rfl
  | a::l=>.here rfl rfl (ZaL_ l)
theorem ZkR_ {p b n:Nat} {u bt:TypeId} {l:List Value} {M:List HP} {rs:List ResultVar} {vs:List Value} (ht:ZK' P u=some (some n)) (hn:l.length=n) (h:RV P g Γ L rs vs) (hx:look Γ.l p=some (.pointer (some ⟨b,0,none⟩)):=by rfl)
    (hp:Pick L (cl b bt l) M:=by repeat first | exact .z | apply Pick.s):RV P g Γ L (.cell p u::rs) (.agg l.toArray::vs):=by
  subst hn;exact ZB' ht h hx hp (ZaL_ l)
theorem ZcP_ {x:Operand} {u b n:Nat} {bt:TypeId} {l:List Value} {M:List HP} (ht:ZK' P u=some (some n)) (hn:l.length=n) (hx:ev Γ x=some (.pointer (some ⟨b,0,none⟩)):=by rfl) (hp:Pick L (cl b bt l) M:=by repeat first | exact .z | apply Pick.s) :
    EO P g ⟨dst,.load u x,t,pos,aft,gd⟩ Γ L (.agg l.toArray):=by
  subst hn;exact Zm' ht hx hp (ZaL_ l)
theorem ZgI_:∀ (l zs:List Value),zs.length=l.length→Spl l 0 zs zs
  | [],[],_=>.done
  | a::l,z::zs,h=>.here rfl (ZgI_ l zs (by simpa using h))
theorem Zer_ {T U:TypeId} {x y:Operand} {b n:Nat} {l zs:List Value} {M:List HP} {v:Value} {K:Value→List HP→Prop} (hT:szOf P T=some n) (hn:zs.length=n) (hl:l.length=n) (h1:ones zs=true) (hK:K (.tuple #[]) M)
    (hx:ev Γ x=some (.pointer (some ⟨b,0,none⟩)):=by rfl) (hy:ev Γ y=some v:=by rfl) (hz:v.cells=zs.toArray:=by rfl) (hp:Put L (cl b U l) (cl b U zs) M:=by repeat first | exact .z | apply Put.s) :
    HO P r g ⟨dst,.store T x y,t,pos,aft,gd⟩ Γ L K:=by
  obtain ⟨R,p1,_⟩:=hp.picks
  exact Zj' hT hK hx hy hz p1 (ZgI_ l zs (by omega)) hp hn h1
theorem ZkS_ {T U:TypeId} {x y:Operand} {b o:Nat} {l:List Value} {M:List HP} {v:Value} {K:Value→List HP→Prop} (hT:szOf P T=some 1) (ho:o < l.length) (h1:v.oneCell'=true) (hK:K (.tuple #[]) M)
    (hx:ev Γ x=some (.pointer (some ⟨b,o,none⟩)):=by rfl) (hy:ev Γ y=some v:=by rfl) (hz:v.cells=#[v]:=by rfl) (hp:Put L (cl b U l) (cl b U (l.set o v)) M:=by repeat first | exact .z | apply Put.s) :
    HO P r g ⟨dst,.store T x y,t,pos,aft,gd⟩ Γ L K:=
  HO.run_skip (by simp) fun a w ha hw=>by
    obtain ⟨R,p1,_⟩:=hp.picks
    obtain ⟨w',hr,a1,a2,a3,a4,a5,a6⟩:=U2' (P:=P) (T:=T) (o:=o) (v:=v) (zs:=[v]) hT hz rfl (hw.get p1) (.inl (by simp;omega)) (by simpa using h1)
    refine ⟨M,w',?_,hK,hw.set hp w' a1 a2 a3 a4 a5 a6⟩
    simp [execOp,Z5' hx ha,Z5' hy ha,Instr.storeAt,Instr.sureAddr,hr]
theorem Vl' {α:Type} {T E z y n:Nat} {xl xc:Operand} {k k':IntKind} {zs:List Value} {enc:α→List Value} (a:α) {K:Value→List HP→Prop} (hs:slOf P T=some (E,z,y)) (hz:ZH' P E=some zs) (hb:n≤68719476736) (hK:∀ a' m c,K (.slice a' m c) (Sl E z enc (.slice a' m c) (List.replicate n a)::L)) (hzz:zs.length=z:=by rfl) (hy:y≤512:=by decide) (ha:enc a=zs:=by rfl)
    (hl:ev Γ xl=some (.int k n):=by rfl) (hc:ev Γ xc=some (.int k' n):=by rfl):HO P r g ⟨dst,.makeSlice T xl xc,t,pos,aft,gd⟩ Γ L K:=
  ZnJ_ hs hz hzz hl hc (Nat.le_refl _) hb hy fun a' m c=>by
    have:=hK a' m c
    unfold Sl at this
    rw [List.length_replicate] at this
    rw [show (List.replicate n zs).flatten=(List.replicate n a).flatMap enc by rw [← ha];simp [List.flatMap]]
    exact this
theorem ZbX_ {T E y z f j:Nat} {x v:Operand} {u b:Value} {cs:List Value} {n:Nat} {N:List HP} {K:Value→List HP→Prop} (hT:szOf P T=some 1) (hf:f < n * z) (hK:K (.tuple #[]) N) (h1:b.oneCell'=true) (hx:ev Γ x=some (elA u f):=by rfl) (hv:ev Γ v=some b:=by rfl) (hb:b.cells=#[b]:=by rfl)
    (hp:Put L (Own E z u n cs) (Own E z u n (ZP' cs f [b])) N:=by repeat first | exact .z | apply Put.s):HO P r g ⟨dst,.store T x v,t,pos,aft,gd⟩ Γ L K:=
  Za4_ (E:=E) (cs:=cs) (zs:=[b]) hT hx hv hb rfl (by decide) (by simpa [ones] using h1) (n:=n) (z:=z) (by omega) hp hK
end
end Go.SL
namespace Go.SL
open Go
def crc1 (n:UInt32):UInt32:=(n >>> 1) ^^^ (3988292384 &&& (0 - (n &&& 1)))
def crcN:Nat→UInt32→UInt32
  | 0,n=>n
  | k+1,n=>crcN k (crc1 n)
def crc8 (n:UInt32):UInt32:=crcN 8 n
def crcB (n:UInt32) (c:UInt8):UInt32:=(n >>> 8) ^^^ crc8 (UInt32.ofNat (n.toUInt8 ^^^ c).toNat)
def JE' (s:UInt32) (b:List UInt8):UInt32:=if b.length=0 then s else 0xffffffff ^^^ (b.foldl crcB (0xffffffff ^^^ s))
def Ja' (f:UInt32→UInt32) (x:Nat):List Value:=(List.range 256).map fun i=>if i < x then .int .u32 (f (UInt32.ofNat i)).toNat else .int .u32 0
theorem KV' (f:UInt32→UInt32) (x:Nat):(Ja' f x).length=256:=by simp [Ja']
theorem ZbY_ (f:UInt32→UInt32) (x:Nat):ones (Ja' f x)=true:=by
  unfold Ja'
  generalize List.range 256=l
  induction l with
  | nil=>rfl
  | cons a l ih=>simp only [List.map_cons,ones,ih,Bool.and_true];split <;> rfl
theorem Zhx_ (f:UInt32→UInt32):Ja' f 0=List.replicate 256 (.int .u32 0):=by
  unfold Ja';simp only [Nat.not_lt_zero,if_false,List.map_const',List.length_range]
theorem Zi7_ (f:UInt32→UInt32) (x:Nat) (h:x < 256):(Ja' f x).set x (.int .u32 (f (UInt32.ofNat x)).toNat)=Ja' f (x+1):=by
  apply List.ext_getElem?
  intro i
  rw [List.getElem?_set]
  simp only [Ja',List.getElem?_map,List.length_map,List.length_range]
  by_cases e:x=i
  · subst e;simp [h]
  · rw [if_neg e]
    rcases Nat.lt_or_ge i 256 with h' | h'
    · rw [List.getElem?_range h'];simp [show i < x↔i < x+1 by omega]
    · rw [List.getElem?_eq_none (by simpa using h')];rfl
theorem Zi8_ (f:UInt32→UInt32) (c:UInt8):(Ja' f 256)[c.toNat]?=some (.int .u32 (f (UInt32.ofNat c.toNat)).toNat):=by
  have:=c.toNat_lt
  simp [Ja']
  exact ⟨c.toNat,by rw [List.getElem?_range (by omega)],by simp;intro h;omega⟩
attribute [irreducible] Ja'
def secs (n:Nat):Nat:=(8+n+63) / 64
def frame (b:List UInt8):List UInt8:=numB (UInt32.ofNat b.length) 4++numB (JE' (JE' 0 (numB (UInt32.ofNat b.length) 4)) b) 4++b++List.replicate (secs b.length * 64 - 8 - b.length) 0
end Go.SL
namespace Go.SL.Fc
open Go Go.Proofs Go.SL
theorem a250:ZK' Tryz.prog 250=some (some 256):=by kernel_rfl
theorem a5:ZK' Tryz.prog 5=some none:=by kernel_rfl
theorem Zms_:Ur' Tryz.prog 250=some (24,256,1):=by kernel_rfl
theorem k128:Zh' Tryz.prog 128=true:=by kernel_rfl
theorem k134:Zh' Tryz.prog 134=true:=by kernel_rfl
theorem k135:Zh' Tryz.prog 135=true:=by kernel_rfl
theorem s24:szOf Tryz.prog 24=some 1:=by kernel_rfl
theorem s250:szOf Tryz.prog 250=some 256:=by kernel_rfl
theorem z250:ZH' Tryz.prog 250=some (List.replicate 256 (.int .u32 0)):=by kernel_rfl
end Go.SL.Fc
namespace Go.SL
open Go Go.Proofs Fc
theorem Zi9_ {g:World} (n:UInt32):Spec Tryz.prog g 135 [.int .u32 n.toNat] [] fun K R=>K (.int .u32 (crc8 n).toNat) R:=by
 refine Spec.intro Tryz.func135 rfl Tryz.ntmps135 rfl fun R K hK=>?_
 refine WP.seq<|WP.reg<|WL.e Zb'<|WL.next<|WP.seq<|WP.seq<|WP.reg<|WL.e Za'<|WL.next<|WP.block<|WP.loopK (fun (x:UInt32 × Nat)=>[(0,.int .u32 x.1.toNat),(3,.int .i64 x.2)]) (fun (x:UInt32 × Nat)=>R) [(2,_)] (fun (x:UInt32 × Nat)=>x.2≤8∧crcN (8 - x.2) x.1=crc8 n) (fun (x:UInt32 × Nat)=>8 - x.2) (n,0) (⟨by omega,rfl⟩) ?_
 rintro ⟨m,i⟩ ⟨hx1,hx2⟩
 simp only at hx1 hx2
 dsimp only
 refine WP.seq<|WP.reg<|WL.e Z3'<|WL.next<|WP.seq ?_
 refine WP.cond rfl (fun h=>?_) (fun h=>?_)
 ·have hlt:i < 8:=by simp at h;omega
  refine WP.skip<|PO.next<|WP.seq<|WP.block<|WP.reg<|WL.e Za'<|WL.e (ZgG_ (m:=1) (by decide))<|WL.e Za'<|WL.e (ZgD_ (b:=1))<|WL.e ZmN_<|WL.e (ZgD_ (a:=3988292384))<|WL.e ZgE_<|WL.e Zb'<|WL.nil<|PO.blockN<|PO.next<|WP.reg<|WL.e (ZE' rfl rfl (Zt' (by omega) (by omega)))<|WL.e Za'<|WL.nil ?_
  exact PO.againK (crc1 m,i+1) ⟨by simp only;omega,by rw [← hx2,show 8 - i=8 - (i+1)+1 by omega];rfl⟩ (by simp only;omega)
 ·obtain rfl:i=8:=by simp at h;omega
  refine WP.exit<|PO.past nofun<|PO.round nofun<|PO.blockX<|PO.next<|WP.seq<|WP.reg<|WL.e Za'<|WL.e Zb'<|WL.next<|WP.ret ?_
  exact PO.finE Tryz.results135 (Zd' Zf') (by rw [← hx2];rfl) hK
theorem Zhy_ {g:World} {y:Value} {f:UInt32→UInt32} (hy:∀ n:UInt32,CallV Tryz.prog g y [.int .u32 n.toNat] [] fun K R=>K (.int .u32 (f n).toNat) R):Spec Tryz.prog g 134 [y] [] fun K R=>K (.agg (Ja' f 256).toArray) R:=by
 refine Spec.intro Tryz.func134 rfl Tryz.ntmps134 rfl fun R K hK=>?_
 refine WP.seq<|WP.reg ?_
 refine WL.h (Zu' z250 fun b1=>?_)
 rw [← Zhx_ f]
 refine WL.next<|WP.seq<|WP.seq<|WP.reg<|WL.e Za'<|WL.next<|WP.block<|WP.loopK (fun (x:Nat)=>[(4,.int .i64 x)]) (fun (x:Nat)=>cl b1 250 (Ja' f x)::R) [(0,_),(2,_)] (fun (x:Nat)=>x≤256) (fun (x:Nat)=>256 - x) 0 (by omega) ?_
 intro x hx1
 refine WP.seq<|WP.reg<|WL.e Z3'<|WL.next<|WP.seq ?_
 refine WP.cond rfl (fun h=>?_) (fun h=>?_)
 ·have hlt:x < 256:=by simp at h;omega
  refine WP.skip<|PO.next<|WP.seq<|WP.block<|WP.seq<|WP.reg<|WL.e Za'<|WL.e Zb'<|WL.next<|WP.reg<|WL.e Za'<|WL.e Za'<|WL.e Za'<|WL.e (Zmr_ (by rw [Tryz.underlying3];rfl) Tryz.underlying24) ?_
  refine WL.h (YE' (hy (UInt32.ofNat x)) ?_)
  refine WL.e (Zmk_ Zms_ hlt) ?_
  refine WL.h' (ZkS_ (o:=0+x * 1) (l:=Ja' f x) s24 (by rw [KV'];omega) rfl ?_)
  rw [show 0+x * 1=x by omega,Zi7_ f x hlt]
  refine WL.nil<|PO.blockN<|PO.next<|WP.reg<|WL.e (ZE' rfl rfl (Zt' (by omega) (by omega)))<|WL.e Za'<|WL.nil ?_
  exact PO.againK (x+1) (by omega) (by omega)
 ·obtain rfl:x=256:=by simp at h;omega
  refine WP.exit<|PO.past nofun<|PO.round nofun<|PO.blockX<|PO.next<|WP.seq<|WP.reg<|WL.e (ZcP_ a250 (KV' _ _)) ?_
  refine WL.h' (Zer_ s250 (KV' _ _) (KV' _ _) (ZbY_ _ _) ?_)
  refine WL.next<|WP.ret ?_
  exact PO.fin Tryz.results134 (ZkR_ a250 (KV' _ _) Zf') hK
theorem ZgJ_ {g:World} {A:HP} {u:Value} {b:List UInt8} (s:UInt32) (hA:RL A 1 eB u b) (hb:b.length≤68719476736):Spec Tryz.prog g 128 [.int .u32 s.toNat,u] [A] fun K R=>K (.int .u32 (JE' s b).toNat) (A::R):=by
 refine Spec.intro Tryz.func128 rfl Tryz.ntmps128 rfl fun R K hK=>?_
 refine WP.seq<|WP.reg<|WL.e Zb'<|WL.next<|WP.seq<|WP.seq<|WP.reg<|WL.e Za'<|WL.e (ZD' Z6' hA)<|WL.e ZM'<|WL.next ?_
 refine WP.cond rfl (fun h=>?_) (fun h=>?_)
 ·replace h:b.length=0:=by simpa using h
  refine WP.seq<|WP.reg<|WL.e Za'<|WL.e Zb'<|WL.next<|WP.ret<|PO.past nofun ?_
  exact PO.finE Tryz.results128 (Zd' Zf') (by simp [JE',h]) hK
 ·replace h:b.length≠0:=by rintro e;rw [e] at h;cases h
  refine WP.skip<|PO.next<|WP.seq<|WP.reg ?_
  refine WL.h (Zg' (Zhy_ (f:=crc8) fun n=>CallV.of_spec (fs:=[]) (cs:=[]) (Zi9_ n) k135) k134 ?_)
  refine WL.h (Zu' z250 fun b1=>?_)
  refine WL.h' (Zer_ (l:=List.replicate 256 (.int .u32 0)) (zs:=Ja' crc8 256) s250 (KV' _ _) List.length_replicate (ZbY_ _ _) ?_)
  refine WL.next<|WP.seq<|WP.reg<|WL.e Za'<|WL.e ZgF_<|WL.e Zb'<|WL.next<|WP.seq<|WP.seq<|WP.reg<|WL.e Za'<|WL.e (ZD' Z6' hA)<|WL.e Za'<|WL.next<|WP.block<|WP.loopK (fun (x:Nat × UInt32)=>[(18,.int .i64 x.1),(6,.int .u32 x.2.toNat)]) (fun (x:Nat × UInt32)=>cl b1 250 (Ja' crc8 256)::A::R) [(4,_),(5,_),(16,_),(17,_)] (fun (x:Nat × UInt32)=>x.1≤b.length∧x.2=(b.take x.1).foldl crcB (0xffffffff ^^^ s)) (fun (x:Nat × UInt32)=>b.length - x.1) (0,0xffffffff ^^^ s) (⟨by omega,by simp⟩) ?_
  rintro ⟨x,n⟩ ⟨hx1,hx2⟩
  simp only at hx1 hx2
  dsimp only
  refine WP.seq<|WP.reg<|WL.e Z3'<|WL.next<|WP.seq ?_
  refine WP.cond rfl (fun h2=>?_) (fun h2=>?_)
  ·have hlt:x < b.length:=by simp at h2;omega
   obtain ⟨c,hc⟩:∃ c,b[x]?=some c:=⟨b[x],List.getElem?_eq_getElem hlt⟩
   refine WP.skip<|PO.next<|WP.seq<|WP.block<|WP.seq<|WP.reg<|WL.e (ZZ' Z6' hA hlt)<|WL.e (Ys' a5 Yp' hA hc)<|WL.e Zb'<|WL.next<|WP.reg<|WL.e Za'<|WL.e (ZgG_ (m:=8) (by decide))<|WL.e Za'<|WL.e (ZkQ_ (by rw [Tryz.underlying24];rfl) Tryz.underlying5)<|WL.e Za'<|WL.e ZnN_<|WL.e (Zmk_ Zms_ (UInt8.toNat_lt _))<|WL.e (Zc' a24 rfl (by exact .z) (by rw [Nat.zero_add,Nat.mul_one];exact Zi8_ crc8 (n.toUInt8 ^^^ c)))<|WL.e ZgE_<|WL.e Zb'<|WL.nil<|PO.blockN<|PO.next ?_
   refine WP.reg<|WL.e (ZE' rfl rfl (Zt' (by omega) (by omega)))<|WL.e Za'<|WL.nil ?_
   exact PO.againK (x+1,crcB n c) ⟨by simp only;omega,by simp only;rw [ZA' hc,List.foldl_append,← hx2];rfl⟩ (by simp only;omega)
  ·have hfin:b.take x=b:=List.take_of_length_le (by simp at h2;omega)
   refine WP.exit<|PO.past nofun<|PO.round nofun<|PO.blockX<|PO.next<|WP.seq<|WP.reg<|WL.e Za'<|WL.e ZgF_<|WL.e Zb'<|WL.next<|WP.ret ?_
   exact PO.finE Tryz.results128 (Zd' Zf') (by simp [JE',h,hx2,hfin]) hK
theorem Zhz_ {g:World} {A:HP} {u:Value} {b:List UInt8} (hA:RL A 1 eB u b) (hb:b.length≤68719476736):Spec Tryz.prog g 129 [u] [A] fun K R=>K (.int .u32 (JE' 0 b).toNat) (A::R):=by
 refine Spec.intro Tryz.func129 rfl Tryz.ntmps129 rfl fun R K hK=>?_
 refine WP.seq<|WP.reg<|WL.e Zb'<|WL.next<|WP.seq<|WP.reg<|WL.e Za' ?_
 refine WL.h (Zg' (ZgJ_ 0 hA hb) k128 ?_)
 refine WL.e Zb'<|WL.next<|WP.ret ?_
 exact PO.fin Tryz.results129 (Zd' Zf') hK
theorem U8' {g:World} (n:Nat) (hn:n≤4294967296):Spec Tryz.prog g 119 [.int .i64 n] [] fun K R=>K (.int .i64 (secs n)) R:=by
 refine Spec.intro Tryz.func119 rfl Tryz.ntmps119 rfl fun R K hK=>?_
 refine WP.seq<|WP.reg<|WL.e Zb'<|WL.next<|WP.seq<|WP.reg<|WL.e Za'<|WL.e (ZE' (c:=((8+n:Nat):Int)) rfl rfl (by rw [Zt' (by omega) (by omega)];omega))<|WL.e (ZE' (c:=((8+n+64:Nat):Int)) rfl rfl (by rw [Zt' (by omega) (by omega)];omega))<|WL.e (Y9' (c:=((8+n+63:Nat):Int)) rfl rfl (by rw [Zt' (by omega) (by omega)];omega))<|WL.e (Zhk_ (c:=((secs n:Nat):Int)) rfl rfl (by decide) (by rw [Int.tdiv_eq_ediv_of_nonneg (by omega),Zt' (by omega) (by omega)];unfold secs;omega))<|WL.e Zb'<|WL.next<|WP.ret ?_
 exact PO.fin Tryz.results119 (Zd' Zf') hK
end Go.SL
namespace Go.SL
open Go
structure SV where
  a:Option Addr
  n:Nat
  c:Nat
@[reducible] def SV.v (s:SV):Value:=.slice s.a s.n s.c
@[reducible] def subS (s:SV) (lo hi z:Nat):SV:=⟨if s.c=lo then s.a else s.a.map (·.add (lo * z)),hi - lo,s.c - lo⟩
theorem ZmO_ (s:SV) (lo hi z:Nat):(subS s lo hi z).v=subV s.v lo hi none z:=rfl
def over {α:Type} (xs:List α) (lo:Nat) (ys:List α):List α:=xs.take lo++ys.take (xs.length - lo)++xs.drop (lo+ys.length)
theorem Vu' {α:Type} (xs:List α) (lo:Nat) (ys:List α) (h:lo≤xs.length):(over xs lo ys).length=xs.length:=by
  simp [over];omega
theorem Zja_ {α:Type} {z:Nat} {enc:α→List Value} (he:EncOk z enc) (xs ys:List α) (lo:Nat) (h:lo≤xs.length):ZP' (xs.flatMap enc) (lo * z) ((ys.take (Nat.min ys.length (xs.length - lo))).flatMap enc)=(over xs lo ys).flatMap enc:=by
  obtain ⟨m,hm⟩:∃ m,Nat.min ys.length (xs.length - lo)=m:=⟨_,rfl⟩
  have hmy:m≤ys.length:=hm ▸ Nat.min_le_left _ _
  have hmx:m≤xs.length - lo:=hm ▸ Nat.min_le_right _ _
  have hl:(ys.take m).length=m:=by simp;omega
  have h1:(lo+m) * z≤xs.length * z:=Nat.mul_le_mul_right _ (by omega)
  rw [Nat.add_mul] at h1
  rw [hm,X5' _ _ _ (by rw [Yg' he,Yg' he,hl];exact h1),Yg' he,hl,J5' he,← Nat.add_mul,Jw' he]
  simp only [over,List.flatMap_append]
  have e1:ys.take (xs.length - lo)=ys.take m:=by
    rcases Nat.le_total ys.length (xs.length - lo) with h' | h'
    · rw [List.take_of_length_le h',List.take_of_length_le (by rw [← hm];exact Nat.le_of_eq (Nat.min_eq_left h').symm)]
    · rw [← hm];congr 1;exact (Nat.min_eq_right h').symm
  have e2:xs.drop (lo+ys.length)=xs.drop (lo+m):=by
    rcases Nat.le_total ys.length (xs.length - lo) with h' | h'
    · congr 2;rw [← hm];exact (Nat.min_eq_left h').symm
    · have:m=xs.length - lo:=hm ▸ Nat.min_eq_right h'
      rw [List.drop_eq_nil_of_le (by omega),List.drop_eq_nil_of_le (by omega)]
  rw [e1,e2]
theorem Za9_:∀ (vs:List Value) (cells:Array Value) (off k:Nat),((vs.zipIdx k).foldl (fun cs (p:Value × Nat)=>cs.setIfInBounds (off+p.2) p.1) cells).toList=ZP' cells.toList (off+k) vs
  | [],cells,off,k=>rfl
  | v::vs,cells,off,k=>by
    rw [List.zipIdx_cons,List.foldl_cons,Za9_ vs _ off (k+1),Array.toList_setIfInBounds];rfl
theorem U9' {pl:Nat→Option (Nat × Nat)} {cells:Array Value} {i off z:Nat} {v:Value} {rest:List (Nat × Value)} {vs:List Value} (hp:pl i=some (off,z)) (hv:v.cells=vs.toArray) (hz:vs.length=z) (hle:off+z≤cells.size) :
    Instr.fill pl cells ((i,v)::rest)=Instr.fill pl (ZP' cells.toList off vs).toArray rest:=by
  rw [Instr.fill]
  simp only [hp]
  rw [if_neg (by rw [hv];simp [hz];omega)]
  congr 1
  apply Array.ext'
  rw [List.toList_toArray]
  have:=Za9_ vs cells off 0
  rw [Nat.add_zero] at this
  rw [← this,hv]
  rw [← Array.foldl_toList];simp
theorem Zes_ {pl:Nat→Option (Nat × Nat)} {cells:Array Value}:Instr.fill pl cells []=some cells:=rfl
theorem ZbZ_ (l vs:List Value) (h:vs.length=l.length):ZP' l 0 vs=vs:=by
  rw [X5' _ _ _ (by omega)];simp [h]
theorem Zet_ {Γ:Env}:∀ l,Tm Γ l
  | []=>.n
  | v::l=>.z v (Zet_ l)
section
variable {P : Program} {r : Option Nat} {g : World} {Γ : Env} {L M : List HP} {Q : Post} {dst : Option Tmp} {t : TypeId} {pos : String} {aft : Array Edge} {gd : Option (Nat × Bool)}
theorem ZaM_ {α:Type} {T T2 E z y lo:Nat} {x xv:Operand} {enc:α→List Value} {u v w':Value} {xs ys:List α} {B:HP} {N R:List HP} {K:Value→List HP→Prop} (hs:slOf P T=some (E,z,y)) (he:EncOk z enc) (hlo:lo≤xs.length) (hB:RL B z enc v ys)
    (hK:K (.int .i64 (Nat.min ys.length (xs.length - lo))) N) (hz0:0 < z:=by decide) (hu:w'=subV u lo xs.length none z:=by rfl) (hx:ev Γ x=some w':=by rfl) (hv:ev Γ xv=some v:=by rfl) (p2:Pick L B R:=by repeat first | exact .z | apply Pick.s) (hp:Put L (Sl E z enc u xs) (Sl E z enc u (over xs lo ys)) N:=by repeat first | exact .z | apply Put.s):HO P r g ⟨dst,.call ⟨.builtin .copy,#[x,xv],#[T,T2]⟩,t,pos,aft,gd⟩ Γ L K:=
  HO.run (by simp) fun a w ha hw=>by
    subst hu
    obtain ⟨hu,hsz,_⟩:=JD' hs
    have hsl:Sl E z enc u (over xs lo ys)=Own E z u xs.length (ZP' (xs.flatMap enc) (lo * z) ((ys.take (Nat.min ys.length (xs.length - lo))).flatMap enc)):=by
      rw [Zja_ he xs ys lo hlo];unfold Sl;rw [Vu' _ _ _ hlo]
    rw [hsl] at hp
    obtain ⟨R',p1,p1'⟩:=hp.picks
    have hown:RdS (Yd' w) z u xs.length (xs.flatMap enc):=hw.rd p1 Zd7_
    have hrd:=hw.rd p2 hB
    obtain ⟨vs,hv1,hv2⟩:=hrd.readTo (P:=P) (m:=Nat.min ys.length (xs.length - lo)) (Nat.min_le_left _ _)
    have hshape:∃ b c,u=.slice b xs.length c∧xs.length≤c:=by
      rcases hown with ⟨h0,_,a',c,rfl⟩ | ⟨b,o,c,l,t,rfl,hn,_⟩
      · exact ⟨a',c,by rw [h0],by omega⟩
      · exact ⟨_,c,rfl,hn⟩
    obtain ⟨b,c,rfl,hnc⟩:=hshape
    have hm:(#[x,xv]:Array Operand).map a.eval=#[subV (.slice b xs.length c) lo xs.length none z,v]:=by simp [Z5' hx ha,Z5' hv ha]
    rw [J5' he] at hv2
    rcases Nat.eq_zero_or_pos (Nat.min ys.length (xs.length - lo)) with h0 | h0
    · have hvs:vs=#[]:=by
        apply Array.ext';rw [hv2,h0];simp
      subst hvs
      refine ⟨_,N,w,?_,hK,hw.conv fun _ h=>p1'.back (by rw [h0];have:=p1.to h;unfold Sl at this;simpa [ZP'] using this)⟩
      show (do let d ← resolve a.eval ⟨.builtin .copy,#[x,xv],#[T,T2]⟩ t;invoke d.target d.args:Sem Next).run P w=_
      simp only [resolve,hm,Sem.run_bind,Sem.run_pure,Result.andThen_ok,invoke,builtin,Builtin.copy_,subV,List.getElem?_toArray,List.getElem?_cons_zero,List.getElem?_cons_succ,run_underlying hu,hrd.read.1,Z1' hsz,hv1]
      split <;> simp [storeCells,goInt]
    · have hkz:0 < Nat.min ys.length (xs.length - lo) * z:=Nat.mul_pos h0 hz0
      have hle:(lo+Nat.min ys.length (xs.length - lo)) * z≤xs.length * z:=Nat.mul_le_mul_right _ (by have:Nat.min ys.length (xs.length - lo)≤xs.length - lo:=Nat.min_le_right _ _;omega)
      rw [Nat.add_mul] at hle
      have hlen:((ys.take (Nat.min ys.length (xs.length - lo))).flatMap enc).length=Nat.min ys.length (xs.length - lo) * z:=by
        rw [Yg' he,List.length_take,Nat.min_eq_left (Nat.min_le_left _ _)]
      obtain ⟨p,w',e,hr,hw'⟩:=Zdf_ (P:=P) hw hp (by rw [hlen];exact hle) (by rw [hlen];exact hkz) (Jx' he _)
      refine ⟨_,N,w',?_,hK,hw'⟩
      have hbase:(if c=lo then b else b.map (·.add (lo * z)))=some p:=by
        have:c≠lo:=by have:Nat.min ys.length (xs.length - lo)≤xs.length - lo:=Nat.min_le_right _ _;omega
        rw [if_neg this]
        cases b with
        | none=>simp [elA] at e
        | some b=>simp only [elA,Value.pointer.injEq,Option.some.injEq] at e;simp [e]
      show (do let d ← resolve a.eval ⟨.builtin .copy,#[x,xv],#[T,T2]⟩ t;invoke d.target d.args:Sem Next).run P w=_
      simp only [resolve,hm,Sem.run_bind,Sem.run_pure,Result.andThen_ok,invoke,builtin,Builtin.copy_,subV,List.getElem?_toArray,List.getElem?_cons_zero,List.getElem?_cons_succ,run_underlying hu,hrd.read.1,Z1' hsz,hv1,Option.getD_none,hbase,hv2,hr,goInt]
theorem ZmP_ {S:ZN'} {z n:Nat} {u:Value} {cs:List Value} {E:TypeId} (h:Own E z u n cs S):subV u 0 n none z=u:=by
  rcases h with ⟨rfl,_,a,rfl⟩ | ⟨b,o,c,l,rfl,_⟩
  · simp [subV]
  · simp [subV,YL']
theorem ZkT_ {α:Type} {T T2 E z y:Nat} {x xv:Operand} {enc:α→List Value} {u v:Value} {xs ys:List α} {B:HP} {N R:List HP} {K:Value→List HP→Prop} (hs:slOf P T=some (E,z,y)) (he:EncOk z enc) (hB:RL B z enc v ys)
    (hK:K (.int .i64 (Nat.min ys.length xs.length)) N) (hz0:0 < z:=by decide) (hx:ev Γ x=some u:=by rfl) (hv:ev Γ xv=some v:=by rfl) (p2:Pick L B R:=by repeat first | exact .z | apply Pick.s) (hp:Put L (Sl E z enc u xs) (Sl E z enc u (over xs 0 ys)) N:=by repeat first | exact .z | apply Put.s):HO P r g ⟨dst,.call ⟨.builtin .copy,#[x,xv],#[T,T2]⟩,t,pos,aft,gd⟩ Γ L K:=
  fun a w Q next ha hw hn=>by
    obtain ⟨R',p1,_⟩:=hp.picks
    obtain ⟨S1,S2,_,_,_,h1,_⟩:=p1.to hw.heap
    have e:=ZmP_ h1
    exact ZaM_ (lo:=0) (w':=subV u 0 xs.length none z) hs he (Nat.zero_le _) hB hK hz0 rfl (by rw [e];exact hx) hv p2 hp a w Q next ha hw hn
theorem ZhA_ {α:Type} {T E z y:Nat} {enc:α→List Value} {K:Value→List HP→Prop} (hs:slOf P T=some (E,z,y)) (hK:∀ a m c,K (.slice a m c) (Sl E z enc (.slice a m c) []::L)):HO P r g ⟨dst,.buildSlice T 0 #[],t,pos,aft,gd⟩ Γ L K:=
  HO.run (by simp) fun a w ha hw=>by
    obtain ⟨hu,hsz,_⟩:=JD' hs
    refine ⟨.slice (some ⟨w.heap.size,0,none⟩) 0 0,_,w.alloc (.cells #[] E (0,0)),?_,hK _ _ _,(hw.push (.cells #[] E (0,0))).conv fun S hS=>U6' (Xy' hS)⟩
    simp [execOp,Instr.buildSlice,run_underlying hu,Z1' hsz,Instr.fill,newRow]
    congr 2;apply Array.ext';simp
theorem Zeu_ {s:TypeId} {x y:Operand} {zs:List Value} {n:Nat} {u:Value} {l:List Value} (hz:ZH' P s=some zs) (hpl:Ya' P s=some [(0,1),(1,n)]) (hl:l.length=n) (hzl:zs.length=n+1:=by rfl) (hx:ev Γ x=some u:=by rfl) (hy:ev Γ y=some (.agg l.toArray):=by rfl) (hu:u.cells=#[u]:=by rfl) :
    EO P g ⟨dst,.build s #[(0,x),(1,y)],t,pos,aft,gd⟩ Γ L (.agg (u::l).toArray):=
  Zv' (ps:=[(0,x),(1,y)]) (vs:=[(0,u),(1,.agg l.toArray)]) hz hpl (Zet_ _) (by simp [evps,hx,hy]) (by
    rw [U9' (vs:=[u]) rfl hu rfl (by simp [hzl]),U9' (vs:=l) rfl rfl hl (by simp [Kh' _ _ _ (show 0 + [u].length≤zs.length by simp [hzl]),hzl];omega),Zes_]
    cases zs with
    | nil=>simp at hzl
    | cons z zs=>
      simp only [ZP',List.set_cons_zero]
      rw [show (1:Nat)=0+1 from rfl,QD',ZbZ_ _ _ (by simp at hzl;omega)])
theorem Zow_ {T E z y:Nat} {x:Operand} {zs cs:List Value} {v:Value} {K:Value→List HP→Prop} (hs:slOf P T=some (E,z,y)) (hz:ZH' P E=some zs) (hcl:cs.length=z) (hK:∀ b,K (.slice (some ⟨b,0,none⟩) 1 1) (cl b E cs::L)) (hx:ev Γ x=some v:=by rfl) (hv:v.cells=cs.toArray:=by rfl)
    (hzz:zs.length=z:=by rfl) (hm:Nat.ble (1 * z) 10000=true:=by rfl) (hm0:Nat.beq (1 * z) 0=false:=by rfl):HO P r g ⟨dst,.buildSlice T 1 #[(0,x)],t,pos,aft,gd⟩ Γ L K:=
  h_bs (ps:=[(0,x)]) (vs:=[(0,v)]) hs hz (Zet_ _) hK hm (by simp [evps,hx]) (by
    rw [U9' (vs:=cs) (z:=z) (off:=0) (by simp) hv hcl (by simp [hzz]),Zes_,ZbZ_ _ _ (by simp [hzz,hcl])]) hzz hm0
def slA (u:Value) (k n:Nat):Value:=match u with
  | .slice (some a) _ _=>.slice (some (a.add k)) n n
  | _=>.slice none 0 0
theorem Zox_ {A:HP} {z z1 m n k:Nat} {u:Value} {cs:List Value} (h:Rd A z u m cs) (hk:k+n * z1≤m * z) (h0:0 < n * z1):Rd A z1 (slA u k n) n ((cs.drop k).take (n * z1)):=fun S hS=>by
  have hr:=h S hS
  obtain ⟨b,o,c,l,t,e1,e2,e3,e4,e5,e6⟩:=hr.base (k:=k) (by omega)
  subst e2
  refine .inr ⟨b,o+k,n,l,t,by simp [slA,YL'],Nat.le_refl _,e3,by omega,?_⟩
  rw [e6,List.drop_take,List.drop_drop,List.take_take,Nat.min_eq_left (by omega)]
theorem ZhB_ {T E n z1 z m k:Nat} {x:Operand} {u:Value} {A:HP} {cs:List Value} (hs:Ur' P T=some (E,n,z1)) (hA:Rd A z u m cs) (hk:k < m * z) (hx:ev Γ x=some (elA u k):=by rfl) (hp:Pick L A M:=by repeat first | exact .z | apply Pick.s):EO P g ⟨dst,.slice T x none none none,t,pos,aft,gd⟩ Γ L (slA u k n):=fun ρ w hρ hw=>by
  obtain ⟨b,o,c,l,t',h1,h2,_⟩:=(hw.rd hp hA).base hk
  have h:=Za8_ (P:=P) (g:=g) (Γ:=Γ) (L:=L) (dst:=dst) (t:=t) (pos:=pos) (aft:=aft) (gd:=gd) (x:=x) (b:=b) (o:=o+k) (lo:=0) (hi:=n) hs (hx.trans (congrArg some h1)) (.inl ⟨rfl,rfl⟩) (.inl ⟨rfl,rfl⟩) (Nat.zero_le _) (Nat.le_refl _) ρ w hρ hw
  subst h2
  have e:XO' (.slice (some ⟨b,o+k,none⟩) n n) 0 n n z1=slA (.slice (some ⟨b,o,none⟩) m c) k n:=by
    simp [XO',slA,YL']
  rw [e] at h;exact h
theorem WP.opn {c:Code} {A:HP} {X:Type} {B:X→List HP} (hA:∀ S,A S→∃ x,Zo' (B x) S) {R:List HP} (k:∀ x,WP P r g c Q Γ (B x++R)) (hp:Pick L A R:=by repeat first | exact .z | apply Pick.s):WP P r g c Q Γ L:=fun a w ha hw=>by
  obtain ⟨S1,S2,hd,l1,l2,h1,h2⟩:=hp.to hw.heap
  obtain ⟨x,hx⟩:=hA S1 h1
  exact k x a w ha ⟨hw.os,hw.tape,hw.output,hw.size,Xj' ⟨S1,S2,hd,l1,l2,hx,h2⟩⟩
theorem WL.opn {ops rest:List Oper} {A:HP} {X:Type} {B:X→List HP} (hA:∀ S,A S→∃ x,Zo' (B x) S) {R:List HP} (k:∀ x,WL P r g ops rest Q Γ (B x++R)) (hp:Pick L A R:=by repeat first | exact .z | apply Pick.s):WL P r g ops rest Q Γ L:=fun a w ha hw=>by
  obtain ⟨S1,S2,hd,l1,l2,h1,h2⟩:=hp.to hw.heap
  obtain ⟨x,hx⟩:=hA S1 h1
  exact k x a w ha ⟨hw.os,hw.tape,hw.output,hw.size,Xj' ⟨S1,S2,hd,l1,l2,hx,h2⟩⟩
theorem PO.opn {e:Exit} {A:HP} {X:Type} {B:X→List HP} (hA:∀ S,A S→∃ x,Zo' (B x) S) {R:List HP} (k:∀ x,PO g Q e Γ (B x++R)) (hp:Pick L A R:=by repeat first | exact .z | apply Pick.s):PO g Q e Γ L:=fun a w ha hw=>by
  obtain ⟨S1,S2,hd,l1,l2,h1,h2⟩:=hp.to hw.heap
  obtain ⟨x,hx⟩:=hA S1 h1
  exact k x a w ha ⟨hw.os,hw.tape,hw.output,hw.size,Xj' ⟨S1,S2,hd,l1,l2,hx,h2⟩⟩
theorem HO.opn {o:Oper} {K:Value→List HP→Prop} {A:HP} {X:Type} {B:X→List HP} (hA:∀ S,A S→∃ x,Zo' (B x) S) {R:List HP} (k:∀ x,HO P r g o Γ (B x++R) K) (hp:Pick L A R:=by repeat first | exact .z | apply Pick.s):HO P r g o Γ L K:=fun a w Q next ha hw hn=>by
  obtain ⟨S1,S2,hd,l1,l2,h1,h2⟩:=hp.to hw.heap
  obtain ⟨x,hx⟩:=hA S1 h1
  exact k x a w Q next ha ⟨hw.os,hw.tape,hw.output,hw.size,Xj' ⟨S1,S2,hd,l1,l2,hx,h2⟩⟩ hn
theorem Va' {A:HP} {B R:List HP} (hB:∀ S,Zo' B S→A S) (hs:Split L B R):∀ S,Zo' L S→Zo' (A::R) S:=fun S hS=>by
  obtain ⟨S1,S2,hd,l1,l2,h1,h2⟩:=Jp' (hs.to hS)
  exact ⟨S1,S2,hd,l1,l2,hB S1 h1,h2⟩
theorem WP.cls {c:Code} {A:HP} {B R:List HP} (hB:∀ S,Zo' B S→A S) (k:WP P r g c Q Γ (A::R)) (hs:Split L B R:=by repeat first | exact .nil | exact Pick.z | apply Pick.s | apply Split.cons):WP P r g c Q Γ L:=WP.conv (Va' hB hs) k
theorem WL.cls {ops rest:List Oper} {A:HP} {B R:List HP} (hB:∀ S,Zo' B S→A S) (k:WL P r g ops rest Q Γ (A::R)) (hs:Split L B R:=by repeat first | exact .nil | exact Pick.z | apply Pick.s | apply Split.cons):WL P r g ops rest Q Γ L:=WL.conv (Va' hB hs) k
theorem PO.cls {e:Exit} {A:HP} {B R:List HP} (hB:∀ S,Zo' B S→A S) (k:PO g Q e Γ (A::R)) (hs:Split L B R:=by repeat first | exact .nil | exact Pick.z | apply Pick.s | apply Split.cons):PO g Q e Γ L:=PO.conv (Va' hB hs) k
theorem HO.cls {o:Oper} {K:Value→List HP→Prop} {A:HP} {B R:List HP} (hB:∀ S,Zo' B S→A S) (k:HO P r g o Γ (A::R) K) (hs:Split L B R:=by repeat first | exact .nil | exact Pick.z | apply Pick.s | apply Split.cons):HO P r g o Γ L K:=HO.conv (Va' hB hs) k
end
end Go.SL
