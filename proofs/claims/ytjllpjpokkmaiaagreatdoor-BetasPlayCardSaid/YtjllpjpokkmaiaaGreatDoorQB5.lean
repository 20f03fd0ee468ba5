import Derived.Test.YtjllpjpokkmaiaaGreatDoorQB4
import Derived.Test.YtjllpjpokkmaiaaGreatDoorProg
import Derived.KernelRfl
set_option linter.unusedSimpArgs false
set_option linter.unusedVariables false
namespace Go.SL.Fc
open Go Go.Proofs Go.SL
theorem a110:aggOf Tryz.prog 110=some (some 2):=by kernel_rfl
theorem a48:aggOf Tryz.prog 48=some none:=by kernel_rfl
theorem a49:aggOf Tryz.prog 49=some none:=by kernel_rfl
theorem a9:aggOf Tryz.prog 9=some none:=by kernel_rfl
theorem f110_0:fldOf Tryz.prog 110 0=some 0:=by kernel_rfl
theorem f110_1:fldOf Tryz.prog 110 1=some 1:=by kernel_rfl
theorem f51_0:fldOf Tryz.prog 51 0=some 0:=by kernel_rfl
theorem f51_1:fldOf Tryz.prog 51 1=some 1:=by kernel_rfl
theorem f51_2:fldOf Tryz.prog 51 2=some 2:=by kernel_rfl
theorem f51_3:fldOf Tryz.prog 51 3=some 3:=by kernel_rfl
theorem k116:callable Tryz.prog 116=true:=by kernel_rfl
theorem k180:callable Tryz.prog 180=true:=by kernel_rfl
theorem k181:callable Tryz.prog 181=true:=by kernel_rfl
theorem k182:callable Tryz.prog 182=true:=by kernel_rfl
theorem p110:placesOf Tryz.prog 110=some [(0,1),(1,1)]:=by kernel_rfl
theorem s110:szOf Tryz.prog 110=some 2:=by kernel_rfl
theorem s9:szOf Tryz.prog 9=some 1:=by kernel_rfl
theorem z110:zeroOf Tryz.prog 110=some [.string .empty,.string .empty]:=by kernel_rfl
end Go.SL.Fc
namespace Go.SL
open Go Go.Proofs Fc
theorem In_spec {g:World} (k a b:ByteArray):Spec Tryz.prog g 182 [.string k,.string a,.string b] [] fun K R=>K (.bool (sIn k a b)) R:=by
 refine Spec.intro Tryz.func182 rfl Tryz.ntmps182 rfl fun R K hK=>?_
 refine WP.seq<|WP.reg<|WL.e e_assign<|WL.next<|WP.seq<|WP.reg<|WL.e e_move<|WL.e e_move<|WL.e e_sle<|WL.e e_move ?_
 refine WL.join 14 (.bool (sIn k a b)) (.c (.c (.c (.c .n)))) ?_ ?_
 ·refine WL.bool 10 rfl (fun hg=>?_) (fun hg=>?_)
  ·skip
   refine WL.e e_move<|WL.e e_move<|WL.e e_sle<|WL.e e_pick_t ?_
   exact WL.nil (PO.joined rfl (by simp [sIn,hg]))
  ·skip
   refine WL.skip<|WL.skip<|WL.skip<|WL.e e_pick_f ?_
   exact WL.nil (PO.joined rfl (by simp [sIn,hg]))
 refine WL.e e_assign<|WL.next<|WP.ret ?_
 exact PO.fin Tryz.results182 (rv_tmp rv_nil) hK
theorem Of_spec {g:World} (x:OpM):Spec Tryz.prog g 55 [x.v] [] fun K R=>K (spanOf x).v R:=by
 refine Spec.intro Tryz.func55 rfl Tryz.ntmps55 rfl fun R K hK=>?_
 refine WP.seq<|WP.reg ?_
 refine WL.h (h_box fun b1=>?_)
 refine WL.h (h_alloc z110 fun b2=>?_)
 refine WL.next<|WP.seq<|WP.seq<|WP.reg<|WL.e (e_fa f51_0)<|WL.e (e_load a49)<|WL.e (e_neq8 (b:=4))<|WL.next ?_
 refine WP.cond rfl (fun h=>?_) (fun h=>?_)
 ·replace h:x.kind≠4:=by simpa using h
  refine WP.reg<|WL.e (e_fa f51_1)<|WL.e (e_load a9)<|WL.e (e_fa f51_2) ?_
  refine WL.h' (h_store s9 ?_)
  refine WL.next<|WP.seq<|WP.reg<|WL.e (e_fa f51_1)<|WL.e (e_load a9)<|WL.e (e_fa f51_2)<|WL.e (e_load a9)<|WL.e (e_build z110 p110 (.o (.tmp 10) rfl<|.o (.tmp 12) rfl<|.n)) ?_
  refine WL.h' (h_store s110 ?_)
  refine WL.next<|WP.ret ?_
  exact PO.fin Tryz.results55 (rv_cellN a110 rv_nil) (by simpa [spanOf,h,SpanM.v] using hK)
 ·replace h:x.kind=4:=by simpa using h
  refine WP.skip<|PO.next<|WP.seq<|WP.reg<|WL.e (e_fa f51_1)<|WL.e (e_load a9)<|WL.e (e_fa f51_2)<|WL.e (e_load a9)<|WL.e (e_build z110 p110 (.o (.tmp 10) rfl<|.o (.tmp 12) rfl<|.n)) ?_
  refine WL.h' (h_store s110 ?_)
  refine WL.next<|WP.ret ?_
  exact PO.fin Tryz.results55 (rv_cellN a110 rv_nil) (by simpa [spanOf,h,SpanM.v] using hK)
theorem Meet_spec {g:World} (a b:SpanM):Spec Tryz.prog g 118 [a.v,b.v] [] fun K R=>K (.bool (meet a b)) R:=by
 refine Spec.intro Tryz.func118 rfl Tryz.ntmps118 rfl fun R K hK=>?_
 refine WP.seq<|WP.reg ?_
 refine WL.h (h_box fun b1=>?_)
 refine WL.h (h_box fun b2=>?_)
 refine WL.e e_assign<|WL.next<|WP.seq<|WP.reg<|WL.e (e_fa f110_0)<|WL.e (e_load a9)<|WL.e (e_fa f110_0)<|WL.e (e_load a9)<|WL.e e_maxS<|WL.e e_assign<|WL.next<|WP.seq<|WP.reg<|WL.e e_move<|WL.e (e_fa f110_0)<|WL.e (e_load a9)<|WL.e (e_fa f110_1)<|WL.e (e_load a9) ?_
 refine WL.h (h_call (In_spec _ _ _) k182 ?_)
 refine WL.e e_move ?_
 refine WL.join 24 (.bool (meet a b)) (.c (.c (.c (.c (.c (.c (.c .n))))))) ?_ ?_
 ·refine WL.bool 17 rfl (fun hg=>?_) (fun hg=>?_)
  ·skip
   refine WL.e e_move<|WL.e (e_fa f110_0)<|WL.e (e_load a9)<|WL.e (e_fa f110_1)<|WL.e (e_load a9) ?_
   refine WL.h (h_call (In_spec _ _ _) k182 ?_)
   refine WL.e e_pick_t ?_
   exact WL.nil (PO.joined rfl (by simp [meet,hg]))
  ·skip
   refine WL.skip<|WL.skip<|WL.skip<|WL.skip<|WL.skip<|WL.skip<|WL.e e_pick_f ?_
   exact WL.nil (PO.joined rfl (by simp [meet,hg]))
 refine WL.e e_assign<|WL.next<|WP.ret ?_
 exact PO.fin Tryz.results118 (rv_tmp rv_nil) hK
theorem KeyRune_spec {g:World} (c:Int):Spec Tryz.prog g 181 [.int .i32 c] [] fun K R=>K (.bool (keyRune c)) R:=by
 refine Spec.intro Tryz.func181 rfl Tryz.ntmps181 rfl fun R K hK=>?_
 refine WP.seq<|WP.reg<|WL.e e_assign<|WL.next<|WP.seq<|WP.reg<|WL.e e_move<|WL.e e_geq<|WL.e e_move ?_
 refine WL.bool 5 rfl (fun g1=>?_) (fun g1=>?_)
 ·skip
  refine WL.e e_move<|WL.e e_leq<|WL.e e_pick_t<|WL.e e_move ?_
  refine WL.bool 9 rfl (fun g2=>?_) (fun g2=>?_)
  ·skip
   refine WL.skip<|WL.skip<|WL.skip<|WL.skip<|WL.skip<|WL.skip<|WL.e e_pick_t<|WL.e e_move<|WL.skip<|WL.skip<|WL.e e_pick_t<|WL.e e_assign<|WL.next<|WP.ret ?_
   exact PO.finE Tryz.results181 (rv_tmp rv_nil) (by simp_all [keyRune] <;> (intros;omega)) hK
  ·skip
   refine WL.e e_move<|WL.e e_geq<|WL.e e_move ?_
   refine WL.bool 12 rfl (fun g3=>?_) (fun g3=>?_)
   ·skip
    refine WL.e e_move<|WL.e e_leq<|WL.e e_pick_t<|WL.e e_pick_f<|WL.e e_move ?_
    refine WL.bool 17 rfl (fun g4=>?_) (fun g4=>?_)
    ·skip
     refine WL.skip<|WL.skip<|WL.e e_pick_t<|WL.e e_assign<|WL.next<|WP.ret ?_
     exact PO.finE Tryz.results181 (rv_tmp rv_nil) (by simp_all [keyRune] <;> (intros;omega)) hK
    ·skip
     refine WL.e e_move<|WL.e e_eql<|WL.e e_pick_f<|WL.e e_assign<|WL.next<|WP.ret ?_
     exact PO.finE Tryz.results181 (rv_tmp rv_nil) (by simp_all [keyRune] <;> (intros;omega)) hK
   ·skip
    refine WL.skip<|WL.skip<|WL.e e_pick_f<|WL.e e_pick_f<|WL.e e_move<|WL.e e_move<|WL.e e_eql<|WL.e e_pick_f<|WL.e e_assign<|WL.next<|WP.ret ?_
    exact PO.finE Tryz.results181 (rv_tmp rv_nil) (by simp_all [keyRune] <;> (intros;omega)) hK
 ·skip
  refine WL.skip<|WL.skip<|WL.e e_pick_f<|WL.e e_move<|WL.e e_move<|WL.e e_geq<|WL.e e_move ?_
  refine WL.bool 12 rfl (fun g5=>?_) (fun g5=>?_)
  ·skip
   refine WL.e e_move<|WL.e e_leq<|WL.e e_pick_t<|WL.e e_pick_f<|WL.e e_move ?_
   refine WL.bool 17 rfl (fun g6=>?_) (fun g6=>?_)
   ·skip
    refine WL.skip<|WL.skip<|WL.e e_pick_t<|WL.e e_assign<|WL.next<|WP.ret ?_
    exact PO.finE Tryz.results181 (rv_tmp rv_nil) (by simp_all [keyRune] <;> (intros;omega)) hK
   ·skip
    refine WL.e e_move<|WL.e e_eql<|WL.e e_pick_f<|WL.e e_assign<|WL.next<|WP.ret ?_
    exact PO.finE Tryz.results181 (rv_tmp rv_nil) (by simp_all [keyRune] <;> (intros;omega)) hK
  ·skip
   refine WL.skip<|WL.skip<|WL.e e_pick_f<|WL.e e_pick_f<|WL.e e_move<|WL.e e_move<|WL.e e_eql<|WL.e e_pick_f<|WL.e e_assign<|WL.next<|WP.ret ?_
   exact PO.finE Tryz.results181 (rv_tmp rv_nil) (by simp_all [keyRune] <;> (intros;omega)) hK
theorem all_spec {g:World} (s:ByteArray) {y:Value} {p:Int→Bool} (hy:∀ c,CallV Tryz.prog g y [.int .i32 c] [] fun K R=>K (.bool (p c)) R):Spec Tryz.prog g 180 [.string s,y] [] fun K R=>K (.bool (allR p s)) R:=by
 refine Spec.intro Tryz.func180 rfl Tryz.ntmps180 rfl fun R K hK=>?_
 refine WP.seq<|WP.reg<|WL.e e_assign<|WL.next<|WP.seq<|WP.seq<|WP.reg<|WL.e e_move ?_
 refine WL.h (h_range_str Tryz.underlying9 fun i=>?_)
 refine WL.next<|WP.block<|WP.loopK (fun (x:Nat × Nat)=>[]) (fun (x:Nat × Nat)=>pt i (.stringIter s x.2)::R) [(1,_),(8,_)] (fun (x:Nat × Nat)=>s.size≤x.2+x.1∧allFrom p s x.1 x.2=allR p s) (fun (x:Nat × Nat)=>x.1) (s.size,0) (⟨by simp,rfl⟩) ?_
 rintro ⟨k,q⟩ ⟨hx1,hx2⟩
 simp only at hx1 hx2
 refine WP.seq<|WP.reg ?_
 refine WL.h (h_next_str (fun h=>?_) (fun h=>?_))
 ·skip
  refine WL.e e_extract<|WL.next<|WP.seq<|WP.cond_f rfl<|WP.exit<|PO.past nofun<|PO.round nofun<|PO.blockX<|PO.next<|WP.seq<|WP.reg<|WL.e e_assign<|WL.next<|WP.ret ?_
  exact PO.finE Tryz.results180 (rv_tmp rv_nil) (by rw [← hx2];cases k <;> simp [allFrom,h]) hK
 ·have hk:k=(k - 1)+1:=by omega
  have hx3:p (Utf8.decode s q).1=true→allFrom p s (k - 1) (q+(Utf8.decode s q).2)=allR p s:=by rw [hk] at hx2;simp only [allFrom,h,if_true] at hx2;intro e;simpa [e] using hx2
  refine WL.e e_extract<|WL.next<|WP.seq<|WP.cond_t rfl<|WP.skip<|PO.next<|WP.block<|WP.seq<|WP.reg<|WL.e e_extract<|WL.e e_assign<|WL.next<|WP.seq<|WP.reg<|WL.e e_move<|WL.e e_move ?_
  refine WL.h (h_cally (hy _) ?_)
  refine WL.e e_not<|WL.next ?_
  refine WP.cond rfl (fun hc=>?_) (fun hc=>?_)
  ·skip
   refine WP.seq<|WP.reg<|WL.e e_assign<|WL.next<|WP.ret<|PO.blockR<|PO.round nofun<|PO.blockR<|PO.past nofun ?_
   exact PO.finE Tryz.results180 (rv_tmp rv_nil) (by rw [← hx2,hk];simp at hc;simp [allFrom,h,hc]) hK
  ·replace hc:p (Utf8.decode s q).1=true:=by simpa using hc
   refine WP.skip<|PO.blockN ?_
   exact PO.againK (k - 1,q+(Utf8.decode s q).2) ⟨by have:=width_pos s q h;omega,hx3 hc⟩ (by omega)
theorem Check_spec {g:World} (k:ByteArray):Spec Tryz.prog g 116 [.string k] [] fun K R=>K (.bool (keyOk k)) R:=by
 refine Spec.intro Tryz.func116 rfl Tryz.ntmps116 rfl fun R K hK=>?_
 refine WP.seq<|WP.reg<|WL.e e_assign<|WL.next<|WP.seq<|WP.reg<|WL.e e_move<|WL.e e_sne<|WL.e e_move ?_
 refine WL.bool 5 rfl (fun g1=>?_) (fun g1=>?_)
 ·skip
  refine WL.e e_move<|WL.e (e_len_str Tryz.underlying9)<|WL.e e_leq<|WL.e e_pick_t<|WL.e e_move ?_
  refine WL.bool 10 rfl (fun g2=>?_) (fun g2=>?_)
  ·skip
   refine WL.e e_move ?_
   refine WL.h (h_call (all_spec _ (p:=keyRune) fun c=>CallV.of_spec (fs:=[]) (cs:=[]) (KeyRune_spec c) k181) k180 ?_)
   refine WL.e e_pick_t<|WL.e e_assign<|WL.next<|WP.ret ?_
   exact PO.finE Tryz.results116 (rv_tmp rv_nil) (by simp_all [keyOk] <;> (intros;omega)) hK
  ·skip
   refine WL.skip<|WL.skip<|WL.e e_pick_f<|WL.e e_assign<|WL.next<|WP.ret ?_
   exact PO.finE Tryz.results116 (rv_tmp rv_nil) (by simp_all [keyOk] <;> (intros;omega)) hK
 ·skip
  refine WL.skip<|WL.skip<|WL.skip<|WL.e e_pick_f<|WL.e e_move<|WL.skip<|WL.skip<|WL.e e_pick_f<|WL.e e_assign<|WL.next<|WP.ret ?_
  exact PO.finE Tryz.results116 (rv_tmp rv_nil) (by simp_all [keyOk] <;> (intros;omega)) hK
theorem opCheck_spec {g:World} (x:OpM):Spec Tryz.prog g 54 [x.v] [] fun K R=>K (.bool (opOk x)) R:=by
 refine Spec.intro Tryz.func54 rfl Tryz.ntmps54 rfl fun R K hK=>?_
 refine WP.seq<|WP.reg ?_
 refine WL.h (h_box fun b1=>?_)
 refine WL.e e_assign<|WL.next<|WP.seq<|WP.reg<|WL.e (e_fa f51_2)<|WL.e (e_load a9)<|WL.e e_seq<|WL.e e_assign<|WL.next<|WP.seq<|WP.seq<|WP.reg<|WL.e (e_fa f51_0)<|WL.e (e_load a49)<|WL.e (e_eql8 (b:=4))<|WL.next ?_
 refine WP.cond rfl (fun g1=>?_) (fun g1=>?_)
 ·skip
  refine WP.reg<|WL.e (e_fa f51_2)<|WL.e (e_load a9) ?_
  refine WL.h (h_call (Check_spec _) k116 ?_)
  refine WL.e e_assign<|WL.next<|WP.seq<|WP.reg<|WL.e (e_fa f51_0)<|WL.e (e_load a49)<|WL.e e_geq<|WL.e e_move ?_
  refine WL.bool 16 rfl (fun g2=>?_) (fun g2=>?_)
  ·skip
   refine WL.e (e_fa f51_0)<|WL.e (e_load a49)<|WL.e e_leq<|WL.e e_pick_t<|WL.e e_move ?_
   refine WL.bool 21 rfl (fun g3=>?_) (fun g3=>?_)
   ·skip
    refine WL.e (e_fa f51_1)<|WL.e (e_load a9) ?_
    refine WL.h (h_call (Check_spec _) k116 ?_)
    refine WL.e e_pick_t<|WL.e e_move ?_
    refine WL.bool 26 rfl (fun g4=>?_) (fun g4=>?_)
    ·skip
     refine WL.e e_move<|WL.e e_pick_t<|WL.e e_move ?_
     refine WL.bool 29 rfl (fun g5=>?_) (fun g5=>?_)
     ·skip
      refine WL.e (e_fa f51_3)<|WL.e (e_load a48)<|WL.e (e_eql32 (b:=0))<|WL.e e_move ?_
      refine WL.bool 33 rfl (fun g6=>?_) (fun g6=>?_)
      ·skip
       refine WL.skip<|WL.skip<|WL.skip<|WL.e e_pick_t<|WL.e e_pick_t<|WL.e e_assign<|WL.next<|WP.ret ?_
       exact PO.finE Tryz.results54 (rv_tmp rv_nil) (by simp_all [opOk] <;> (intros;omega)) hK
      ·skip
       refine WL.e (e_fa f51_0)<|WL.e (e_load a49)<|WL.e (e_eql8 (b:=2))<|WL.e e_pick_f<|WL.e e_pick_t<|WL.e e_assign<|WL.next<|WP.ret ?_
       exact PO.finE Tryz.results54 (rv_tmp rv_nil) (by simp_all [opOk] <;> (intros;omega)) hK
     ·skip
      refine WL.skip<|WL.skip<|WL.skip<|WL.skip<|WL.skip<|WL.skip<|WL.skip<|WL.skip<|WL.e e_pick_f<|WL.e e_assign<|WL.next<|WP.ret ?_
      exact PO.finE Tryz.results54 (rv_tmp rv_nil) (by simp_all [opOk] <;> (intros;omega)) hK
    ·skip
     refine WL.skip<|WL.e e_pick_f<|WL.e e_move<|WL.skip<|WL.skip<|WL.skip<|WL.skip<|WL.skip<|WL.skip<|WL.skip<|WL.skip<|WL.e e_pick_f<|WL.e e_assign<|WL.next<|WP.ret ?_
     exact PO.finE Tryz.results54 (rv_tmp rv_nil) (by simp_all [opOk] <;> (intros;omega)) hK
   ·skip
    refine WL.skip<|WL.skip<|WL.skip<|WL.e e_pick_f<|WL.e e_move<|WL.skip<|WL.e e_pick_f<|WL.e e_move<|WL.skip<|WL.skip<|WL.skip<|WL.skip<|WL.skip<|WL.skip<|WL.skip<|WL.skip<|WL.e e_pick_f<|WL.e e_assign<|WL.next<|WP.ret ?_
    exact PO.finE Tryz.results54 (rv_tmp rv_nil) (by simp_all [opOk] <;> (intros;omega)) hK
  ·skip
   refine WL.skip<|WL.skip<|WL.skip<|WL.e e_pick_f<|WL.e e_move<|WL.skip<|WL.skip<|WL.skip<|WL.e e_pick_f<|WL.e e_move<|WL.skip<|WL.e e_pick_f<|WL.e e_move<|WL.skip<|WL.skip<|WL.skip<|WL.skip<|WL.skip<|WL.skip<|WL.skip<|WL.skip<|WL.e e_pick_f<|WL.e e_assign<|WL.next ?_
   refine WP.ret ?_
   exact PO.finE Tryz.results54 (rv_tmp rv_nil) (by simp_all [opOk] <;> (intros;omega)) hK
 ·skip
  refine WP.skip<|PO.next<|WP.seq<|WP.reg<|WL.e (e_fa f51_0)<|WL.e (e_load a49)<|WL.e e_geq<|WL.e e_move ?_
  refine WL.bool 16 rfl (fun g7=>?_) (fun g7=>?_)
  ·skip
   refine WL.e (e_fa f51_0)<|WL.e (e_load a49)<|WL.e e_leq<|WL.e e_pick_t<|WL.e e_move ?_
   refine WL.bool 21 rfl (fun g8=>?_) (fun g8=>?_)
   ·skip
    refine WL.e (e_fa f51_1)<|WL.e (e_load a9) ?_
    refine WL.h (h_call (Check_spec _) k116 ?_)
    refine WL.e e_pick_t<|WL.e e_move ?_
    refine WL.bool 26 rfl (fun g9=>?_) (fun g9=>?_)
    ·skip
     refine WL.e e_move<|WL.e e_pick_t<|WL.e e_move ?_
     refine WL.bool 29 rfl (fun g10=>?_) (fun g10=>?_)
     ·skip
      refine WL.e (e_fa f51_3)<|WL.e (e_load a48)<|WL.e (e_eql32 (b:=0))<|WL.e e_move ?_
      refine WL.bool 33 rfl (fun g11=>?_) (fun g11=>?_)
      ·skip
       refine WL.skip<|WL.skip<|WL.skip<|WL.e e_pick_t<|WL.e e_pick_t<|WL.e e_assign<|WL.next<|WP.ret ?_
       exact PO.finE Tryz.results54 (rv_tmp rv_nil) (by simp_all [opOk] <;> (intros;omega)) hK
      ·skip
       refine WL.e (e_fa f51_0)<|WL.e (e_load a49)<|WL.e (e_eql8 (b:=2))<|WL.e e_pick_f<|WL.e e_pick_t<|WL.e e_assign<|WL.next<|WP.ret ?_
       exact PO.finE Tryz.results54 (rv_tmp rv_nil) (by simp_all [opOk] <;> (intros;omega)) hK
     ·skip
      refine WL.skip<|WL.skip<|WL.skip<|WL.skip<|WL.skip<|WL.skip<|WL.skip<|WL.skip<|WL.e e_pick_f<|WL.e e_assign<|WL.next<|WP.ret ?_
      exact PO.finE Tryz.results54 (rv_tmp rv_nil) (by simp_all [opOk] <;> (intros;omega)) hK
    ·skip
     refine WL.skip<|WL.e e_pick_f<|WL.e e_move<|WL.skip<|WL.skip<|WL.skip<|WL.skip<|WL.skip<|WL.skip<|WL.skip<|WL.skip<|WL.e e_pick_f<|WL.e e_assign<|WL.next<|WP.ret ?_
     exact PO.finE Tryz.results54 (rv_tmp rv_nil) (by simp_all [opOk] <;> (intros;omega)) hK
   ·skip
    refine WL.skip<|WL.skip<|WL.skip<|WL.e e_pick_f<|WL.e e_move<|WL.skip<|WL.e e_pick_f<|WL.e e_move<|WL.skip<|WL.skip<|WL.skip<|WL.skip<|WL.skip<|WL.skip<|WL.skip<|WL.skip<|WL.e e_pick_f<|WL.e e_assign<|WL.next<|WP.ret ?_
    exact PO.finE Tryz.results54 (rv_tmp rv_nil) (by simp_all [opOk] <;> (intros;omega)) hK
  ·skip
   refine WL.skip<|WL.skip<|WL.skip<|WL.e e_pick_f<|WL.e e_move<|WL.skip<|WL.skip<|WL.skip<|WL.e e_pick_f<|WL.e e_move<|WL.skip<|WL.e e_pick_f<|WL.e e_move<|WL.skip<|WL.skip<|WL.skip<|WL.skip<|WL.skip<|WL.skip<|WL.skip<|WL.skip<|WL.e e_pick_f<|WL.e e_assign<|WL.next ?_
   refine WP.ret ?_
   exact PO.finE Tryz.results54 (rv_tmp rv_nil) (by simp_all [opOk] <;> (intros;omega)) hK
end Go.SL
set_option linter.unusedSectionVars false
namespace Go.SL
open Go
def numB (n:UInt32):Nat→List UInt8
  | 0=>[]
  | k+1=>UInt8.ofNat (n.toNat / 2 ^ (8 * k))::numB n k
theorem numB_len (n:UInt32):∀ k,(numB n k).length=k
  | 0=>rfl
  | k+1=>by simp [numB,numB_len n k]
def textB (s:ByteArray):List UInt8:=UInt8.ofNat s.size::bytesOf s
theorem bytesOf_len (s:ByteArray):(bytesOf s).length=s.size:=rfl
def chgB (c:ChgM):List UInt8:=textB c.key++[if c.gone then 1 else 0]++numB c.val 4
def chgsB (l:List ChgM):List UInt8:=numB (UInt32.ofNat l.length) 2++l.flatMap chgB
end Go.SL
namespace Go.SL.Fc
open Go Go.Proofs Go.SL
theorem a127:aggOf Tryz.prog 127=some (some 3):=by kernel_rfl
theorem a4:aggOf Tryz.prog 4=some none:=by kernel_rfl
theorem f127_0:fldOf Tryz.prog 127 0=some 0:=by kernel_rfl
theorem f127_1:fldOf Tryz.prog 127 1=some 1:=by kernel_rfl
theorem f127_2:fldOf Tryz.prog 127 2=some 2:=by kernel_rfl
theorem k123:callable Tryz.prog 123=true:=by kernel_rfl
theorem k124:callable Tryz.prog 124=true:=by kernel_rfl
theorem k125:callable Tryz.prog 125=true:=by kernel_rfl
theorem k126:callable Tryz.prog 126=true:=by kernel_rfl
theorem k127:callable Tryz.prog 127=true:=by kernel_rfl
theorem k128:callable Tryz.prog 128=true:=by kernel_rfl
theorem mixedOk:Tryz.prog.follows .mixedOrders=true:=by kernel_rfl
theorem s127:szOf Tryz.prog 127=some 3:=by kernel_rfl
theorem sl90:slOf Tryz.prog 90=some (5,1,1):=by kernel_rfl
theorem sl91:slOf Tryz.prog 91=some (127,3,24):=by kernel_rfl
theorem z127:zeroOf Tryz.prog 127=some [.string .empty,.int .u32 0,.bool false]:=by kernel_rfl
theorem z5:zeroOf Tryz.prog 5=some [.int .u8 0]:=by kernel_rfl
end Go.SL.Fc
namespace Go.SL
open Go Go.Proofs Fc
theorem asks_spec {g:World} (b:Bool) (e:Int):Spec Tryz.prog g 124 [.bool b,.int .i64 e] [] fun K R=>K (.int .i64 (if b then 0 else e)) R:=by
 refine Spec.intro Tryz.func124 rfl Tryz.ntmps124 rfl fun R K hK=>?_
 refine WP.seq<|WP.reg<|WL.e e_assign<|WL.next<|WP.seq<|WP.seq<|WP.reg<|WL.e e_move<|WL.next ?_
 refine WP.cond rfl (fun g1=>?_) (fun g1=>?_)
 ·skip
  refine WP.seq<|WP.reg<|WL.e e_assign<|WL.next<|WP.ret<|PO.past nofun ?_
  exact PO.finE Tryz.results124 (rv_tmp rv_nil) (by simp_all) hK
 ·skip
  refine WP.skip<|PO.next<|WP.seq<|WP.reg<|WL.e e_move<|WL.e e_assign<|WL.next<|WP.ret ?_
  exact PO.finE Tryz.results124 (rv_tmp rv_nil) (by simp_all) hK
theorem may_spec {g:World} (c:ChgM):Spec Tryz.prog g 123 [c.v] [] fun K R=>K (.int .i64 (if chgOk c then 0 else 1)) R:=by
 refine Spec.intro Tryz.func123 rfl Tryz.ntmps123 rfl fun R K hK=>?_
 refine WP.seq<|WP.reg ?_
 refine WL.h (h_box fun b1=>?_)
 refine WL.e e_assign<|WL.next<|WP.seq<|WP.reg<|WL.e (e_fa f127_0)<|WL.e (e_load a9) ?_
 refine WL.h (h_call (Check_spec _) k116 ?_)
 refine WL.e e_move ?_
 refine WL.bool 6 rfl (fun g1=>?_) (fun g1=>?_)
 ·skip
  refine WL.e (e_fa f127_2)<|WL.e (e_load a4)<|WL.e e_not<|WL.e e_move ?_
  refine WL.bool 10 rfl (fun g2=>?_) (fun g2=>?_)
  ·skip
   refine WL.skip<|WL.skip<|WL.skip<|WL.e e_pick_t<|WL.e e_pick_t ?_
   refine WL.h (h_call (asks_spec _ _) k124 ?_)
   refine WL.e e_assign<|WL.next<|WP.ret ?_
   exact PO.finE Tryz.results123 (rv_tmp rv_nil) (by simp_all [chgOk]) hK
  ·skip
   refine WL.e (e_fa f127_1)<|WL.e (e_load a48)<|WL.e (e_eql32 (b:=0))<|WL.e e_pick_f<|WL.e e_pick_t ?_
   refine WL.h (h_call (asks_spec _ _) k124 ?_)
   refine WL.e e_assign<|WL.next<|WP.ret ?_
   exact PO.finE Tryz.results123 (rv_tmp rv_nil) (by simp_all [chgOk]) hK
 ·skip
  refine WL.skip<|WL.skip<|WL.skip<|WL.skip<|WL.skip<|WL.skip<|WL.skip<|WL.skip<|WL.e e_pick_f ?_
  refine WL.h (h_call (asks_spec _ _) k124 ?_)
  refine WL.e e_assign<|WL.next<|WP.ret ?_
  exact PO.finE Tryz.results123 (rv_tmp rv_nil) (by simp_all [chgOk]) hK
theorem number_spec {g:World} {u:Value} {xs:List UInt8} (n:UInt32) (k:Nat) (hk:k≤4) (hb:xs.length+k≤68719476736):Spec Tryz.prog g 127 [u,.int .u32 n.toNat,.int .i64 k] [Sl 5 1 eB u xs] fun K R=>∀ a m c,K (.slice a m c) (Sl 5 1 eB (.slice a m c) (xs++numB n k)::R):=by
 refine Spec.intro Tryz.func127 rfl Tryz.ntmps127 rfl fun R K hK=>?_
 refine WP.seq<|WP.reg<|WL.e e_assign<|WL.next<|WP.seq<|WP.seq<|WP.reg<|WL.e e_move<|WL.e (e_sub rfl rfl (w_i64 (by omega) (by omega)))<|WL.e e_assign<|WL.next<|WP.block<|WP.loopK (fun (x:Value × Nat × List UInt8)=>[(0,x.1),(7,.int .i64 ((x.2.1:Int) - 1))]) (fun (x:Value × Nat × List UInt8)=>Sl 5 1 eB x.1 x.2.2::R) [(1,_),(6,_)] (fun (x:Value × Nat × List UInt8)=>x.2.1≤k∧x.2.2++numB n x.2.1=xs++numB n k) (fun (x:Value × Nat × List UInt8)=>x.2.1) (u,k,xs) (⟨Nat.le_refl _,rfl⟩) ?_
 rintro ⟨u1,j,pre⟩ ⟨hx1,hx2⟩
 simp only at hx1 hx2
 dsimp only
 refine WP.seq<|WP.seq<|WP.reg<|WL.e e_move<|WL.e e_geq<|WL.next ?_
 refine WP.cond rfl (fun h=>?_) (fun h=>?_)
 ·obtain ⟨m,rfl⟩:∃ m,j=m+1:=⟨j - 1,by simp at h;omega⟩
  have hpl:pre.length+(m+1)=xs.length+k:=by have:=congrArg List.length hx2;simpa [numB_len] using this
  refine WP.skip<|PO.next<|WP.seq<|WP.block<|WP.reg<|WL.e e_move<|WL.e e_move<|WL.e e_move<|WL.e (e_mul (c:=((8 * m:Nat):Int)) rfl rfl (by rw [w_i64 (by omega) (by omega)];omega))<|WL.e (e_shrN (k:=.u32) (m:=8 * m) (by simp [IntKind.bits];omega))<|WL.e (e_c8 (by rw [Tryz.underlying48];rfl) Tryz.underlying5) ?_
  refine WL.h (h_bs sl90 z5 (.o (.tmp 19) rfl<|.n) fun b1=>?_)
  refine WL.h (hl_append (xs:=pre) sl90 eB_ok z5 (lit_rl eB_ok [UInt8.ofNat (n.toNat / 2 ^ (8 * m))] rfl) (by simp;omega) fun a2 n2 c2=>?_)
  refine WL.e e_assign<|WL.nil<|PO.blockN<|PO.next<|WP.reg<|WL.e e_move<|WL.e (e_sub (c:=(m:Int) - 1) rfl rfl (by rw [w_i64 (by omega) (by omega)];omega))<|WL.e e_assign<|WL.nil ?_
  exact PO.againK (.slice a2 n2 c2,m,pre++[UInt8.ofNat (n.toNat / 2 ^ (8 * m))]) ⟨by simp only;omega,by rw [← hx2];simp [numB]⟩ (by simp only;omega)
 ·obtain rfl:j=0:=by simp at h;omega
  refine WP.exit<|PO.past nofun<|PO.round nofun<|PO.blockX<|PO.next<|WP.seq<|WP.reg<|WL.e e_move<|WL.e e_assign<|WL.next<|WP.ret<|PO.sh (u:=u1) ?_
  rintro a1 n1 c1 rfl
  exact PO.fin Tryz.results127 (rv_tmp rv_nil) (by have:=hK a1 n1 c1;rw [← hx2] at this;simpa [numB] using this)
theorem text_spec {g:World} {u:Value} {xs:List UInt8} (s:ByteArray) (hb:xs.length+s.size+1≤68719476736):Spec Tryz.prog g 128 [u,.string s] [Sl 5 1 eB u xs] fun K R=>∀ a m c,K (.slice a m c) (Sl 5 1 eB (.slice a m c) (xs++textB s)::R):=by
 refine Spec.intro Tryz.func128 rfl Tryz.ntmps128 rfl fun R K hK=>?_
 refine WP.seq<|WP.reg<|WL.e e_assign<|WL.next<|WP.seq<|WP.reg<|WL.e e_move<|WL.e e_move<|WL.e (e_len_str Tryz.underlying9)<|WL.e (e_c8 (by rw [Tryz.underlying3];rfl) Tryz.underlying5) ?_
 refine WL.h (h_bs sl90 z5 (.o (.tmp 8) rfl<|.n) fun b1=>?_)
 refine WL.h (hl_append (xs:=xs) sl90 eB_ok z5 (lit_rl eB_ok [UInt8.ofNat s.size] rfl) (by simp;omega) fun a2 n2 c2=>?_)
 refine WL.e e_move ?_
 refine WL.h (hl_append_s (xs:=xs++[UInt8.ofNat s.size]) sl90 Tryz.underlying9 z5 (s:=s) (by simp;omega) fun a3 n3 c3=>?_)
 rw [List.append_assoc]
 refine WL.e e_assign<|WL.next<|WP.ret ?_
 exact PO.fin Tryz.results128 (rv_tmp rv_nil) (hK a3 n3 c3)
theorem chg_spec {g:World} {u:Value} {xs:List UInt8} (c:ChgM) (hb:xs.length+(chgB c).length≤68719476736):Spec Tryz.prog g 126 [u,c.v] [Sl 5 1 eB u xs] fun K R=>∀ a m k,K (.slice a m k) (Sl 5 1 eB (.slice a m k) (xs++chgB c)::R):=by
 refine Spec.intro Tryz.func126 rfl Tryz.ntmps126 rfl fun R K hK=>?_
 refine WP.seq<|WP.reg ?_
 refine WL.h (h_box fun b1=>?_)
 refine WL.e e_assign<|WL.next<|WP.seq<|WP.reg<|WL.e e_assign<|WL.next<|WP.seq<|WP.seq<|WP.reg<|WL.e (e_fa f127_2)<|WL.e (e_load a4)<|WL.next ?_
 refine WP.cond rfl (fun hg=>?_) (fun hg=>?_)
 ·skip
  refine WP.reg<|WL.e e_assign<|WL.next<|WP.seq<|WP.draws mixedOk 11<|RW.e 0 rfl e_move<|RW.e 1 rfl (e_fa f127_0)<|RW.e 2 rfl (e_load a9)<|RW.e 4 rfl e_move<|RW.e 7 rfl (e_fa f127_1)<|RW.e 8 rfl (e_load a48) ?_
  refine RW.any (is:=[3,5]) rfl ⟨?_,?_,trivial⟩
  ·skip
   refine RWat.h rfl rfl rfl ?_
   refine (h_call (text_spec (xs:=xs) c.key (by simp [chgB,textB,bytesOf_len,numB_len] at hb;omega)) k128 ?_)
   intro a2 n2 c2
   refine ⟨⟨⟨_,rfl,.inl ⟨rfl,(e_load a48)⟩⟩,⟨_,rfl,.inl ⟨rfl,(e_fa f127_1)⟩⟩,⟨_,rfl,.inl ⟨rfl,e_move⟩⟩,trivial⟩,?_⟩
   refine RW.any (is:=[5]) rfl ⟨?_,trivial⟩
   refine RWat.h rfl rfl rfl ?_
   refine (h_bs sl90 z5 (.o (.tmp 12) rfl<|.n) fun b2=>?_)
   refine ⟨⟨⟨_,rfl,.inl ⟨rfl,(e_load a48)⟩⟩,⟨_,rfl,.inl ⟨rfl,(e_fa f127_1)⟩⟩,trivial⟩,?_⟩
   refine RW.any (is:=[6]) rfl ⟨?_,trivial⟩
   refine RWat.h rfl rfl rfl ?_
   refine (hl_append (xs:=xs++textB c.key) sl90 eB_ok z5 (lit_rl eB_ok [1] rfl) (by simp [chgB,textB,bytesOf_len,numB_len] at hb ⊢;omega) fun a3 n3 c3=>?_)
   refine ⟨⟨⟨_,rfl,.inl ⟨rfl,(e_load a48)⟩⟩,⟨_,rfl,.inl ⟨rfl,(e_fa f127_1)⟩⟩,trivial⟩,?_⟩
   refine RW.any (is:=[9]) rfl ⟨?_,trivial⟩
   refine RWat.h rfl rfl rfl ?_
   refine (h_call (number_spec (xs:=xs++textB c.key++[1]) c.val 4 (by decide) (by simp [chgB,textB,bytesOf_len,numB_len] at hb ⊢;omega)) k127 ?_)
   intro a4 n4 c4
   refine ⟨trivial,?_⟩
   refine RW.e 10 rfl e_assign<|RW.done<|PO.next<|WP.ret ?_
   exact PO.fin Tryz.results126 (rv_tmp rv_nil) (by have:=hK a4 n4 c4;rwa [show xs++chgB c=xs++textB c.key++[1]++numB c.val 4 by simp [chgB,hg]] at this)
  ·skip
   refine RWat.h rfl rfl rfl ?_
   refine (h_bs sl90 z5 (.o (.tmp 12) rfl<|.n) fun b3=>?_)
   refine ⟨⟨⟨_,rfl,.inl ⟨rfl,(e_load a48)⟩⟩,⟨_,rfl,.inl ⟨rfl,(e_fa f127_1)⟩⟩,⟨_,rfl,.inl ⟨rfl,(e_load a9)⟩⟩,⟨_,rfl,.inl ⟨rfl,(e_fa f127_0)⟩⟩,⟨_,rfl,.inl ⟨rfl,e_move⟩⟩,trivial⟩,?_⟩
   refine RW.any (is:=[3]) rfl ⟨?_,trivial⟩
   refine RWat.h rfl rfl rfl ?_
   refine (h_call (text_spec (xs:=xs) c.key (by simp [chgB,textB,bytesOf_len,numB_len] at hb;omega)) k128 ?_)
   intro a2 n2 c2
   refine ⟨⟨⟨_,rfl,.inl ⟨rfl,(e_load a48)⟩⟩,⟨_,rfl,.inl ⟨rfl,(e_fa f127_1)⟩⟩,trivial⟩,?_⟩
   refine RW.any (is:=[6]) rfl ⟨?_,trivial⟩
   refine RWat.h rfl rfl rfl ?_
   refine (hl_append (xs:=xs++textB c.key) sl90 eB_ok z5 (lit_rl eB_ok [1] rfl) (by simp [chgB,textB,bytesOf_len,numB_len] at hb ⊢;omega) fun a3 n3 c3=>?_)
   refine ⟨⟨⟨_,rfl,.inl ⟨rfl,(e_load a48)⟩⟩,⟨_,rfl,.inl ⟨rfl,(e_fa f127_1)⟩⟩,trivial⟩,?_⟩
   refine RW.any (is:=[9]) rfl ⟨?_,trivial⟩
   refine RWat.h rfl rfl rfl ?_
   refine (h_call (number_spec (xs:=xs++textB c.key++[1]) c.val 4 (by decide) (by simp [chgB,textB,bytesOf_len,numB_len] at hb ⊢;omega)) k127 ?_)
   intro a4 n4 c4
   refine ⟨trivial,?_⟩
   refine RW.e 10 rfl e_assign<|RW.done<|PO.next<|WP.ret ?_
   exact PO.fin Tryz.results126 (rv_tmp rv_nil) (by have:=hK a4 n4 c4;rwa [show xs++chgB c=xs++textB c.key++[1]++numB c.val 4 by simp [chgB,hg]] at this)
 ·skip
  refine WP.skip<|PO.next<|WP.seq<|WP.draws mixedOk 11<|RW.e 0 rfl e_move<|RW.e 1 rfl (e_fa f127_0)<|RW.e 2 rfl (e_load a9)<|RW.e 4 rfl e_move<|RW.e 7 rfl (e_fa f127_1)<|RW.e 8 rfl (e_load a48) ?_
  refine RW.any (is:=[3,5]) rfl ⟨?_,?_,trivial⟩
  ·skip
   refine RWat.h rfl rfl rfl ?_
   refine (h_call (text_spec (xs:=xs) c.key (by simp [chgB,textB,bytesOf_len,numB_len] at hb;omega)) k128 ?_)
   intro a2 n2 c2
   refine ⟨⟨⟨_,rfl,.inl ⟨rfl,(e_load a48)⟩⟩,⟨_,rfl,.inl ⟨rfl,(e_fa f127_1)⟩⟩,⟨_,rfl,.inl ⟨rfl,e_move⟩⟩,trivial⟩,?_⟩
   refine RW.any (is:=[5]) rfl ⟨?_,trivial⟩
   refine RWat.h rfl rfl rfl ?_
   refine (h_bs sl90 z5 (.o (.tmp 12) rfl<|.n) fun b4=>?_)
   refine ⟨⟨⟨_,rfl,.inl ⟨rfl,(e_load a48)⟩⟩,⟨_,rfl,.inl ⟨rfl,(e_fa f127_1)⟩⟩,trivial⟩,?_⟩
   refine RW.any (is:=[6]) rfl ⟨?_,trivial⟩
   refine RWat.h rfl rfl rfl ?_
   refine (hl_append (xs:=xs++textB c.key) sl90 eB_ok z5 (lit_rl eB_ok [0] rfl) (by simp [chgB,textB,bytesOf_len,numB_len] at hb ⊢;omega) fun a3 n3 c3=>?_)
   refine ⟨⟨⟨_,rfl,.inl ⟨rfl,(e_load a48)⟩⟩,⟨_,rfl,.inl ⟨rfl,(e_fa f127_1)⟩⟩,trivial⟩,?_⟩
   refine RW.any (is:=[9]) rfl ⟨?_,trivial⟩
   refine RWat.h rfl rfl rfl ?_
   refine (h_call (number_spec (xs:=xs++textB c.key++[0]) c.val 4 (by decide) (by simp [chgB,textB,bytesOf_len,numB_len] at hb ⊢;omega)) k127 ?_)
   intro a4 n4 c4
   refine ⟨trivial,?_⟩
   refine RW.e 10 rfl e_assign<|RW.done<|PO.next<|WP.ret ?_
   exact PO.fin Tryz.results126 (rv_tmp rv_nil) (by have:=hK a4 n4 c4;rwa [show xs++chgB c=xs++textB c.key++[0]++numB c.val 4 by simp [chgB,hg]] at this)
  ·skip
   refine RWat.h rfl rfl rfl ?_
   refine (h_bs sl90 z5 (.o (.tmp 12) rfl<|.n) fun b5=>?_)
   refine ⟨⟨⟨_,rfl,.inl ⟨rfl,(e_load a48)⟩⟩,⟨_,rfl,.inl ⟨rfl,(e_fa f127_1)⟩⟩,⟨_,rfl,.inl ⟨rfl,(e_load a9)⟩⟩,⟨_,rfl,.inl ⟨rfl,(e_fa f127_0)⟩⟩,⟨_,rfl,.inl ⟨rfl,e_move⟩⟩,trivial⟩,?_⟩
   refine RW.any (is:=[3]) rfl ⟨?_,trivial⟩
   refine RWat.h rfl rfl rfl ?_
   refine (h_call (text_spec (xs:=xs) c.key (by simp [chgB,textB,bytesOf_len,numB_len] at hb;omega)) k128 ?_)
   intro a2 n2 c2
   refine ⟨⟨⟨_,rfl,.inl ⟨rfl,(e_load a48)⟩⟩,⟨_,rfl,.inl ⟨rfl,(e_fa f127_1)⟩⟩,trivial⟩,?_⟩
   refine RW.any (is:=[6]) rfl ⟨?_,trivial⟩
   refine RWat.h rfl rfl rfl ?_
   refine (hl_append (xs:=xs++textB c.key) sl90 eB_ok z5 (lit_rl eB_ok [0] rfl) (by simp [chgB,textB,bytesOf_len,numB_len] at hb ⊢;omega) fun a3 n3 c3=>?_)
   refine ⟨⟨⟨_,rfl,.inl ⟨rfl,(e_load a48)⟩⟩,⟨_,rfl,.inl ⟨rfl,(e_fa f127_1)⟩⟩,trivial⟩,?_⟩
   refine RW.any (is:=[9]) rfl ⟨?_,trivial⟩
   refine RWat.h rfl rfl rfl ?_
   refine (h_call (number_spec (xs:=xs++textB c.key++[0]) c.val 4 (by decide) (by simp [chgB,textB,bytesOf_len,numB_len] at hb ⊢;omega)) k127 ?_)
   intro a4 n4 c4
   refine ⟨trivial,?_⟩
   refine RW.e 10 rfl e_assign<|RW.done<|PO.next<|WP.ret ?_
   exact PO.fin Tryz.results126 (rv_tmp rv_nil) (by have:=hK a4 n4 c4;rwa [show xs++chgB c=xs++textB c.key++[0]++numB c.val 4 by simp [chgB,hg]] at this)
theorem put_spec {g:World} {A:HP} {u y1 y2:Value} {l:List ChgM} (hA:RL A 3 ChgM.c u l) (most:Nat) (hl:l.length≤68719476736)
  (h1:∀ c,CallV Tryz.prog g y1 [c.v] [] fun K R=>K (.int .i64 (if chgOk c then 0 else 1)) R)
  (h2:∀ u xs c,xs.length+(chgB c).length≤68719476736→CallV Tryz.prog g y2 [u,c.v] [Sl 5 1 eB u xs] fun K R=>∀ a m c',K (.slice a m c') (Sl 5 1 eB (.slice a m c') (xs++chgB c)::R))
  (hb:2+(l.flatMap chgB).length≤68719476736) :
  Spec Tryz.prog g 125 [u,.int .i64 most,y1,y2] [A] fun K R=>(l.all chgOk=false→K (.tuple #[.slice none 0 0,.int .i64 1]) (A::R))∧(l.all chgOk=true→¬ l.length≤most→K (.tuple #[.slice none 0 0,.int .i64 3]) (A::R)) ∧
   (l.all chgOk=true→l.length≤most→∀ a m c,K (.tuple #[.slice a m c,.int .i64 0]) (Sl 5 1 eB (.slice a m c) (chgsB l)::A::R)):=by
 refine Spec.intro Tryz.func125 rfl Tryz.ntmps125 rfl fun R K hK=>?_
 refine WP.seq<|WP.reg<|WL.e e_assign<|WL.e e_assign<|WL.next<|WP.seq<|WP.reg<|WL.e e_assign<|WL.next<|WP.seq<|WP.seq<|WP.reg<|WL.e e_move<|WL.e (el_len sl91 hA)<|WL.e e_move<|WL.next<|WP.block<|WP.loopK (fun (x:Nat)=>[(18,.int .i64 x),(10,.int .i64 0)]) (fun (x:Nat)=>A::R) [(0,_),(1,_),(2,_),(3,_),(16,_),(17,_)] (fun (x:Nat)=>x≤l.length∧(l.take x).all chgOk=true) (fun (x:Nat)=>l.length - x) 0 (⟨Nat.zero_le _,by simp⟩) ?_
 rintro x ⟨hx1,hx2⟩
 try dsimp only
 refine WP.seq<|WP.reg<|WL.e e_lss<|WL.next<|WP.seq ?_
 refine WP.cond rfl (fun g1=>?_) (fun g1=>?_)
 ·have hlt:x < l.length:=by simp at g1;omega
  obtain ⟨c,hc⟩:∃ c,l[x]?=some c:=⟨l[x],List.getElem?_eq_getElem hlt⟩
  refine WP.skip<|PO.next<|WP.seq<|WP.block<|WP.seq<|WP.reg<|WL.e (el_ia sl91 hA hlt)<|WL.e (el_loadN a127 chgE hA hc) ?_
  refine WL.h (h_alloc z127 fun b1=>?_)
  refine WL.h' (h_store s127 ?_)
  refine WL.next<|WP.seq<|WP.reg<|WL.e e_move<|WL.e (e_loadN a127) ?_
  refine WL.h (h_cally (h1 c) ?_)
  refine WL.next<|WP.block<|WP.seq<|WP.reg<|WL.e e_eql<|WL.e e_assign<|WL.next ?_
  refine WP.cond rfl (fun h=>?_) (fun h=>?_)
  ·replace h:chgOk c=false:=by cases hq:chgOk c <;> simp_all
   refine WP.seq<|WP.reg<|WL.e e_assign<|WL.e e_assign<|WL.next<|WP.ret<|PO.blockR<|PO.blockR<|PO.past nofun<|PO.round nofun<|PO.blockR<|PO.past nofun ?_
   exact PO.fin Tryz.results125 (rv_tmp (rv_tmp rv_nil)) (hK.1 (by rw [Bool.eq_false_iff];intro e;rw [List.all_eq_true] at e;have:=e c (List.mem_of_getElem? hc);rw [h] at this;cases this))
  ·replace h:chgOk c=true:=by cases hq:chgOk c <;> simp_all
   refine WP.seq<|WP.reg<|WL.e e_eql<|WL.e e_assign<|WL.next ?_
   refine WP.cond rfl (fun h9=>?_) (fun h9=>?_)
   ·simp [h] at h9
   ·skip
    refine WP.skip<|PO.blockN<|PO.blockN<|PO.next<|WP.reg<|WL.e (e_add rfl rfl (w_i64 (by omega) (by omega)))<|WL.e e_move<|WL.nil ?_
    exact PO.againK (x+1) ⟨by omega,by rw [List.take_add_one,hc];simp [hx2,h]⟩ (by omega)
 ·have hall:l.all chgOk=true:=by (rw [List.take_of_length_le (by simp at g1;omega)] at hx2;exact hx2)
  refine WP.exit<|PO.past nofun<|PO.round nofun<|PO.blockX<|PO.next<|WP.seq<|WP.seq<|WP.reg<|WL.e e_move<|WL.e e_neq<|WL.e e_move ?_
  refine WL.bool 32 rfl (fun h0=>?_) (fun h0=>?_)
  ·simp at h0 
  ·skip
   refine WL.e e_move<|WL.e (el_len sl91 hA)<|WL.e e_move<|WL.e e_gtr<|WL.e e_pick_f<|WL.next ?_
   refine WP.cond rfl (fun g3=>?_) (fun g3=>?_)
   ·skip
    refine WP.seq<|WP.reg<|WL.e e_assign<|WL.e e_assign<|WL.next<|WP.ret<|PO.past nofun ?_
    exact PO.fin Tryz.results125 (rv_tmp (rv_tmp rv_nil)) (hK.2.1 hall (by simp at g3;omega))
   ·skip
    refine WP.skip<|PO.next<|WP.seq<|WP.reg<|WL.e e_move<|WL.e (el_len sl91 hA)<|WL.e (e_conv (by rw [Tryz.underlying3];rfl) Tryz.underlying48 rfl rfl)<|WL.nils 5 1 eB none ?_
    refine WL.h (h_call (number_spec (xs:=[]) (UInt32.ofNat l.length) 2 (by decide) (by simp)) k127 ?_)
    intro a2 n2 c2
    refine WL.e e_assign<|WL.next<|WP.seq<|WP.seq<|WP.reg<|WL.e e_move<|WL.e (el_len sl91 hA)<|WL.e e_move<|WL.next<|WP.block<|WP.loopK (fun (x:Nat × Value)=>[(44,.int .i64 x.1),(13,x.2)]) (fun (x:Nat × Value)=>Sl 5 1 eB x.2 (numB (UInt32.ofNat l.length) 2++(l.take x.1).flatMap chgB)::A::R) [(3,_),(42,_),(43,_)] (fun (x:Nat × Value)=>x.1≤l.length) (fun (x:Nat × Value)=>l.length - x.1) (0,.slice a2 n2 c2) (Nat.zero_le _) ?_
    rintro ⟨x,u3⟩ hx1
    simp only at hx1
    dsimp only
    refine WP.seq<|WP.reg<|WL.e e_lss<|WL.next<|WP.seq ?_
    refine WP.cond rfl (fun g4=>?_) (fun g4=>?_)
    ·have hlt:x < l.length:=by simp at g4;omega
     obtain ⟨c,hc⟩:∃ c,l[x]?=some c:=⟨l[x],List.getElem?_eq_getElem hlt⟩
     refine WP.skip<|PO.next<|WP.seq<|WP.block<|WP.seq<|WP.reg<|WL.e (el_ia sl91 hA hlt)<|WL.e (el_loadN a127 chgE hA hc) ?_
     refine WL.h (h_alloc z127 fun b2=>?_)
     refine WL.h' (h_store s127 ?_)
     refine WL.next<|WP.reg<|WL.e e_move<|WL.e e_move<|WL.e (e_loadN a127) ?_
     refine WL.h (h_cally (h2 u3 _ c ?_) ?_)
     ·have:=flat_part chgB hc;simp only [List.length_append,numB_len];omega
     intro a4 n4 c4
     rw [show numB (UInt32.ofNat l.length) 2++(l.take x).flatMap chgB++chgB c=numB (UInt32.ofNat l.length) 2++(l.take (x+1)).flatMap chgB by rw [List.take_add_one,hc];simp]
     refine WL.e e_assign<|WL.nil<|PO.blockN<|PO.next<|WP.reg<|WL.e (e_add rfl rfl (w_i64 (by omega) (by omega)))<|WL.e e_move<|WL.nil ?_
     exact PO.againK (x+1,.slice a4 n4 c4) (by simp only;omega) (by simp only;omega)
    ·have hfin:l.take x=l:=List.take_of_length_le (by simp at g4;omega)
     rw [hfin]
     refine WP.exit<|PO.past nofun<|PO.round nofun<|PO.blockX<|PO.next<|WP.seq<|WP.reg<|WL.e e_move<|WL.e e_assign<|WL.e e_assign<|WL.next<|WP.ret<|PO.sh (u:=u3) ?_
     rintro a3 n3 c3 rfl
     exact PO.fin Tryz.results125 (rv_tmp (rv_tmp rv_nil)) (hK.2.2 hall (by simp at g3;omega) a3 n3 c3)
theorem PutChanges_spec {g:World} {A:HP} {u:Value} {l:List ChgM} (hA:RL A 3 ChgM.c u l) (hl:l.length≤68719476736) (hb:2+(l.flatMap chgB).length≤68719476736) :
  Spec Tryz.prog g 46 [u] [A] fun K R=>(l.all chgOk=false→K (.tuple #[.slice none 0 0,.int .i64 1]) (A::R))∧(l.all chgOk=true→¬ l.length≤4096→K (.tuple #[.slice none 0 0,.int .i64 3]) (A::R)) ∧
   (l.all chgOk=true→l.length≤4096→∀ a m c,K (.tuple #[.slice a m c,.int .i64 0]) (Sl 5 1 eB (.slice a m c) (chgsB l)::A::R)):=by
 refine Spec.intro Tryz.func46 rfl Tryz.ntmps46 rfl fun R K hK=>?_
 refine WP.seq<|WP.reg<|WL.e e_assign<|WL.e e_assign<|WL.next<|WP.seq<|WP.reg<|WL.e e_assign<|WL.next<|WP.seq<|WP.reg<|WL.e e_move<|WL.e e_move ?_
 refine WL.h (h_call (put_spec hA 4096 hl (fun c=>CallV.of_spec (fs:=[]) (cs:=[]) (may_spec c) k123) (fun u xs c h=>CallV.of_spec (fs:=[]) (cs:=[]) (chg_spec c h) k126) hb) k125 ?_)
 refine ⟨fun h1=>?_,fun h1 h2=>?_,fun h1 h2 a3 n3 c3=>?_⟩
 ·skip
  refine WL.e e_extract<|WL.e e_extract<|WL.e e_assign<|WL.e e_assign<|WL.next<|WP.ret ?_
  exact PO.fin Tryz.results46 (rv_tmp (rv_tmp rv_nil)) (hK.1 h1)
 ·skip
  refine WL.e e_extract<|WL.e e_extract<|WL.e e_assign<|WL.e e_assign<|WL.next<|WP.ret ?_
  exact PO.fin Tryz.results46 (rv_tmp (rv_tmp rv_nil)) (hK.2.1 h1 h2)
 ·skip
  refine WL.e e_extract<|WL.e e_extract<|WL.e e_assign<|WL.e e_assign<|WL.next<|WP.ret ?_
  exact PO.fin Tryz.results46 (rv_tmp (rv_tmp rv_nil)) (hK.2.2 h1 h2 a3 n3 c3)
end Go.SL
namespace Go.SL
open Go
theorem bv32 (a:UInt32):BitVec.ofInt IntKind.u32.bits (a.toNat:Int)=a.toBitVec:=by
  show BitVec.ofInt 32 _=_
  apply BitVec.eq_of_toNat_eq;simp
theorem bv8 (a:UInt8):BitVec.ofInt IntKind.u8.bits (a.toNat:Int)=a.toBitVec:=by
  show BitVec.ofInt 8 _=_
  apply BitVec.eq_of_toNat_eq;simp
theorem back32 (x:BitVec 32):IntKind.u32.wrap (x.toNat:Int)=((⟨x⟩:UInt32).toNat:Int):=by
  rw [wu32];congr 1;show (UInt32.ofNat x.toNat).toNat=x.toNat;simp
theorem back8 (x:BitVec 8):IntKind.u8.wrap (x.toNat:Int)=((⟨x⟩:UInt8).toNat:Int):=by
  rw [wu8];congr 1;show (UInt8.ofNat x.toNat).toNat=x.toNat;simp
theorem band32 (a b:UInt32):bits .and .u32 (a.toNat:Int) (b.toNat:Int)=((a &&& b).toNat:Int):=by unfold bits;simp only [bv32];exact back32 _
theorem bor32 (a b:UInt32):bits .or .u32 (a.toNat:Int) (b.toNat:Int)=((a ||| b).toNat:Int):=by unfold bits;simp only [bv32];exact back32 _
theorem bxor32 (a b:UInt32):bits .xor .u32 (a.toNat:Int) (b.toNat:Int)=((a ^^^ b).toNat:Int):=by unfold bits;simp only [bv32];exact back32 _
theorem bxor8 (a b:UInt8):bits .xor .u8 (a.toNat:Int) (b.toNat:Int)=((a ^^^ b).toNat:Int):=by unfold bits;simp only [bv8];exact back8 _
section
variable {P : Program} {r : Option Nat} {g : World} {Γ : Env} {L M : List HP} {Q : Post} {dst : Option Tmp} {t : TypeId} {pos : String} {aft : Array Edge} {gd : Option (Nat × Bool)}
section
variable {xt yt ot : TypeId} {x y : Operand} {a b : UInt32} {p q : UInt8}
theorem e_and32 (hx:ev Γ x=some (.int .u32 a.toNat):=by rfl) (hy:ev Γ y=some (.int .u32 b.toNat):=by rfl):EO P g ⟨dst,.binOp .and xt x y yt,t,pos,aft,gd⟩ Γ L (.int .u32 (a &&& b).toNat):=e_bits (by simp) hx hy (band32 a b)
theorem e_or32 (hx:ev Γ x=some (.int .u32 a.toNat):=by rfl) (hy:ev Γ y=some (.int .u32 b.toNat):=by rfl):EO P g ⟨dst,.binOp .or xt x y yt,t,pos,aft,gd⟩ Γ L (.int .u32 (a ||| b).toNat):=e_bits (by simp) hx hy (bor32 a b)
theorem e_xor32 (hx:ev Γ x=some (.int .u32 a.toNat):=by rfl) (hy:ev Γ y=some (.int .u32 b.toNat):=by rfl):EO P g ⟨dst,.binOp .xor xt x y yt,t,pos,aft,gd⟩ Γ L (.int .u32 (a ^^^ b).toNat):=e_bits (by simp) hx hy (bxor32 a b)
theorem e_xor8 (hx:ev Γ x=some (.int .u8 p.toNat):=by rfl) (hy:ev Γ y=some (.int .u8 q.toNat):=by rfl):EO P g ⟨dst,.binOp .xor xt x y yt,t,pos,aft,gd⟩ Γ L (.int .u8 (p ^^^ q).toNat):=e_bits (by simp) hx hy (bxor8 p q)
theorem e_not32 (hx:ev Γ x=some (.int .u32 a.toNat):=by rfl):EO P g ⟨dst,.unOp .xor ot x,t,pos,aft,gd⟩ Γ L (.int .u32 (0xffffffff ^^^ a).toNat):=
  .of (by simp) fun ρ hρ w _=>by
    have:=bxor32 0xffffffff a
    simp only [execOp,hρ x _ (by simp [Op.operands]) hx,Op.unary]
    rw [show (if IntKind.u32.signed=true then (-1:Int) else IntKind.u32.max)=((0xffffffff:UInt32).toNat:Int) from rfl,intBits_xor,this];rfl
theorem e_neg32 (hx:ev Γ x=some (.int .u32 a.toNat):=by rfl):EO P g ⟨dst,.unOp .neg ot x,t,pos,aft,gd⟩ Γ L (.int .u32 (0 - a).toNat):=
  .of (by simp) fun ρ hρ w _=>by
    have h:IntKind.u32.wrap (0 - (a.toNat:Int))=((0 - a).toNat:Int):=by
      rw [UInt32.toNat_sub];simp [IntKind.wrap,IntKind.bits,IntKind.signed];have:=a.toNat_lt;omega
    simp only [execOp,hρ x _ (by simp [Op.operands]) hx,Op.unary]
    show ((do pure (Next.value (← Op.intArith .sub .u32 0 a.toNat)):Sem Next)).run P w=_
    simp only [Op.intArith,h];rfl
theorem e_shr32 {k':IntKind} {m:UInt32} (hm:m.toNat < 32) (hx:ev Γ x=some (.int .u32 a.toNat):=by rfl) (hy:ev Γ y=some (.int k' m.toNat):=by rfl):EO P g ⟨dst,.binOp .shr xt x y yt,t,pos,aft,gd⟩ Γ L (.int .u32 (a >>> m).toNat):=
  e_shr hx hy (by omega) (by simp [IntKind.bits];omega) (by rw [UInt32.toNat_shiftRight,Nat.mod_eq_of_lt hm,Nat.shiftRight_eq_div_pow];simp)
theorem e_shl32 {k':IntKind} {m:UInt32} (hm:m.toNat < 32) (hx:ev Γ x=some (.int .u32 a.toNat):=by rfl) (hy:ev Γ y=some (.int k' m.toNat):=by rfl):EO P g ⟨dst,.binOp .shl xt x y yt,t,pos,aft,gd⟩ Γ L (.int .u32 (a <<< m).toNat):=
  e_shl hx hy (by omega) (by simp [IntKind.bits];omega) (by
    rw [UInt32.toNat_shiftLeft,Nat.mod_eq_of_lt hm,Nat.shiftLeft_eq];simp [IntKind.wrap,IntKind.bits,IntKind.signed])
theorem e_c32to8 {s d:TypeId} (hs:(P.underlying s).isSome=true) (hd:P.underlying d=some (.int .u8)) (hx:ev Γ x=some (.int .u32 a.toNat):=by rfl):EO P g ⟨dst,.convert s d x,t,pos,aft,gd⟩ Γ L (.int .u8 a.toUInt8.toNat):=
  e_conv hs hd hx (by rw [wu8];simp)
theorem e_c8to32 {s d:TypeId} (hs:(P.underlying s).isSome=true) (hd:P.underlying d=some (.int .u32)) (hx:ev Γ x=some (.int .u8 p.toNat):=by rfl):EO P g ⟨dst,.convert s d x,t,pos,aft,gd⟩ Γ L (.int .u32 p.toUInt32.toNat):=
  e_conv hs hd hx (by rw [wu32];simp)
theorem e_c32to64 {s d:TypeId} (hs:(P.underlying s).isSome=true) (hd:P.underlying d=some (.int .i64)) (hx:ev Γ x=some (.int .u32 a.toNat):=by rfl):EO P g ⟨dst,.convert s d x,t,pos,aft,gd⟩ Γ L (.int .i64 a.toNat):=
  e_conv hs hd hx (w_i64 (by omega) (by have:=a.toNat_lt;omega))
end
theorem ext_all:∀ (l:List Value),Ext l 0 l.length l
  | []=>.done rfl
  | a::l=>.here rfl rfl (ext_all l)
theorem rv_cellW {p b n:Nat} {u bt:TypeId} {l:List Value} {M:List HP} {rs:List ResultVar} {vs:List Value} (ht:aggOf P u=some (some n)) (hn:l.length=n) (h:RV P g Γ L rs vs) (hx:look Γ.l p=some (.pointer (some ⟨b,0,none⟩)):=by rfl)
    (hp:Pick L (cl b bt l) M:=by repeat first | exact .z | apply Pick.s):RV P g Γ L (.cell p u::rs) (.agg l.toArray::vs):=by
  subst hn;exact rv_cellN ht h hx hp (ext_all l)
theorem e_loadW {x:Operand} {u b n:Nat} {bt:TypeId} {l:List Value} {M:List HP} (ht:aggOf P u=some (some n)) (hn:l.length=n) (hx:ev Γ x=some (.pointer (some ⟨b,0,none⟩)):=by rfl) (hp:Pick L (cl b bt l) M:=by repeat first | exact .z | apply Pick.s) :
    EO P g ⟨dst,.load u x,t,pos,aft,gd⟩ Γ L (.agg l.toArray):=by
  subst hn;exact e_loadN ht hx hp (ext_all l)
theorem spl_all:∀ (l zs:List Value),zs.length=l.length→Spl l 0 zs zs
  | [],[],_=>.done
  | a::l,z::zs,h=>.here rfl (spl_all l zs (by simpa using h))
theorem h_storeW {T U:TypeId} {x y:Operand} {b n:Nat} {l zs:List Value} {M:List HP} {v:Value} {K:Value→List HP→Prop} (hT:szOf P T=some n) (hn:zs.length=n) (hl:l.length=n) (h1:ones zs=true) (hK:K (.tuple #[]) M)
    (hx:ev Γ x=some (.pointer (some ⟨b,0,none⟩)):=by rfl) (hy:ev Γ y=some v:=by rfl) (hz:v.cells=zs.toArray:=by rfl) (hp:Put L (cl b U l) (cl b U zs) M:=by repeat first | exact .z | apply Put.s) :
    HO P r g ⟨dst,.store T x y,t,pos,aft,gd⟩ Γ L K:=by
  obtain ⟨R,p1,_⟩:=hp.picks
  exact h_store hT hK hx hy hz p1 (spl_all l zs (by omega)) hp hn h1
theorem h_store1 {T U:TypeId} {x y:Operand} {b o:Nat} {l:List Value} {M:List HP} {v:Value} {K:Value→List HP→Prop} (hT:szOf P T=some 1) (ho:o < l.length) (h1:v.oneCell'=true) (hK:K (.tuple #[]) M)
    (hx:ev Γ x=some (.pointer (some ⟨b,o,none⟩)):=by rfl) (hy:ev Γ y=some v:=by rfl) (hz:v.cells=#[v]:=by rfl) (hp:Put L (cl b U l) (cl b U (l.set o v)) M:=by repeat first | exact .z | apply Put.s) :
    HO P r g ⟨dst,.store T x y,t,pos,aft,gd⟩ Γ L K:=
  HO.run_skip (by simp) fun a w ha hw=>by
    obtain ⟨R,p1,_⟩:=hp.picks
    obtain ⟨w',hr,a1,a2,a3,a4,a5,a6⟩:=run_storeVar (P:=P) (T:=T) (o:=o) (v:=v) (zs:=[v]) hT hz rfl (hw.get p1) (.inl (by simp;omega)) (by simpa using h1)
    refine ⟨M,w',?_,hK,hw.set hp w' a1 a2 a3 a4 a5 a6⟩
    simp [execOp,ev_ok hx ha,ev_ok hy ha,Instr.storeAt,Instr.sureAddr,hr]
theorem hl_make {α:Type} {T E z y n:Nat} {xl xc:Operand} {k k':IntKind} {zs:List Value} {enc:α→List Value} (a:α) {K:Value→List HP→Prop} (hs:slOf P T=some (E,z,y)) (hz:zeroOf P E=some zs) (hb:n≤68719476736) (hK:∀ a' m c,K (.slice a' m c) (Sl E z enc (.slice a' m c) (List.replicate n a)::L)) (hzz:zs.length=z:=by rfl) (hy:y≤512:=by decide) (ha:enc a=zs:=by rfl)
    (hl:ev Γ xl=some (.int k n):=by rfl) (hc:ev Γ xc=some (.int k' n):=by rfl):HO P r g ⟨dst,.makeSlice T xl xc,t,pos,aft,gd⟩ Γ L K:=
  h_make hs hz hzz hl hc (Nat.le_refl _) hb hy fun a' m c=>by
    have:=hK a' m c
    unfold Sl at this
    rw [List.length_replicate] at this
    rw [show (List.replicate n zs).flatten=(List.replicate n a).flatMap enc by rw [← ha];simp [List.flatMap]]
    exact this
theorem hl_set {T E y z f j:Nat} {x v:Operand} {u b:Value} {cs:List Value} {n:Nat} {N:List HP} {K:Value→List HP→Prop} (hT:szOf P T=some 1) (hf:f < n * z) (hK:K (.tuple #[]) N) (h1:b.oneCell'=true) (hx:ev Γ x=some (elA u f):=by rfl) (hv:ev Γ v=some b:=by rfl) (hb:b.cells=#[b]:=by rfl)
    (hp:Put L (Own E z u n cs) (Own E z u n (splice cs f [b])) N:=by repeat first | exact .z | apply Put.s):HO P r g ⟨dst,.store T x v,t,pos,aft,gd⟩ Γ L K:=
  h_store_own (E:=E) (cs:=cs) (zs:=[b]) hT hx hv hb rfl (by decide) (by simpa [ones] using h1) (n:=n) (z:=z) (by omega) hp hK
end
end Go.SL
namespace Go.SL
open Go
def crc1 (n:UInt32):UInt32:=(n >>> 1) ^^^ (3988292384 &&& (0 - (n &&& 1)))
def crcN:Nat→UInt32→UInt32
  | 0,n=>n
  | k+1,n=>crcN k (crc1 n)
def crc8 (n:UInt32):UInt32:=crcN 8 n
def crcB (n:UInt32) (c:UInt8):UInt32:=(n >>> 8) ^^^ crc8 (UInt32.ofNat (n.toUInt8 ^^^ c).toNat)
def sumOn (s:UInt32) (b:List UInt8):UInt32:=if b.length=0 then s else 0xffffffff ^^^ (b.foldl crcB (0xffffffff ^^^ s))
def tblTo (f:UInt32→UInt32) (x:Nat):List Value:=(List.range 256).map fun i=>if i < x then .int .u32 (f (UInt32.ofNat i)).toNat else .int .u32 0
theorem tblTo_len (f:UInt32→UInt32) (x:Nat):(tblTo f x).length=256:=by simp [tblTo]
theorem tblTo_ones (f:UInt32→UInt32) (x:Nat):ones (tblTo f x)=true:=by
  unfold tblTo
  generalize List.range 256=l
  induction l with
  | nil=>rfl
  | cons a l ih=>simp only [List.map_cons,ones,ih,Bool.and_true];split <;> rfl
theorem tblTo_zero (f:UInt32→UInt32):tblTo f 0=List.replicate 256 (.int .u32 0):=by
  unfold tblTo;simp only [Nat.not_lt_zero,if_false,List.map_const',List.length_range]
theorem tblTo_set (f:UInt32→UInt32) (x:Nat) (h:x < 256):(tblTo f x).set x (.int .u32 (f (UInt32.ofNat x)).toNat)=tblTo f (x+1):=by
  apply List.ext_getElem?
  intro i
  rw [List.getElem?_set]
  simp only [tblTo,List.getElem?_map,List.length_map,List.length_range]
  by_cases e:x=i
  · subst e;simp [h]
  · rw [if_neg e]
    rcases Nat.lt_or_ge i 256 with h' | h'
    · rw [List.getElem?_range h'];simp [show i < x↔i < x+1 by omega]
    · rw [List.getElem?_eq_none (by simpa using h')];rfl
theorem tblTo_get (f:UInt32→UInt32) (c:UInt8):(tblTo f 256)[c.toNat]?=some (.int .u32 (f (UInt32.ofNat c.toNat)).toNat):=by
  have:=c.toNat_lt
  simp [tblTo]
  exact ⟨c.toNat,by rw [List.getElem?_range (by omega)],by simp;intro h;omega⟩
attribute [irreducible] tblTo
def secs (n:Nat):Nat:=(8+n+63) / 64
def frame (b:List UInt8):List UInt8:=numB (UInt32.ofNat b.length) 4++numB (sumOn (sumOn 0 (numB (UInt32.ofNat b.length) 4)) b) 4++b++List.replicate (secs b.length * 64 - 8 - b.length) 0
end Go.SL
namespace Go.SL.Fc
open Go Go.Proofs Go.SL
theorem a297:aggOf Tryz.prog 297=some (some 256):=by kernel_rfl
theorem a5:aggOf Tryz.prog 5=some none:=by kernel_rfl
theorem ar297:arrOf Tryz.prog 297=some (48,256,1):=by kernel_rfl
theorem k188:callable Tryz.prog 188=true:=by kernel_rfl
theorem k206:callable Tryz.prog 206=true:=by kernel_rfl
theorem k207:callable Tryz.prog 207=true:=by kernel_rfl
theorem s297:szOf Tryz.prog 297=some 256:=by kernel_rfl
theorem s48:szOf Tryz.prog 48=some 1:=by kernel_rfl
theorem z297:zeroOf Tryz.prog 297=some (List.replicate 256 (.int .u32 0)):=by kernel_rfl
end Go.SL.Fc
namespace Go.SL
open Go Go.Proofs Fc
theorem step_spec {g:World} (n:UInt32):Spec Tryz.prog g 207 [.int .u32 n.toNat] [] fun K R=>K (.int .u32 (crc8 n).toNat) R:=by
 refine Spec.intro Tryz.func207 rfl Tryz.ntmps207 rfl fun R K hK=>?_
 refine WP.seq<|WP.reg<|WL.e e_assign<|WL.next<|WP.seq<|WP.seq<|WP.reg<|WL.e e_move<|WL.next<|WP.block<|WP.loopK (fun (x:UInt32 × Nat)=>[(0,.int .u32 x.1.toNat),(3,.int .i64 x.2)]) (fun (x:UInt32 × Nat)=>R) [(2,_)] (fun (x:UInt32 × Nat)=>x.2≤8∧crcN (8 - x.2) x.1=crc8 n) (fun (x:UInt32 × Nat)=>8 - x.2) (n,0) (⟨by omega,rfl⟩) ?_
 rintro ⟨m,i⟩ ⟨hx1,hx2⟩
 simp only at hx1 hx2
 dsimp only
 refine WP.seq<|WP.reg<|WL.e e_lss<|WL.next<|WP.seq ?_
 refine WP.cond rfl (fun h=>?_) (fun h=>?_)
 ·have hlt:i < 8:=by simp at h;omega
  refine WP.skip<|PO.next<|WP.seq<|WP.block<|WP.reg<|WL.e e_move<|WL.e (e_shr32 (m:=1) (by decide))<|WL.e e_move<|WL.e (e_and32 (b:=1))<|WL.e e_neg32<|WL.e (e_and32 (a:=3988292384))<|WL.e e_xor32<|WL.e e_assign<|WL.nil<|PO.blockN<|PO.next<|WP.reg<|WL.e (e_add rfl rfl (w_i64 (by omega) (by omega)))<|WL.e e_move<|WL.nil ?_
  exact PO.againK (crc1 m,i+1) ⟨by simp only;omega,by rw [← hx2,show 8 - i=8 - (i+1)+1 by omega];rfl⟩ (by simp only;omega)
 ·obtain rfl:i=8:=by simp at h;omega
  refine WP.exit<|PO.past nofun<|PO.round nofun<|PO.blockX<|PO.next<|WP.seq<|WP.reg<|WL.e e_move<|WL.e e_assign<|WL.next<|WP.ret ?_
  exact PO.finE Tryz.results207 (rv_tmp rv_nil) (by rw [← hx2];rfl) hK
theorem table_spec {g:World} {y:Value} {f:UInt32→UInt32} (hy:∀ n:UInt32,CallV Tryz.prog g y [.int .u32 n.toNat] [] fun K R=>K (.int .u32 (f n).toNat) R):Spec Tryz.prog g 206 [y] [] fun K R=>K (.agg (tblTo f 256).toArray) R:=by
 refine Spec.intro Tryz.func206 rfl Tryz.ntmps206 rfl fun R K hK=>?_
 refine WP.seq<|WP.reg ?_
 refine WL.h (h_alloc z297 fun b1=>?_)
 rw [← tblTo_zero f]
 refine WL.next<|WP.seq<|WP.seq<|WP.reg<|WL.e e_move<|WL.next<|WP.block<|WP.loopK (fun (x:Nat)=>[(4,.int .i64 x)]) (fun (x:Nat)=>cl b1 297 (tblTo f x)::R) [(0,_),(2,_)] (fun (x:Nat)=>x≤256) (fun (x:Nat)=>256 - x) 0 (by omega) ?_
 intro x hx1
 refine WP.seq<|WP.reg<|WL.e e_lss<|WL.next<|WP.seq ?_
 refine WP.cond rfl (fun h=>?_) (fun h=>?_)
 ·have hlt:x < 256:=by simp at h;omega
  refine WP.skip<|PO.next<|WP.seq<|WP.block<|WP.seq<|WP.reg<|WL.e e_move<|WL.e e_assign<|WL.next<|WP.reg<|WL.e e_move<|WL.e e_move<|WL.e e_move<|WL.e (e_c32 (by rw [Tryz.underlying3];rfl) Tryz.underlying48) ?_
  refine WL.h (h_cally (hy (UInt32.ofNat x)) ?_)
  refine WL.e (e_iaA ar297 hlt) ?_
  refine WL.h' (h_store1 (o:=0+x * 1) (l:=tblTo f x) s48 (by rw [tblTo_len];omega) rfl ?_)
  rw [show 0+x * 1=x by omega,tblTo_set f x hlt]
  refine WL.nil<|PO.blockN<|PO.next<|WP.reg<|WL.e (e_add rfl rfl (w_i64 (by omega) (by omega)))<|WL.e e_move<|WL.nil ?_
  exact PO.againK (x+1) (by omega) (by omega)
 ·obtain rfl:x=256:=by simp at h;omega
  refine WP.exit<|PO.past nofun<|PO.round nofun<|PO.blockX<|PO.next<|WP.seq<|WP.reg<|WL.e (e_loadW a297 (tblTo_len _ _)) ?_
  refine WL.h' (h_storeW s297 (tblTo_len _ _) (tblTo_len _ _) (tblTo_ones _ _) ?_)
  refine WL.next<|WP.ret ?_
  exact PO.fin Tryz.results206 (rv_cellW a297 (tblTo_len _ _) rv_nil) hK
theorem On_spec {g:World} {A:HP} {u:Value} {b:List UInt8} (s:UInt32) (hA:RL A 1 eB u b) (hb:b.length≤68719476736):Spec Tryz.prog g 188 [.int .u32 s.toNat,u] [A] fun K R=>K (.int .u32 (sumOn s b).toNat) (A::R):=by
 refine Spec.intro Tryz.func188 rfl Tryz.ntmps188 rfl fun R K hK=>?_
 refine WP.seq<|WP.reg<|WL.e e_assign<|WL.next<|WP.seq<|WP.seq<|WP.reg<|WL.e e_move<|WL.e (el_len sl90 hA)<|WL.e e_eql<|WL.next ?_
 refine WP.cond rfl (fun h=>?_) (fun h=>?_)
 ·replace h:b.length=0:=by simpa using h
  refine WP.seq<|WP.reg<|WL.e e_move<|WL.e e_assign<|WL.next<|WP.ret<|PO.past nofun ?_
  exact PO.finE Tryz.results188 (rv_tmp rv_nil) (by simp [sumOn,h]) hK
 ·replace h:b.length≠0:=by rintro e;rw [e] at h;cases h
  refine WP.skip<|PO.next<|WP.seq<|WP.reg ?_
  refine WL.h (h_call (table_spec (f:=crc8) fun n=>CallV.of_spec (fs:=[]) (cs:=[]) (step_spec n) k207) k206 ?_)
  refine WL.h (h_alloc z297 fun b1=>?_)
  refine WL.h' (h_storeW (l:=List.replicate 256 (.int .u32 0)) (zs:=tblTo crc8 256) s297 (tblTo_len _ _) List.length_replicate (tblTo_ones _ _) ?_)
  refine WL.next<|WP.seq<|WP.reg<|WL.e e_move<|WL.e e_not32<|WL.e e_assign<|WL.next<|WP.seq<|WP.seq<|WP.reg<|WL.e e_move<|WL.e (el_len sl90 hA)<|WL.e e_move<|WL.next<|WP.block<|WP.loopK (fun (x:Nat × UInt32)=>[(18,.int .i64 x.1),(6,.int .u32 x.2.toNat)]) (fun (x:Nat × UInt32)=>cl b1 297 (tblTo crc8 256)::A::R) [(4,_),(5,_),(16,_),(17,_)] (fun (x:Nat × UInt32)=>x.1≤b.length∧x.2=(b.take x.1).foldl crcB (0xffffffff ^^^ s)) (fun (x:Nat × UInt32)=>b.length - x.1) (0,0xffffffff ^^^ s) (⟨by omega,by simp⟩) ?_
  rintro ⟨x,n⟩ ⟨hx1,hx2⟩
  simp only at hx1 hx2
  dsimp only
  refine WP.seq<|WP.reg<|WL.e e_lss<|WL.next<|WP.seq ?_
  refine WP.cond rfl (fun h2=>?_) (fun h2=>?_)
  ·have hlt:x < b.length:=by simp at h2;omega
   obtain ⟨c,hc⟩:∃ c,b[x]?=some c:=⟨b[x],List.getElem?_eq_getElem hlt⟩
   refine WP.skip<|PO.next<|WP.seq<|WP.block<|WP.seq<|WP.reg<|WL.e (el_ia sl90 hA hlt)<|WL.e (el_load0 a5 eB_ok hA hc)<|WL.e e_assign<|WL.next<|WP.reg<|WL.e e_move<|WL.e (e_shr32 (m:=8) (by decide))<|WL.e e_move<|WL.e (e_c32to8 (by rw [Tryz.underlying48];rfl) Tryz.underlying5)<|WL.e e_move<|WL.e e_xor8<|WL.e (e_iaA ar297 (UInt8.toNat_lt _))<|WL.e (e_load a48 rfl (by exact .z) (by rw [Nat.zero_add,Nat.mul_one];exact tblTo_get crc8 (n.toUInt8 ^^^ c)))<|WL.e e_xor32<|WL.e e_assign<|WL.nil<|PO.blockN<|PO.next ?_
   refine WP.reg<|WL.e (e_add rfl rfl (w_i64 (by omega) (by omega)))<|WL.e e_move<|WL.nil ?_
   exact PO.againK (x+1,crcB n c) ⟨by simp only;omega,by simp only;rw [take_snoc hc,List.foldl_append,← hx2];rfl⟩ (by simp only;omega)
  ·have hfin:b.take x=b:=List.take_of_length_le (by simp at h2;omega)
   refine WP.exit<|PO.past nofun<|PO.round nofun<|PO.blockX<|PO.next<|WP.seq<|WP.reg<|WL.e e_move<|WL.e e_not32<|WL.e e_assign<|WL.next<|WP.ret ?_
   exact PO.finE Tryz.results188 (rv_tmp rv_nil) (by simp [sumOn,h,hx2,hfin]) hK
theorem SumOf_spec {g:World} {A:HP} {u:Value} {b:List UInt8} (hA:RL A 1 eB u b) (hb:b.length≤68719476736):Spec Tryz.prog g 189 [u] [A] fun K R=>K (.int .u32 (sumOn 0 b).toNat) (A::R):=by
 refine Spec.intro Tryz.func189 rfl Tryz.ntmps189 rfl fun R K hK=>?_
 refine WP.seq<|WP.reg<|WL.e e_assign<|WL.next<|WP.seq<|WP.reg<|WL.e e_move ?_
 refine WL.h (h_call (On_spec 0 hA hb) k188 ?_)
 refine WL.e e_assign<|WL.next<|WP.ret ?_
 exact PO.fin Tryz.results189 (rv_tmp rv_nil) hK
theorem sectors_spec {g:World} (n:Nat) (hn:n≤4294967296):Spec Tryz.prog g 186 [.int .i64 n] [] fun K R=>K (.int .i64 (secs n)) R:=by
 refine Spec.intro Tryz.func186 rfl Tryz.ntmps186 rfl fun R K hK=>?_
 refine WP.seq<|WP.reg<|WL.e e_assign<|WL.next<|WP.seq<|WP.reg<|WL.e e_move<|WL.e (e_add (c:=((8+n:Nat):Int)) rfl rfl (by rw [w_i64 (by omega) (by omega)];omega))<|WL.e (e_add (c:=((8+n+64:Nat):Int)) rfl rfl (by rw [w_i64 (by omega) (by omega)];omega))<|WL.e (e_sub (c:=((8+n+63:Nat):Int)) rfl rfl (by rw [w_i64 (by omega) (by omega)];omega))<|WL.e (e_quo (c:=((secs n:Nat):Int)) rfl rfl (by decide) (by rw [Int.tdiv_eq_ediv_of_nonneg (by omega),w_i64 (by omega) (by omega)];unfold secs;omega))<|WL.e e_assign<|WL.next<|WP.ret ?_
 exact PO.fin Tryz.results186 (rv_tmp rv_nil) hK
end Go.SL
