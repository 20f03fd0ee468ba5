import Derived.Test.YtmeoolijekillaaGreatDoorQL9
import Derived.Test.YtmeoolijekillaaGreatDoorProg
import Derived.KernelRfl
set_option linter.unusedSimpArgs false
set_option linter.unusedVariables false
namespace Go.SL.Fc
open Go Go.Proofs Go.SL
theorem a113:aggOf Tryz.prog 113=some none:=by kernel_rfl
theorem a132:aggOf Tryz.prog 132=some (some 2):=by kernel_rfl
theorem a35:aggOf Tryz.prog 35=some none:=by kernel_rfl
theorem a9:aggOf Tryz.prog 9=some none:=by kernel_rfl
theorem f115_0:fldOf Tryz.prog 115 0=some 0:=by kernel_rfl
theorem f115_1:fldOf Tryz.prog 115 1=some 1:=by kernel_rfl
theorem f115_2:fldOf Tryz.prog 115 2=some 2:=by kernel_rfl
theorem f115_3:fldOf Tryz.prog 115 3=some 3:=by kernel_rfl
theorem f132_0:fldOf Tryz.prog 132 0=some 0:=by kernel_rfl
theorem f132_1:fldOf Tryz.prog 132 1=some 1:=by kernel_rfl
theorem k108:callable Tryz.prog 108=true:=by kernel_rfl
theorem k170:callable Tryz.prog 170=true:=by kernel_rfl
theorem k171:callable Tryz.prog 171=true:=by kernel_rfl
theorem k277:callable Tryz.prog 277=true:=by kernel_rfl
theorem p132:placesOf Tryz.prog 132=some [(0,1),(1,1)]:=by kernel_rfl
theorem s132:szOf Tryz.prog 132=some 2:=by kernel_rfl
theorem s9:szOf Tryz.prog 9=some 1:=by kernel_rfl
theorem z132:zeroOf Tryz.prog 132=some [.string .empty,.string .empty]:=by kernel_rfl
end Go.SL.Fc
namespace Go.SL
open Go Go.Proofs Fc
theorem In_spec {g:World} (k a b:ByteArray):Spec Tryz.prog g 277 [.string k,.string a,.string b] [] fun K R=>K (.bool (sIn k a b)) R:=by
 refine Spec.intro Tryz.func277 rfl Tryz.ntmps277 rfl fun R K hK=>?_
 refine WP.seq<|WP.reg<|WL.e e_assign<|WL.next<|WP.seq<|WP.reg<|WL.e e_move<|WL.e e_move<|WL.e e_sle<|WL.e e_move ?_
 refine WL.join 14 (.bool (sIn k a b)) (.c (.c (.c (.c .n)))) ?_ ?_
 ·refine WL.bool 10 rfl (fun hg=>?_) (fun hg=>?_)
  ·skip
   refine WL.e e_move<|WL.e e_move<|WL.e e_sle<|WL.e e_pick_t ?_
   exact WL.nil (PO.joined rfl (by simp [sIn,hg]))
  ·skip
   refine WL.skip<|WL.skip<|WL.skip<|WL.e e_pick_f ?_
   exact WL.nil (PO.joined rfl (by simp [sIn,hg]))
 refine WL.e e_assign<|WL.next<|WP.ret ?_
 exact PO.fin Tryz.results277 (rv_tmp rv_nil) hK
theorem Of_spec {g:World} (x:OpM):Spec Tryz.prog g 173 [x.v] [] fun K R=>K (spanOf x).v R:=by
 refine Spec.intro Tryz.func173 rfl Tryz.ntmps173 rfl fun R K hK=>?_
 refine WP.seq<|WP.reg ?_
 refine WL.h (h_box fun b1=>?_)
 refine WL.h (h_alloc z132 fun b2=>?_)
 refine WL.next<|WP.seq<|WP.seq<|WP.reg<|WL.e (e_fa f115_0)<|WL.e (e_load a113)<|WL.e (e_neq8 (b:=4))<|WL.next ?_
 refine WP.cond rfl (fun h=>?_) (fun h=>?_)
 ·replace h:x.kind≠4:=by simpa using h
  refine WP.reg<|WL.e (e_fa f115_1)<|WL.e (e_load a9)<|WL.e (e_fa f115_2) ?_
  refine WL.h' (h_store s9 ?_)
  refine WL.next<|WP.seq<|WP.reg<|WL.e (e_fa f115_1)<|WL.e (e_load a9)<|WL.e (e_fa f115_2)<|WL.e (e_load a9)<|WL.e (e_build z132 p132 (.o (.tmp 10) rfl<|.o (.tmp 12) rfl<|.n)) ?_
  refine WL.h' (h_store s132 ?_)
  refine WL.next<|WP.ret ?_
  exact PO.fin Tryz.results173 (rv_cellN a132 rv_nil) (by simpa [spanOf,h,SpanM.v] using hK)
 ·replace h:x.kind=4:=by simpa using h
  refine WP.skip<|PO.next<|WP.seq<|WP.reg<|WL.e (e_fa f115_1)<|WL.e (e_load a9)<|WL.e (e_fa f115_2)<|WL.e (e_load a9)<|WL.e (e_build z132 p132 (.o (.tmp 10) rfl<|.o (.tmp 12) rfl<|.n)) ?_
  refine WL.h' (h_store s132 ?_)
  refine WL.next<|WP.ret ?_
  exact PO.fin Tryz.results173 (rv_cellN a132 rv_nil) (by simpa [spanOf,h,SpanM.v] using hK)
theorem Meet_spec {g:World} (a b:SpanM):Spec Tryz.prog g 222 [a.v,b.v] [] fun K R=>K (.bool (meet a b)) R:=by
 refine Spec.intro Tryz.func222 rfl Tryz.ntmps222 rfl fun R K hK=>?_
 refine WP.seq<|WP.reg ?_
 refine WL.h (h_box fun b1=>?_)
 refine WL.h (h_box fun b2=>?_)
 refine WL.e e_assign<|WL.next<|WP.seq<|WP.reg<|WL.e (e_fa f132_0)<|WL.e (e_load a9)<|WL.e (e_fa f132_0)<|WL.e (e_load a9)<|WL.e e_maxS<|WL.e e_assign<|WL.next<|WP.seq<|WP.reg<|WL.e e_move<|WL.e (e_fa f132_0)<|WL.e (e_load a9)<|WL.e (e_fa f132_1)<|WL.e (e_load a9) ?_
 refine WL.h (h_call (In_spec _ _ _) k277 ?_)
 refine WL.e e_move ?_
 refine WL.join 24 (.bool (meet a b)) (.c (.c (.c (.c (.c (.c (.c .n))))))) ?_ ?_
 ·refine WL.bool 17 rfl (fun hg=>?_) (fun hg=>?_)
  ·skip
   refine WL.e e_move<|WL.e (e_fa f132_0)<|WL.e (e_load a9)<|WL.e (e_fa f132_1)<|WL.e (e_load a9) ?_
   refine WL.h (h_call (In_spec _ _ _) k277 ?_)
   refine WL.e e_pick_t ?_
   exact WL.nil (PO.joined rfl (by simp [meet,hg]))
  ·skip
   refine WL.skip<|WL.skip<|WL.skip<|WL.skip<|WL.skip<|WL.skip<|WL.e e_pick_f ?_
   exact WL.nil (PO.joined rfl (by simp [meet,hg]))
 refine WL.e e_assign<|WL.next<|WP.ret ?_
 exact PO.fin Tryz.results222 (rv_tmp rv_nil) hK
theorem KeyRune_spec {g:World} (c:Int):Spec Tryz.prog g 171 [.int .i32 c] [] fun K R=>K (.bool (keyRune c)) R:=by
 refine Spec.intro Tryz.func171 rfl Tryz.ntmps171 rfl fun R K hK=>?_
 refine WP.seq<|WP.reg<|WL.e e_assign<|WL.next<|WP.seq<|WP.reg<|WL.e e_move<|WL.e e_geq<|WL.e e_move ?_
 refine WL.bool 5 rfl (fun g1=>?_) (fun g1=>?_)
 ·skip
  refine WL.e e_move<|WL.e e_leq<|WL.e e_pick_t<|WL.e e_move ?_
  refine WL.bool 9 rfl (fun g2=>?_) (fun g2=>?_)
  ·skip
   refine WL.skip<|WL.skip<|WL.skip<|WL.skip<|WL.skip<|WL.skip<|WL.e e_pick_t<|WL.e e_move<|WL.skip<|WL.skip<|WL.e e_pick_t<|WL.e e_assign<|WL.next<|WP.ret ?_
   exact PO.finE Tryz.results171 (rv_tmp rv_nil) (by simp_all [keyRune] <;> (intros;omega)) hK
  ·skip
   refine WL.e e_move<|WL.e e_geq<|WL.e e_move ?_
   refine WL.bool 12 rfl (fun g3=>?_) (fun g3=>?_)
   ·skip
    refine WL.e e_move<|WL.e e_leq<|WL.e e_pick_t<|WL.e e_pick_f<|WL.e e_move ?_
    refine WL.bool 17 rfl (fun g4=>?_) (fun g4=>?_)
    ·skip
     refine WL.skip<|WL.skip<|WL.e e_pick_t<|WL.e e_assign<|WL.next<|WP.ret ?_
     exact PO.finE Tryz.results171 (rv_tmp rv_nil) (by simp_all [keyRune] <;> (intros;omega)) hK
    ·skip
     refine WL.e e_move<|WL.e e_eql<|WL.e e_pick_f<|WL.e e_assign<|WL.next<|WP.ret ?_
     exact PO.finE Tryz.results171 (rv_tmp rv_nil) (by simp_all [keyRune] <;> (intros;omega)) hK
   ·skip
    refine WL.skip<|WL.skip<|WL.e e_pick_f<|WL.e e_pick_f<|WL.e e_move<|WL.e e_move<|WL.e e_eql<|WL.e e_pick_f<|WL.e e_assign<|WL.next<|WP.ret ?_
    exact PO.finE Tryz.results171 (rv_tmp rv_nil) (by simp_all [keyRune] <;> (intros;omega)) hK
 ·skip
  refine WL.skip<|WL.skip<|WL.e e_pick_f<|WL.e e_move<|WL.e e_move<|WL.e e_geq<|WL.e e_move ?_
  refine WL.bool 12 rfl (fun g5=>?_) (fun g5=>?_)
  ·skip
   refine WL.e e_move<|WL.e e_leq<|WL.e e_pick_t<|WL.e e_pick_f<|WL.e e_move ?_
   refine WL.bool 17 rfl (fun g6=>?_) (fun g6=>?_)
   ·skip
    refine WL.skip<|WL.skip<|WL.e e_pick_t<|WL.e e_assign<|WL.next<|WP.ret ?_
    exact PO.finE Tryz.results171 (rv_tmp rv_nil) (by simp_all [keyRune] <;> (intros;omega)) hK
   ·skip
    refine WL.e e_move<|WL.e e_eql<|WL.e e_pick_f<|WL.e e_assign<|WL.next<|WP.ret ?_
    exact PO.finE Tryz.results171 (rv_tmp rv_nil) (by simp_all [keyRune] <;> (intros;omega)) hK
  ·skip
   refine WL.skip<|WL.skip<|WL.e e_pick_f<|WL.e e_pick_f<|WL.e e_move<|WL.e e_move<|WL.e e_eql<|WL.e e_pick_f<|WL.e e_assign<|WL.next<|WP.ret ?_
   exact PO.finE Tryz.results171 (rv_tmp rv_nil) (by simp_all [keyRune] <;> (intros;omega)) hK
theorem all_spec {g:World} (s:ByteArray) {y:Value} {p:Int→Bool} (hy:∀ c,CallV Tryz.prog g y [.int .i32 c] [] fun K R=>K (.bool (p c)) R):Spec Tryz.prog g 170 [.string s,y] [] fun K R=>K (.bool (allR p s)) R:=by
 refine Spec.intro Tryz.func170 rfl Tryz.ntmps170 rfl fun R K hK=>?_
 refine WP.seq<|WP.reg<|WL.e e_assign<|WL.next<|WP.seq<|WP.seq<|WP.reg<|WL.e e_move ?_
 refine WL.h (h_range_str Tryz.underlying9 fun i=>?_)
 refine WL.next<|WP.block<|WP.loopK (fun (x:Nat × Nat)=>[]) (fun (x:Nat × Nat)=>pt i (.stringIter s x.2)::R) [(1,_),(8,_)] (fun (x:Nat × Nat)=>s.size≤x.2+x.1∧allFrom p s x.1 x.2=allR p s) (fun (x:Nat × Nat)=>x.1) (s.size,0) (⟨by simp,rfl⟩) ?_
 rintro ⟨k,q⟩ ⟨hx1,hx2⟩
 simp only at hx1 hx2
 refine WP.seq<|WP.reg ?_
 refine WL.h (h_next_str (fun h=>?_) (fun h=>?_))
 ·skip
  refine WL.e e_extract<|WL.next<|WP.seq<|WP.cond_f rfl<|WP.exit<|PO.past nofun<|PO.round nofun<|PO.blockX<|PO.next<|WP.seq<|WP.reg<|WL.e e_assign<|WL.next<|WP.ret ?_
  exact PO.finE Tryz.results170 (rv_tmp rv_nil) (by rw [← hx2];cases k <;> simp [allFrom,h]) hK
 ·have hk:k=(k - 1)+1:=by omega
  have hx3:p (Utf8.decode s q).1=true→allFrom p s (k - 1) (q+(Utf8.decode s q).2)=allR p s:=by rw [hk] at hx2;simp only [allFrom,h,if_true] at hx2;intro e;simpa [e] using hx2
  refine WL.e e_extract<|WL.next<|WP.seq<|WP.cond_t rfl<|WP.skip<|PO.next<|WP.block<|WP.seq<|WP.reg<|WL.e e_extract<|WL.e e_assign<|WL.next<|WP.seq<|WP.reg<|WL.e e_move<|WL.e e_move ?_
  refine WL.h (h_cally (hy _) ?_)
  refine WL.e e_not<|WL.next ?_
  refine WP.cond rfl (fun hc=>?_) (fun hc=>?_)
  ·skip
   refine WP.seq<|WP.reg<|WL.e e_assign<|WL.next<|WP.ret<|PO.blockR<|PO.round nofun<|PO.blockR<|PO.past nofun ?_
   exact PO.finE Tryz.results170 (rv_tmp rv_nil) (by rw [← hx2,hk];simp at hc;simp [allFrom,h,hc]) hK
  ·replace hc:p (Utf8.decode s q).1=true:=by simpa using hc
   refine WP.skip<|PO.blockN ?_
   exact PO.againK (k - 1,q+(Utf8.decode s q).2) ⟨by have:=width_pos s q h;omega,hx3 hc⟩ (by omega)
theorem Check_spec {g:World} (k:ByteArray):Spec Tryz.prog g 108 [.string k] [] fun K R=>K (.bool (keyOk k)) R:=by
 refine Spec.intro Tryz.func108 rfl Tryz.ntmps108 rfl fun R K hK=>?_
 refine WP.seq<|WP.reg<|WL.e e_assign<|WL.next<|WP.seq<|WP.reg<|WL.e e_move<|WL.e e_sne<|WL.e e_move ?_
 refine WL.bool 5 rfl (fun g1=>?_) (fun g1=>?_)
 ·skip
  refine WL.e e_move<|WL.e (e_len_str Tryz.underlying9)<|WL.e e_leq<|WL.e e_pick_t<|WL.e e_move ?_
  refine WL.bool 10 rfl (fun g2=>?_) (fun g2=>?_)
  ·skip
   refine WL.e e_move ?_
   refine WL.h (h_call (all_spec _ (p:=keyRune) fun c=>CallV.of_spec (fs:=[]) (cs:=[]) (KeyRune_spec c) k171) k170 ?_)
   refine WL.e e_pick_t<|WL.e e_assign<|WL.next<|WP.ret ?_
   exact PO.finE Tryz.results108 (rv_tmp rv_nil) (by simp_all [keyOk] <;> (intros;omega)) hK
  ·skip
   refine WL.skip<|WL.skip<|WL.e e_pick_f<|WL.e e_assign<|WL.next<|WP.ret ?_
   exact PO.finE Tryz.results108 (rv_tmp rv_nil) (by simp_all [keyOk] <;> (intros;omega)) hK
 ·skip
  refine WL.skip<|WL.skip<|WL.skip<|WL.e e_pick_f<|WL.e e_move<|WL.skip<|WL.skip<|WL.e e_pick_f<|WL.e e_assign<|WL.next<|WP.ret ?_
  exact PO.finE Tryz.results108 (rv_tmp rv_nil) (by simp_all [keyOk] <;> (intros;omega)) hK
theorem opCheck_spec {g:World} (x:OpM):Spec Tryz.prog g 56 [x.v] [] fun K R=>K (.bool (opOk x)) R:=by
 refine Spec.intro Tryz.func56 rfl Tryz.ntmps56 rfl fun R K hK=>?_
 refine WP.seq<|WP.reg ?_
 refine WL.h (h_box fun b1=>?_)
 refine WL.e e_assign<|WL.next<|WP.seq<|WP.reg<|WL.e (e_fa f115_2)<|WL.e (e_load a9)<|WL.e e_seq<|WL.e e_assign<|WL.next<|WP.seq<|WP.seq<|WP.reg<|WL.e (e_fa f115_0)<|WL.e (e_load a113)<|WL.e (e_eql8 (b:=4))<|WL.next ?_
 refine WP.cond rfl (fun g1=>?_) (fun g1=>?_)
 ·skip
  refine WP.reg<|WL.e (e_fa f115_2)<|WL.e (e_load a9) ?_
  refine WL.h (h_call (Check_spec _) k108 ?_)
  refine WL.e e_assign<|WL.next<|WP.seq<|WP.reg<|WL.e (e_fa f115_0)<|WL.e (e_load a113)<|WL.e e_geq<|WL.e e_move ?_
  refine WL.bool 16 rfl (fun g2=>?_) (fun g2=>?_)
  ·skip
   refine WL.e (e_fa f115_0)<|WL.e (e_load a113)<|WL.e e_leq<|WL.e e_pick_t<|WL.e e_move ?_
   refine WL.bool 21 rfl (fun g3=>?_) (fun g3=>?_)
   ·skip
    refine WL.e (e_fa f115_1)<|WL.e (e_load a9) ?_
    refine WL.h (h_call (Check_spec _) k108 ?_)
    refine WL.e e_pick_t<|WL.e e_move ?_
    refine WL.bool 26 rfl (fun g4=>?_) (fun g4=>?_)
    ·skip
     refine WL.e e_move<|WL.e e_pick_t<|WL.e e_move ?_
     refine WL.bool 29 rfl (fun g5=>?_) (fun g5=>?_)
     ·skip
      refine WL.e (e_fa f115_3)<|WL.e (e_load a35)<|WL.e (e_eql32 (b:=0))<|WL.e e_move ?_
      refine WL.bool 33 rfl (fun g6=>?_) (fun g6=>?_)
      ·skip
       refine WL.skip<|WL.skip<|WL.skip<|WL.e e_pick_t<|WL.e e_pick_t<|WL.e e_assign<|WL.next<|WP.ret ?_
       exact PO.finE Tryz.results56 (rv_tmp rv_nil) (by simp_all [opOk] <;> (intros;omega)) hK
      ·skip
       refine WL.e (e_fa f115_0)<|WL.e (e_load a113)<|WL.e (e_eql8 (b:=2))<|WL.e e_pick_f<|WL.e e_pick_t<|WL.e e_assign<|WL.next<|WP.ret ?_
       exact PO.finE Tryz.results56 (rv_tmp rv_nil) (by simp_all [opOk] <;> (intros;omega)) hK
     ·skip
      refine WL.skip<|WL.skip<|WL.skip<|WL.skip<|WL.skip<|WL.skip<|WL.skip<|WL.skip<|WL.e e_pick_f<|WL.e e_assign<|WL.next<|WP.ret ?_
      exact PO.finE Tryz.results56 (rv_tmp rv_nil) (by simp_all [opOk] <;> (intros;omega)) hK
    ·skip
     refine WL.skip<|WL.e e_pick_f<|WL.e e_move<|WL.skip<|WL.skip<|WL.skip<|WL.skip<|WL.skip<|WL.skip<|WL.skip<|WL.skip<|WL.e e_pick_f<|WL.e e_assign<|WL.next<|WP.ret ?_
     exact PO.finE Tryz.results56 (rv_tmp rv_nil) (by simp_all [opOk] <;> (intros;omega)) hK
   ·skip
    refine WL.skip<|WL.skip<|WL.skip<|WL.e e_pick_f<|WL.e e_move<|WL.skip<|WL.e e_pick_f<|WL.e e_move<|WL.skip<|WL.skip<|WL.skip<|WL.skip<|WL.skip<|WL.skip<|WL.skip<|WL.skip<|WL.e e_pick_f<|WL.e e_assign<|WL.next<|WP.ret ?_
    exact PO.finE Tryz.results56 (rv_tmp rv_nil) (by simp_all [opOk] <;> (intros;omega)) hK
  ·skip
   refine WL.skip<|WL.skip<|WL.skip<|WL.e e_pick_f<|WL.e e_move<|WL.skip<|WL.skip<|WL.skip<|WL.e e_pick_f<|WL.e e_move<|WL.skip<|WL.e e_pick_f<|WL.e e_move<|WL.skip<|WL.skip<|WL.skip<|WL.skip<|WL.skip<|WL.skip<|WL.skip<|WL.skip<|WL.e e_pick_f<|WL.e e_assign<|WL.next ?_
   refine WP.ret ?_
   exact PO.finE Tryz.results56 (rv_tmp rv_nil) (by simp_all [opOk] <;> (intros;omega)) hK
 ·skip
  refine WP.skip<|PO.next<|WP.seq<|WP.reg<|WL.e (e_fa f115_0)<|WL.e (e_load a113)<|WL.e e_geq<|WL.e e_move ?_
  refine WL.bool 16 rfl (fun g7=>?_) (fun g7=>?_)
  ·skip
   refine WL.e (e_fa f115_0)<|WL.e (e_load a113)<|WL.e e_leq<|WL.e e_pick_t<|WL.e e_move ?_
   refine WL.bool 21 rfl (fun g8=>?_) (fun g8=>?_)
   ·skip
    refine WL.e (e_fa f115_1)<|WL.e (e_load a9) ?_
    refine WL.h (h_call (Check_spec _) k108 ?_)
    refine WL.e e_pick_t<|WL.e e_move ?_
    refine WL.bool 26 rfl (fun g9=>?_) (fun g9=>?_)
    ·skip
     refine WL.e e_move<|WL.e e_pick_t<|WL.e e_move ?_
     refine WL.bool 29 rfl (fun g10=>?_) (fun g10=>?_)
     ·skip
      refine WL.e (e_fa f115_3)<|WL.e (e_load a35)<|WL.e (e_eql32 (b:=0))<|WL.e e_move ?_
      refine WL.bool 33 rfl (fun g11=>?_) (fun g11=>?_)
      ·skip
       refine WL.skip<|WL.skip<|WL.skip<|WL.e e_pick_t<|WL.e e_pick_t<|WL.e e_assign<|WL.next<|WP.ret ?_
       exact PO.finE Tryz.results56 (rv_tmp rv_nil) (by simp_all [opOk] <;> (intros;omega)) hK
      ·skip
       refine WL.e (e_fa f115_0)<|WL.e (e_load a113)<|WL.e (e_eql8 (b:=2))<|WL.e e_pick_f<|WL.e e_pick_t<|WL.e e_assign<|WL.next<|WP.ret ?_
       exact PO.finE Tryz.results56 (rv_tmp rv_nil) (by simp_all [opOk] <;> (intros;omega)) hK
     ·skip
      refine WL.skip<|WL.skip<|WL.skip<|WL.skip<|WL.skip<|WL.skip<|WL.skip<|WL.skip<|WL.e e_pick_f<|WL.e e_assign<|WL.next<|WP.ret ?_
      exact PO.finE Tryz.results56 (rv_tmp rv_nil) (by simp_all [opOk] <;> (intros;omega)) hK
    ·skip
     refine WL.skip<|WL.e e_pick_f<|WL.e e_move<|WL.skip<|WL.skip<|WL.skip<|WL.skip<|WL.skip<|WL.skip<|WL.skip<|WL.skip<|WL.e e_pick_f<|WL.e e_assign<|WL.next<|WP.ret ?_
     exact PO.finE Tryz.results56 (rv_tmp rv_nil) (by simp_all [opOk] <;> (intros;omega)) hK
   ·skip
    refine WL.skip<|WL.skip<|WL.skip<|WL.e e_pick_f<|WL.e e_move<|WL.skip<|WL.e e_pick_f<|WL.e e_move<|WL.skip<|WL.skip<|WL.skip<|WL.skip<|WL.skip<|WL.skip<|WL.skip<|WL.skip<|WL.e e_pick_f<|WL.e e_assign<|WL.next<|WP.ret ?_
    exact PO.finE Tryz.results56 (rv_tmp rv_nil) (by simp_all [opOk] <;> (intros;omega)) hK
  ·skip
   refine WL.skip<|WL.skip<|WL.skip<|WL.e e_pick_f<|WL.e e_move<|WL.skip<|WL.skip<|WL.skip<|WL.e e_pick_f<|WL.e e_move<|WL.skip<|WL.e e_pick_f<|WL.e e_move<|WL.skip<|WL.skip<|WL.skip<|WL.skip<|WL.skip<|WL.skip<|WL.skip<|WL.skip<|WL.e e_pick_f<|WL.e e_assign<|WL.next ?_
   refine WP.ret ?_
   exact PO.finE Tryz.results56 (rv_tmp rv_nil) (by simp_all [opOk] <;> (intros;omega)) hK
end Go.SL
set_option linter.unusedSectionVars false
namespace Go.SL
open Go
def numB (n:UInt32):Nat→List UInt8
  | 0=>[]
  | k+1=>UInt8.ofNat (n.toNat / 2 ^ (8 * k))::numB n k
theorem numB_len (n:UInt32):∀ k,(numB n k).length=k
  | 0=>rfl
  | k+1=>by simp [numB,numB_len n k]
def textB (s:ByteArray):List UInt8:=UInt8.ofNat s.size::bytesOf s
theorem bytesOf_len (s:ByteArray):(bytesOf s).length=s.size:=rfl
def chgB (c:ChgM):List UInt8:=textB c.key++[if c.gone then 1 else 0]++numB c.val 4
def chgsB (l:List ChgM):List UInt8:=numB (UInt32.ofNat l.length) 2++l.flatMap chgB
end Go.SL
namespace Go.SL.Fc
open Go Go.Proofs Go.SL
theorem a4:aggOf Tryz.prog 4=some none:=by kernel_rfl
theorem mixedOk:Tryz.prog.follows .mixedOrders=true:=by kernel_rfl
theorem sl34:slOf Tryz.prog 34=some (5,1,1):=by kernel_rfl
theorem z5:zeroOf Tryz.prog 5=some [.int .u8 0]:=by kernel_rfl
end Go.SL.Fc
namespace Go.SL
open Go Go.Proofs Fc
end Go.SL
namespace Go.SL
open Go
theorem bv32 (a:UInt32):BitVec.ofInt IntKind.u32.bits (a.toNat:Int)=a.toBitVec:=by
  show BitVec.ofInt 32 _=_
  apply BitVec.eq_of_toNat_eq;simp
theorem bv8 (a:UInt8):BitVec.ofInt IntKind.u8.bits (a.toNat:Int)=a.toBitVec:=by
  show BitVec.ofInt 8 _=_
  apply BitVec.eq_of_toNat_eq;simp
theorem back32 (x:BitVec 32):IntKind.u32.wrap (x.toNat:Int)=((⟨x⟩:UInt32).toNat:Int):=by
  rw [wu32];congr 1;show (UInt32.ofNat x.toNat).toNat=x.toNat;simp
theorem back8 (x:BitVec 8):IntKind.u8.wrap (x.toNat:Int)=((⟨x⟩:UInt8).toNat:Int):=by
  rw [wu8];congr 1;show (UInt8.ofNat x.toNat).toNat=x.toNat;simp
theorem band32 (a b:UInt32):bits .and .u32 (a.toNat:Int) (b.toNat:Int)=((a &&& b).toNat:Int):=by unfold bits;simp only [bv32];exact back32 _
theorem bor32 (a b:UInt32):bits .or .u32 (a.toNat:Int) (b.toNat:Int)=((a ||| b).toNat:Int):=by unfold bits;simp only [bv32];exact back32 _
theorem bxor32 (a b:UInt32):bits .xor .u32 (a.toNat:Int) (b.toNat:Int)=((a ^^^ b).toNat:Int):=by unfold bits;simp only [bv32];exact back32 _
theorem bxor8 (a b:UInt8):bits .xor .u8 (a.toNat:Int) (b.toNat:Int)=((a ^^^ b).toNat:Int):=by unfold bits;simp only [bv8];exact back8 _
section
variable {P : Program} {r : Option Nat} {g : World} {Γ : Env} {L M : List HP} {Q : Post} {dst : Option Tmp} {t : TypeId} {pos : String} {aft : Array Edge} {gd : Option (Nat × Bool)}
section
variable {xt yt ot : TypeId} {x y : Operand} {a b : UInt32} {p q : UInt8}
theorem e_and32 (hx:ev Γ x=some (.int .u32 a.toNat):=by rfl) (hy:ev Γ y=some (.int .u32 b.toNat):=by rfl):EO P g ⟨dst,.binOp .and xt x y yt,t,pos,aft,gd⟩ Γ L (.int .u32 (a &&& b).toNat):=e_bits (by simp) hx hy (band32 a b)
theorem e_or32 (hx:ev Γ x=some (.int .u32 a.toNat):=by rfl) (hy:ev Γ y=some (.int .u32 b.toNat):=by rfl):EO P g ⟨dst,.binOp .or xt x y yt,t,pos,aft,gd⟩ Γ L (.int .u32 (a ||| b).toNat):=e_bits (by simp) hx hy (bor32 a b)
theorem e_xor32 (hx:ev Γ x=some (.int .u32 a.toNat):=by rfl) (hy:ev Γ y=some (.int .u32 b.toNat):=by rfl):EO P g ⟨dst,.binOp .xor xt x y yt,t,pos,aft,gd⟩ Γ L (.int .u32 (a ^^^ b).toNat):=e_bits (by simp) hx hy (bxor32 a b)
theorem e_xor8 (hx:ev Γ x=some (.int .u8 p.toNat):=by rfl) (hy:ev Γ y=some (.int .u8 q.toNat):=by rfl):EO P g ⟨dst,.binOp .xor xt x y yt,t,pos,aft,gd⟩ Γ L (.int .u8 (p ^^^ q).toNat):=e_bits (by simp) hx hy (bxor8 p q)
theorem e_not32 (hx:ev Γ x=some (.int .u32 a.toNat):=by rfl):EO P g ⟨dst,.unOp .xor ot x,t,pos,aft,gd⟩ Γ L (.int .u32 (0xffffffff ^^^ a).toNat):=
  .of (by simp) fun ρ hρ w _=>by
    have:=bxor32 0xffffffff a
    simp only [execOp,hρ x _ (by simp [Op.operands]) hx,Op.unary]
    rw [show (if IntKind.u32.signed=true then (-1:Int) else IntKind.u32.max)=((0xffffffff:UInt32).toNat:Int) from rfl,intBits_xor,this];rfl
theorem e_neg32 (hx:ev Γ x=some (.int .u32 a.toNat):=by rfl):EO P g ⟨dst,.unOp .neg ot x,t,pos,aft,gd⟩ Γ L (.int .u32 (0 - a).toNat):=
  .of (by simp) fun ρ hρ w _=>by
    have h:IntKind.u32.wrap (0 - (a.toNat:Int))=((0 - a).toNat:Int):=by
      rw [UInt32.toNat_sub];simp [IntKind.wrap,IntKind.bits,IntKind.signed];have:=a.toNat_lt;omega
    simp only [execOp,hρ x _ (by simp [Op.operands]) hx,Op.unary]
    show ((do pure (Next.value (← Op.intArith .sub .u32 0 a.toNat)):Sem Next)).run P w=_
    simp only [Op.intArith,h];rfl
theorem e_shr32 {k':IntKind} {m:UInt32} (hm:m.toNat < 32) (hx:ev Γ x=some (.int .u32 a.toNat):=by rfl) (hy:ev Γ y=some (.int k' m.toNat):=by rfl):EO P g ⟨dst,.binOp .shr xt x y yt,t,pos,aft,gd⟩ Γ L (.int .u32 (a >>> m).toNat):=
  e_shr hx hy (by omega) (by simp [IntKind.bits];omega) (by rw [UInt32.toNat_shiftRight,Nat.mod_eq_of_lt hm,Nat.shiftRight_eq_div_pow];simp)
theorem e_shl32 {k':IntKind} {m:UInt32} (hm:m.toNat < 32) (hx:ev Γ x=some (.int .u32 a.toNat):=by rfl) (hy:ev Γ y=some (.int k' m.toNat):=by rfl):EO P g ⟨dst,.binOp .shl xt x y yt,t,pos,aft,gd⟩ Γ L (.int .u32 (a <<< m).toNat):=
  e_shl hx hy (by omega) (by simp [IntKind.bits];omega) (by
    rw [UInt32.toNat_shiftLeft,Nat.mod_eq_of_lt hm,Nat.shiftLeft_eq];simp [IntKind.wrap,IntKind.bits,IntKind.signed])
theorem e_c32to8 {s d:TypeId} (hs:(P.underlying s).isSome=true) (hd:P.underlying d=some (.int .u8)) (hx:ev Γ x=some (.int .u32 a.toNat):=by rfl):EO P g ⟨dst,.convert s d x,t,pos,aft,gd⟩ Γ L (.int .u8 a.toUInt8.toNat):=
  e_conv hs hd hx (by rw [wu8];simp)
theorem e_c8to32 {s d:TypeId} (hs:(P.underlying s).isSome=true) (hd:P.underlying d=some (.int .u32)) (hx:ev Γ x=some (.int .u8 p.toNat):=by rfl):EO P g ⟨dst,.convert s d x,t,pos,aft,gd⟩ Γ L (.int .u32 p.toUInt32.toNat):=
  e_conv hs hd hx (by rw [wu32];simp)
end
theorem ext_all:∀ (l:List Value),Ext l 0 l.length l
  | []=>.done rfl
  | a::l=>.here rfl rfl (ext_all l)
theorem rv_cellW {p b n:Nat} {u bt:TypeId} {l:List Value} {M:List HP} {rs:List ResultVar} {vs:List Value} (ht:aggOf P u=some (some n)) (hn:l.length=n) (h:RV P g Γ L rs vs) (hx:look Γ.l p=some (.pointer (some ⟨b,0,none⟩)):=by rfl)
    (hp:Pick L (cl b bt l) M:=by repeat first | exact .z | apply Pick.s):RV P g Γ L (.cell p u::rs) (.agg l.toArray::vs):=by
  subst hn;exact rv_cellN ht h hx hp (ext_all l)
theorem e_loadW {x:Operand} {u b n:Nat} {bt:TypeId} {l:List Value} {M:List HP} (ht:aggOf P u=some (some n)) (hn:l.length=n) (hx:ev Γ x=some (.pointer (some ⟨b,0,none⟩)):=by rfl) (hp:Pick L (cl b bt l) M:=by repeat first | exact .z | apply Pick.s) :
    EO P g ⟨dst,.load u x,t,pos,aft,gd⟩ Γ L (.agg l.toArray):=by
  subst hn;exact e_loadN ht hx hp (ext_all l)
theorem spl_all:∀ (l zs:List Value),zs.length=l.length→Spl l 0 zs zs
  | [],[],_=>.done
  | a::l,z::zs,h=>.here rfl (spl_all l zs (by simpa using h))
theorem h_storeW {T U:TypeId} {x y:Operand} {b n:Nat} {l zs:List Value} {M:List HP} {v:Value} {K:Value→List HP→Prop} (hT:szOf P T=some n) (hn:zs.length=n) (hl:l.length=n) (h1:ones zs=true) (hK:K (.tuple #[]) M)
    (hx:ev Γ x=some (.pointer (some ⟨b,0,none⟩)):=by rfl) (hy:ev Γ y=some v:=by rfl) (hz:v.cells=zs.toArray:=by rfl) (hp:Put L (cl b U l) (cl b U zs) M:=by repeat first | exact .z | apply Put.s) :
    HO P r g ⟨dst,.store T x y,t,pos,aft,gd⟩ Γ L K:=by
  obtain ⟨R,p1,_⟩:=hp.picks
  exact h_store hT hK hx hy hz p1 (spl_all l zs (by omega)) hp hn h1
theorem h_store1 {T U:TypeId} {x y:Operand} {b o:Nat} {l:List Value} {M:List HP} {v:Value} {K:Value→List HP→Prop} (hT:szOf P T=some 1) (ho:o < l.length) (h1:v.oneCell'=true) (hK:K (.tuple #[]) M)
    (hx:ev Γ x=some (.pointer (some ⟨b,o,none⟩)):=by rfl) (hy:ev Γ y=some v:=by rfl) (hz:v.cells=#[v]:=by rfl) (hp:Put L (cl b U l) (cl b U (l.set o v)) M:=by repeat first | exact .z | apply Put.s) :
    HO P r g ⟨dst,.store T x y,t,pos,aft,gd⟩ Γ L K:=
  HO.run_skip (by simp) fun a w ha hw=>by
    obtain ⟨R,p1,_⟩:=hp.picks
    obtain ⟨w',hr,a1,a2,a3,a4,a5,a6⟩:=run_storeVar (P:=P) (T:=T) (o:=o) (v:=v) (zs:=[v]) hT hz rfl (hw.get p1) (.inl (by simp;omega)) (by simpa using h1)
    refine ⟨M,w',?_,hK,hw.set hp w' a1 a2 a3 a4 a5 a6⟩
    simp [execOp,ev_ok hx ha,ev_ok hy ha,Instr.storeAt,Instr.sureAddr,hr]
theorem hl_make {α:Type} {T E z y n:Nat} {xl xc:Operand} {k k':IntKind} {zs:List Value} {enc:α→List Value} (a:α) {K:Value→List HP→Prop} (hs:slOf P T=some (E,z,y)) (hz:zeroOf P E=some zs) (hb:n≤68719476736) (hK:∀ a' m c,K (.slice a' m c) (Sl E z enc (.slice a' m c) (List.replicate n a)::L)) (hzz:zs.length=z:=by rfl) (hy:y≤512:=by decide) (ha:enc a=zs:=by rfl)
    (hl:ev Γ xl=some (.int k n):=by rfl) (hc:ev Γ xc=some (.int k' n):=by rfl):HO P r g ⟨dst,.makeSlice T xl xc,t,pos,aft,gd⟩ Γ L K:=
  h_make hs hz hzz hl hc (Nat.le_refl _) hb hy fun a' m c=>by
    have:=hK a' m c
    unfold Sl at this
    rw [List.length_replicate] at this
    rw [show (List.replicate n zs).flatten=(List.replicate n a).flatMap enc by rw [← ha];simp [List.flatMap]]
    exact this
theorem hl_set {T E y z f j:Nat} {x v:Operand} {u b:Value} {cs:List Value} {n:Nat} {N:List HP} {K:Value→List HP→Prop} (hT:szOf P T=some 1) (hf:f < n * z) (hK:K (.tuple #[]) N) (h1:b.oneCell'=true) (hx:ev Γ x=some (elA u f):=by rfl) (hv:ev Γ v=some b:=by rfl) (hb:b.cells=#[b]:=by rfl)
    (hp:Put L (Own E z u n cs) (Own E z u n (splice cs f [b])) N:=by repeat first | exact .z | apply Put.s):HO P r g ⟨dst,.store T x v,t,pos,aft,gd⟩ Γ L K:=
  h_store_own (E:=E) (cs:=cs) (zs:=[b]) hT hx hv hb rfl (by decide) (by simpa [ones] using h1) (n:=n) (z:=z) (by omega) hp hK
end
end Go.SL
namespace Go.SL
open Go
def crc1 (n:UInt32):UInt32:=(n >>> 1) ^^^ (3988292384 &&& (0 - (n &&& 1)))
def crcN:Nat→UInt32→UInt32
  | 0,n=>n
  | k+1,n=>crcN k (crc1 n)
def crc8 (n:UInt32):UInt32:=crcN 8 n
def crcB (n:UInt32) (c:UInt8):UInt32:=(n >>> 8) ^^^ crc8 (UInt32.ofNat (n.toUInt8 ^^^ c).toNat)
def sumOn (s:UInt32) (b:List UInt8):UInt32:=if b.length=0 then s else 0xffffffff ^^^ (b.foldl crcB (0xffffffff ^^^ s))
def tblTo (f:UInt32→UInt32) (x:Nat):List Value:=(List.range 256).map fun i=>if i < x then .int .u32 (f (UInt32.ofNat i)).toNat else .int .u32 0
theorem tblTo_len (f:UInt32→UInt32) (x:Nat):(tblTo f x).length=256:=by simp [tblTo]
theorem tblTo_ones (f:UInt32→UInt32) (x:Nat):ones (tblTo f x)=true:=by
  unfold tblTo
  generalize List.range 256=l
  induction l with
  | nil=>rfl
  | cons a l ih=>simp only [List.map_cons,ones,ih,Bool.and_true];split <;> rfl
theorem tblTo_zero (f:UInt32→UInt32):tblTo f 0=List.replicate 256 (.int .u32 0):=by
  unfold tblTo;simp only [Nat.not_lt_zero,if_false,List.map_const',List.length_range]
theorem tblTo_set (f:UInt32→UInt32) (x:Nat) (h:x < 256):(tblTo f x).set x (.int .u32 (f (UInt32.ofNat x)).toNat)=tblTo f (x+1):=by
  apply List.ext_getElem?
  intro i
  rw [List.getElem?_set]
  simp only [tblTo,List.getElem?_map,List.length_map,List.length_range]
  by_cases e:x=i
  · subst e;simp [h]
  · rw [if_neg e]
    rcases Nat.lt_or_ge i 256 with h' | h'
    · rw [List.getElem?_range h'];simp [show i < x↔i < x+1 by omega]
    · rw [List.getElem?_eq_none (by simpa using h')];rfl
theorem tblTo_get (f:UInt32→UInt32) (c:UInt8):(tblTo f 256)[c.toNat]?=some (.int .u32 (f (UInt32.ofNat c.toNat)).toNat):=by
  have:=c.toNat_lt
  simp [tblTo]
  exact ⟨c.toNat,by rw [List.getElem?_range (by omega)],by simp;intro h;omega⟩
attribute [irreducible] tblTo
def secs (n:Nat):Nat:=(8+n+63) / 64
def frame (b:List UInt8):List UInt8:=numB (UInt32.ofNat b.length) 4++numB (sumOn (sumOn 0 (numB (UInt32.ofNat b.length) 4)) b) 4++b++List.replicate (secs b.length * 64 - 8 - b.length) 0
end Go.SL
namespace Go.SL.Fc
open Go Go.Proofs Go.SL
theorem a453:aggOf Tryz.prog 453=some (some 256):=by kernel_rfl
theorem a5:aggOf Tryz.prog 5=some none:=by kernel_rfl
theorem ar453:arrOf Tryz.prog 453=some (35,256,1):=by kernel_rfl
theorem k306:callable Tryz.prog 306=true:=by kernel_rfl
theorem k326:callable Tryz.prog 326=true:=by kernel_rfl
theorem k327:callable Tryz.prog 327=true:=by kernel_rfl
theorem s35:szOf Tryz.prog 35=some 1:=by kernel_rfl
theorem s453:szOf Tryz.prog 453=some 256:=by kernel_rfl
theorem z453:zeroOf Tryz.prog 453=some (List.replicate 256 (.int .u32 0)):=by kernel_rfl
end Go.SL.Fc
namespace Go.SL
open Go Go.Proofs Fc
theorem step_spec {g:World} (n:UInt32):Spec Tryz.prog g 327 [.int .u32 n.toNat] [] fun K R=>K (.int .u32 (crc8 n).toNat) R:=by
 refine Spec.intro Tryz.func327 rfl Tryz.ntmps327 rfl fun R K hK=>?_
 refine WP.seq<|WP.reg<|WL.e e_assign<|WL.next<|WP.seq<|WP.seq<|WP.reg<|WL.e e_move<|WL.next<|WP.block<|WP.loopK (fun (x:UInt32 × Nat)=>[(0,.int .u32 x.1.toNat),(3,.int .i64 x.2)]) (fun (x:UInt32 × Nat)=>R) [(2,_)] (fun (x:UInt32 × Nat)=>x.2≤8∧crcN (8 - x.2) x.1=crc8 n) (fun (x:UInt32 × Nat)=>8 - x.2) (n,0) (⟨by omega,rfl⟩) ?_
 rintro ⟨m,i⟩ ⟨hx1,hx2⟩
 simp only at hx1 hx2
 dsimp only
 refine WP.seq<|WP.reg<|WL.e e_lss<|WL.next<|WP.seq ?_
 refine WP.cond rfl (fun h=>?_) (fun h=>?_)
 ·have hlt:i < 8:=by simp at h;omega
  refine WP.skip<|PO.next<|WP.seq<|WP.block<|WP.reg<|WL.e e_move<|WL.e (e_shr32 (m:=1) (by decide))<|WL.e e_move<|WL.e (e_and32 (b:=1))<|WL.e e_neg32<|WL.e (e_and32 (a:=3988292384))<|WL.e e_xor32<|WL.e e_assign<|WL.nil<|PO.blockN<|PO.next<|WP.reg<|WL.e (e_add rfl rfl (w_i64 (by omega) (by omega)))<|WL.e e_move<|WL.nil ?_
  exact PO.againK (crc1 m,i+1) ⟨by simp only;omega,by rw [← hx2,show 8 - i=8 - (i+1)+1 by omega];rfl⟩ (by simp only;omega)
 ·obtain rfl:i=8:=by simp at h;omega
  refine WP.exit<|PO.past nofun<|PO.round nofun<|PO.blockX<|PO.next<|WP.seq<|WP.reg<|WL.e e_move<|WL.e e_assign<|WL.next<|WP.ret ?_
  exact PO.finE Tryz.results327 (rv_tmp rv_nil) (by rw [← hx2];rfl) hK
theorem table_spec {g:World} {y:Value} {f:UInt32→UInt32} (hy:∀ n:UInt32,CallV Tryz.prog g y [.int .u32 n.toNat] [] fun K R=>K (.int .u32 (f n).toNat) R):Spec Tryz.prog g 326 [y] [] fun K R=>K (.agg (tblTo f 256).toArray) R:=by
 refine Spec.intro Tryz.func326 rfl Tryz.ntmps326 rfl fun R K hK=>?_
 refine WP.seq<|WP.reg ?_
 refine WL.h (h_alloc z453 fun b1=>?_)
 rw [← tblTo_zero f]
 refine WL.next<|WP.seq<|WP.seq<|WP.reg<|WL.e e_move<|WL.next<|WP.block<|WP.loopK (fun (x:Nat)=>[(4,.int .i64 x)]) (fun (x:Nat)=>cl b1 453 (tblTo f x)::R) [(0,_),(2,_)] (fun (x:Nat)=>x≤256) (fun (x:Nat)=>256 - x) 0 (by omega) ?_
 intro x hx1
 refine WP.seq<|WP.reg<|WL.e e_lss<|WL.next<|WP.seq ?_
 refine WP.cond rfl (fun h=>?_) (fun h=>?_)
 ·have hlt:x < 256:=by simp at h;omega
  refine WP.skip<|PO.next<|WP.seq<|WP.block<|WP.seq<|WP.reg<|WL.e e_move<|WL.e e_assign<|WL.next<|WP.reg<|WL.e e_move<|WL.e e_move<|WL.e e_move<|WL.e (e_c32 (by rw [Tryz.underlying3];rfl) Tryz.underlying35) ?_
  refine WL.h (h_cally (hy (UInt32.ofNat x)) ?_)
  refine WL.e (e_iaA ar453 hlt) ?_
  refine WL.h' (h_store1 (o:=0+x * 1) (l:=tblTo f x) s35 (by rw [tblTo_len];omega) rfl ?_)
  rw [show 0+x * 1=x by omega,tblTo_set f x hlt]
  refine WL.nil<|PO.blockN<|PO.next<|WP.reg<|WL.e (e_add rfl rfl (w_i64 (by omega) (by omega)))<|WL.e e_move<|WL.nil ?_
  exact PO.againK (x+1) (by omega) (by omega)
 ·obtain rfl:x=256:=by simp at h;omega
  refine WP.exit<|PO.past nofun<|PO.round nofun<|PO.blockX<|PO.next<|WP.seq<|WP.reg<|WL.e (e_loadW a453 (tblTo_len _ _)) ?_
  refine WL.h' (h_storeW s453 (tblTo_len _ _) (tblTo_len _ _) (tblTo_ones _ _) ?_)
  refine WL.next<|WP.ret ?_
  exact PO.fin Tryz.results326 (rv_cellW a453 (tblTo_len _ _) rv_nil) hK
theorem On_spec {g:World} {A:HP} {u:Value} {b:List UInt8} (s:UInt32) (hA:RL A 1 eB u b) (hb:b.length≤68719476736):Spec Tryz.prog g 306 [.int .u32 s.toNat,u] [A] fun K R=>K (.int .u32 (sumOn s b).toNat) (A::R):=by
 refine Spec.intro Tryz.func306 rfl Tryz.ntmps306 rfl fun R K hK=>?_
 refine WP.seq<|WP.reg<|WL.e e_assign<|WL.next<|WP.seq<|WP.seq<|WP.reg<|WL.e e_move<|WL.e (el_len sl34 hA)<|WL.e e_eql<|WL.next ?_
 refine WP.cond rfl (fun h=>?_) (fun h=>?_)
 ·replace h:b.length=0:=by simpa using h
  refine WP.seq<|WP.reg<|WL.e e_move<|WL.e e_assign<|WL.next<|WP.ret<|PO.past nofun ?_
  exact PO.finE Tryz.results306 (rv_tmp rv_nil) (by simp [sumOn,h]) hK
 ·replace h:b.length≠0:=by rintro e;rw [e] at h;cases h
  refine WP.skip<|PO.next<|WP.seq<|WP.reg ?_
  refine WL.h (h_call (table_spec (f:=crc8) fun n=>CallV.of_spec (fs:=[]) (cs:=[]) (step_spec n) k327) k326 ?_)
  refine WL.h (h_alloc z453 fun b1=>?_)
  refine WL.h' (h_storeW (l:=List.replicate 256 (.int .u32 0)) (zs:=tblTo crc8 256) s453 (tblTo_len _ _) List.length_replicate (tblTo_ones _ _) ?_)
  refine WL.next<|WP.seq<|WP.reg<|WL.e e_move<|WL.e e_not32<|WL.e e_assign<|WL.next<|WP.seq<|WP.seq<|WP.reg<|WL.e e_move<|WL.e (el_len sl34 hA)<|WL.e e_move<|WL.next<|WP.block<|WP.loopK (fun (x:Nat × UInt32)=>[(18,.int .i64 x.1),(6,.int .u32 x.2.toNat)]) (fun (x:Nat × UInt32)=>cl b1 453 (tblTo crc8 256)::A::R) [(4,_),(5,_),(16,_),(17,_)] (fun (x:Nat × UInt32)=>x.1≤b.length∧x.2=(b.take x.1).foldl crcB (0xffffffff ^^^ s)) (fun (x:Nat × UInt32)=>b.length - x.1) (0,0xffffffff ^^^ s) (⟨by omega,by simp⟩) ?_
  rintro ⟨x,n⟩ ⟨hx1,hx2⟩
  simp only at hx1 hx2
  dsimp only
  refine WP.seq<|WP.reg<|WL.e e_lss<|WL.next<|WP.seq ?_
  refine WP.cond rfl (fun h2=>?_) (fun h2=>?_)
  ·have hlt:x < b.length:=by simp at h2;omega
   obtain ⟨c,hc⟩:∃ c,b[x]?=some c:=⟨b[x],List.getElem?_eq_getElem hlt⟩
   refine WP.skip<|PO.next<|WP.seq<|WP.block<|WP.seq<|WP.reg<|WL.e (el_ia sl34 hA hlt)<|WL.e (el_load0 a5 eB_ok hA hc)<|WL.e e_assign<|WL.next<|WP.reg<|WL.e e_move<|WL.e (e_shr32 (m:=8) (by decide))<|WL.e e_move<|WL.e (e_c32to8 (by rw [Tryz.underlying35];rfl) Tryz.underlying5)<|WL.e e_move<|WL.e e_xor8<|WL.e (e_iaA ar453 (UInt8.toNat_lt _))<|WL.e (e_load a35 rfl (by exact .z) (by rw [Nat.zero_add,Nat.mul_one];exact tblTo_get crc8 (n.toUInt8 ^^^ c)))<|WL.e e_xor32<|WL.e e_assign<|WL.nil<|PO.blockN<|PO.next ?_
   refine WP.reg<|WL.e (e_add rfl rfl (w_i64 (by omega) (by omega)))<|WL.e e_move<|WL.nil ?_
   exact PO.againK (x+1,crcB n c) ⟨by simp only;omega,by simp only;rw [take_snoc hc,List.foldl_append,← hx2];rfl⟩ (by simp only;omega)
  ·have hfin:b.take x=b:=List.take_of_length_le (by simp at h2;omega)
   refine WP.exit<|PO.past nofun<|PO.round nofun<|PO.blockX<|PO.next<|WP.seq<|WP.reg<|WL.e e_move<|WL.e e_not32<|WL.e e_assign<|WL.next<|WP.ret ?_
   exact PO.finE Tryz.results306 (rv_tmp rv_nil) (by simp [sumOn,h,hx2,hfin]) hK
theorem SumOf_spec {g:World} {A:HP} {u:Value} {b:List UInt8} (hA:RL A 1 eB u b) (hb:b.length≤68719476736):Spec Tryz.prog g 307 [u] [A] fun K R=>K (.int .u32 (sumOn 0 b).toNat) (A::R):=by
 refine Spec.intro Tryz.func307 rfl Tryz.ntmps307 rfl fun R K hK=>?_
 refine WP.seq<|WP.reg<|WL.e e_assign<|WL.next<|WP.seq<|WP.reg<|WL.e e_move ?_
 refine WL.h (h_call (On_spec 0 hA hb) k306 ?_)
 refine WL.e e_assign<|WL.next<|WP.ret ?_
 exact PO.fin Tryz.results307 (rv_tmp rv_nil) hK
theorem sectors_spec {g:World} (n:Nat) (hn:n≤4294967296):Spec Tryz.prog g 259 [.int .i64 n] [] fun K R=>K (.int .i64 (secs n)) R:=by
 refine Spec.intro Tryz.func259 rfl Tryz.ntmps259 rfl fun R K hK=>?_
 refine WP.seq<|WP.reg<|WL.e e_assign<|WL.next<|WP.seq<|WP.reg<|WL.e e_move<|WL.e (e_add (c:=((8+n:Nat):Int)) rfl rfl (by rw [w_i64 (by omega) (by omega)];omega))<|WL.e (e_add (c:=((8+n+64:Nat):Int)) rfl rfl (by rw [w_i64 (by omega) (by omega)];omega))<|WL.e (e_sub (c:=((8+n+63:Nat):Int)) rfl rfl (by rw [w_i64 (by omega) (by omega)];omega))<|WL.e (e_quo (c:=((secs n:Nat):Int)) rfl rfl (by decide) (by rw [Int.tdiv_eq_ediv_of_nonneg (by omega),w_i64 (by omega) (by omega)];unfold secs;omega))<|WL.e e_assign<|WL.next<|WP.ret ?_
 exact PO.fin Tryz.results259 (rv_tmp rv_nil) hK
end Go.SL
namespace Go.SL
open Go
structure SV where
  a:Option Addr
  n:Nat
  c:Nat
@[reducible] def SV.v (s:SV):Value:=.slice s.a s.n s.c
@[reducible] def subS (s:SV) (lo hi z:Nat):SV:=⟨if s.c=lo then s.a else s.a.map (·.add (lo * z)),hi - lo,s.c - lo⟩
theorem subS_eq (s:SV) (lo hi z:Nat):(subS s lo hi z).v=subV s.v lo hi none z:=rfl
def over {α:Type} (xs:List α) (lo:Nat) (ys:List α):List α:=xs.take lo++ys.take (xs.length - lo)++xs.drop (lo+ys.length)
theorem over_len {α:Type} (xs:List α) (lo:Nat) (ys:List α) (h:lo≤xs.length):(over xs lo ys).length=xs.length:=by
  simp [over];omega
theorem flat_over {α:Type} {z:Nat} {enc:α→List Value} (he:EncOk z enc) (xs ys:List α) (lo:Nat) (h:lo≤xs.length):splice (xs.flatMap enc) (lo * z) ((ys.take (Nat.min ys.length (xs.length - lo))).flatMap enc)=(over xs lo ys).flatMap enc:=by
  obtain ⟨m,hm⟩:∃ m,Nat.min ys.length (xs.length - lo)=m:=⟨_,rfl⟩
  have hmy:m≤ys.length:=hm ▸ Nat.min_le_left _ _
  have hmx:m≤xs.length - lo:=hm ▸ Nat.min_le_right _ _
  have hl:(ys.take m).length=m:=by simp;omega
  have h1:(lo+m) * z≤xs.length * z:=Nat.mul_le_mul_right _ (by omega)
  rw [Nat.add_mul] at h1
  rw [hm,splice_eq _ _ _ (by rw [flat_len he,flat_len he,hl];exact h1),flat_len he,hl,flat_take he,← Nat.add_mul,flat_drop he]
  simp only [over,List.flatMap_append]
  have e1:ys.take (xs.length - lo)=ys.take m:=by
    rcases Nat.le_total ys.length (xs.length - lo) with h' | h'
    · rw [List.take_of_length_le h',List.take_of_length_le (by rw [← hm];exact Nat.le_of_eq (Nat.min_eq_left h').symm)]
    · rw [← hm];congr 1;exact (Nat.min_eq_right h').symm
  have e2:xs.drop (lo+ys.length)=xs.drop (lo+m):=by
    rcases Nat.le_total ys.length (xs.length - lo) with h' | h'
    · congr 2;rw [← hm];exact (Nat.min_eq_left h').symm
    · have:m=xs.length - lo:=hm ▸ Nat.min_eq_right h'
      rw [List.drop_eq_nil_of_le (by omega),List.drop_eq_nil_of_le (by omega)]
  rw [e1,e2]
theorem fold_splice:∀ (vs:List Value) (cells:Array Value) (off k:Nat),((vs.zipIdx k).foldl (fun cs (p:Value × Nat)=>cs.setIfInBounds (off+p.2) p.1) cells).toList=splice cells.toList (off+k) vs
  | [],cells,off,k=>rfl
  | v::vs,cells,off,k=>by
    rw [List.zipIdx_cons,List.foldl_cons,fold_splice vs _ off (k+1),Array.toList_setIfInBounds];rfl
theorem fill_step {pl:Nat→Option (Nat × Nat)} {cells:Array Value} {i off z:Nat} {v:Value} {rest:List (Nat × Value)} {vs:List Value} (hp:pl i=some (off,z)) (hv:v.cells=vs.toArray) (hz:vs.length=z) (hle:off+z≤cells.size) :
    Instr.fill pl cells ((i,v)::rest)=Instr.fill pl (splice cells.toList off vs).toArray rest:=by
  rw [Instr.fill]
  simp only [hp]
  rw [if_neg (by rw [hv];simp [hz];omega)]
  congr 1
  apply Array.ext'
  rw [List.toList_toArray]
  have:=fold_splice vs cells off 0
  rw [Nat.add_zero] at this
  rw [← this,hv]
  rw [← Array.foldl_toList];simp
theorem fill_nil {pl:Nat→Option (Nat × Nat)} {cells:Array Value}:Instr.fill pl cells []=some cells:=rfl
theorem splice_all (l vs:List Value) (h:vs.length=l.length):splice l 0 vs=vs:=by
  rw [splice_eq _ _ _ (by omega)];simp [h]
theorem tm_any {Γ:Env}:∀ l,Tm Γ l
  | []=>.n
  | v::l=>.z v (tm_any l)
section
variable {P : Program} {r : Option Nat} {g : World} {Γ : Env} {L M : List HP} {Q : Post} {dst : Option Tmp} {t : TypeId} {pos : String} {aft : Array Edge} {gd : Option (Nat × Bool)}
theorem hl_copy {α:Type} {T T2 E z y lo:Nat} {x xv:Operand} {enc:α→List Value} {u v w':Value} {xs ys:List α} {B:HP} {N R:List HP} {K:Value→List HP→Prop} (hs:slOf P T=some (E,z,y)) (he:EncOk z enc) (hlo:lo≤xs.length) (hB:RL B z enc v ys)
    (hK:K (.int .i64 (Nat.min ys.length (xs.length - lo))) N) (hz0:0 < z:=by decide) (hu:w'=subV u lo xs.length none z:=by rfl) (hx:ev Γ x=some w':=by rfl) (hv:ev Γ xv=some v:=by rfl) (p2:Pick L B R:=by repeat first | exact .z | apply Pick.s) (hp:Put L (Sl E z enc u xs) (Sl E z enc u (over xs lo ys)) N:=by repeat first | exact .z | apply Put.s):HO P r g ⟨dst,.call ⟨.builtin .copy,#[x,xv],#[T,T2]⟩,t,pos,aft,gd⟩ Γ L K:=
  HO.run (by simp) fun a w ha hw=>by
    subst hu
    obtain ⟨hu,hsz,_⟩:=slOf_und hs
    have hsl:Sl E z enc u (over xs lo ys)=Own E z u xs.length (splice (xs.flatMap enc) (lo * z) ((ys.take (Nat.min ys.length (xs.length - lo))).flatMap enc)):=by
      rw [flat_over he xs ys lo hlo];unfold Sl;rw [over_len _ _ _ hlo]
    rw [hsl] at hp
    obtain ⟨R',p1,p1'⟩:=hp.picks
    have hown:RdS (heapOf w) z u xs.length (xs.flatMap enc):=hw.rd p1 own_rd
    have hrd:=hw.rd p2 hB
    obtain ⟨vs,hv1,hv2⟩:=hrd.readTo (P:=P) (m:=Nat.min ys.length (xs.length - lo)) (Nat.min_le_left _ _)
    have hshape:∃ b c,u=.slice b xs.length c∧xs.length≤c:=by
      rcases hown with ⟨h0,_,a',c,rfl⟩ | ⟨b,o,c,l,t,rfl,hn,_⟩
      · exact ⟨a',c,by rw [h0],by omega⟩
      · exact ⟨_,c,rfl,hn⟩
    obtain ⟨b,c,rfl,hnc⟩:=hshape
    have hm:(#[x,xv]:Array Operand).map a.eval=#[subV (.slice b xs.length c) lo xs.length none z,v]:=by simp [ev_ok hx ha,ev_ok hv ha]
    rw [flat_take he] at hv2
    rcases Nat.eq_zero_or_pos (Nat.min ys.length (xs.length - lo)) with h0 | h0
    · have hvs:vs=#[]:=by
        apply Array.ext';rw [hv2,h0];simp
      subst hvs
      refine ⟨_,N,w,?_,hK,hw.conv fun _ h=>p1'.back (by rw [h0];have:=p1.to h;unfold Sl at this;simpa [splice] using this)⟩
      show (do let d ← resolve a.eval ⟨.builtin .copy,#[x,xv],#[T,T2]⟩ t;invoke d.target d.args:Sem Next).run P w=_
      simp only [resolve,hm,Sem.run_bind,Sem.run_pure,Result.andThen_ok,invoke,builtin,Builtin.copy_,subV,List.getElem?_toArray,List.getElem?_cons_zero,List.getElem?_cons_succ,run_underlying hu,hrd.read.1,run_sizeOf hsz,hv1]
      split <;> simp [storeCells,goInt]
    · have hkz:0 < Nat.min ys.length (xs.length - lo) * z:=Nat.mul_pos h0 hz0
      have hle:(lo+Nat.min ys.length (xs.length - lo)) * z≤xs.length * z:=Nat.mul_le_mul_right _ (by have:Nat.min ys.length (xs.length - lo)≤xs.length - lo:=Nat.min_le_right _ _;omega)
      rw [Nat.add_mul] at hle
      have hlen:((ys.take (Nat.min ys.length (xs.length - lo))).flatMap enc).length=Nat.min ys.length (xs.length - lo) * z:=by
        rw [flat_len he,List.length_take,Nat.min_eq_left (Nat.min_le_left _ _)]
      obtain ⟨p,w',e,hr,hw'⟩:=own_store (P:=P) hw hp (by rw [hlen];exact hle) (by rw [hlen];exact hkz) (ones_flat he _)
      refine ⟨_,N,w',?_,hK,hw'⟩
      have hbase:(if c=lo then b else b.map (·.add (lo * z)))=some p:=by
        have:c≠lo:=by have:Nat.min ys.length (xs.length - lo)≤xs.length - lo:=Nat.min_le_right _ _;omega
        rw [if_neg this]
        cases b with
        | none=>simp [elA] at e
        | some b=>simp only [elA,Value.pointer.injEq,Option.some.injEq] at e;simp [e]
      show (do let d ← resolve a.eval ⟨.builtin .copy,#[x,xv],#[T,T2]⟩ t;invoke d.target d.args:Sem Next).run P w=_
      simp only [resolve,hm,Sem.run_bind,Sem.run_pure,Result.andThen_ok,invoke,builtin,Builtin.copy_,subV,List.getElem?_toArray,List.getElem?_cons_zero,List.getElem?_cons_succ,run_underlying hu,hrd.read.1,run_sizeOf hsz,hv1,Option.getD_none,hbase,hv2,hr,goInt]
theorem subV_id {S:Piece} {z n:Nat} {u:Value} {cs:List Value} {E:TypeId} (h:Own E z u n cs S):subV u 0 n none z=u:=by
  rcases h with ⟨rfl,_,a,rfl⟩ | ⟨b,o,c,l,rfl,_⟩
  · simp [subV]
  · simp [subV,add_none]
theorem hl_copy0 {α:Type} {T T2 E z y:Nat} {x xv:Operand} {enc:α→List Value} {u v:Value} {xs ys:List α} {B:HP} {N R:List HP} {K:Value→List HP→Prop} (hs:slOf P T=some (E,z,y)) (he:EncOk z enc) (hB:RL B z enc v ys)
    (hK:K (.int .i64 (Nat.min ys.length xs.length)) N) (hz0:0 < z:=by decide) (hx:ev Γ x=some u:=by rfl) (hv:ev Γ xv=some v:=by rfl) (p2:Pick L B R:=by repeat first | exact .z | apply Pick.s) (hp:Put L (Sl E z enc u xs) (Sl E z enc u (over xs 0 ys)) N:=by repeat first | exact .z | apply Put.s):HO P r g ⟨dst,.call ⟨.builtin .copy,#[x,xv],#[T,T2]⟩,t,pos,aft,gd⟩ Γ L K:=
  fun a w Q next ha hw hn=>by
    obtain ⟨R',p1,_⟩:=hp.picks
    obtain ⟨S1,S2,_,_,_,h1,_⟩:=p1.to hw.heap
    have e:=subV_id h1
    exact hl_copy (lo:=0) (w':=subV u 0 xs.length none z) hs he (Nat.zero_le _) hB hK hz0 rfl (by rw [e];exact hx) hv p2 hp a w Q next ha hw hn
theorem h_bs0 {α:Type} {T E z y:Nat} {enc:α→List Value} {K:Value→List HP→Prop} (hs:slOf P T=some (E,z,y)) (hK:∀ a m c,K (.slice a m c) (Sl E z enc (.slice a m c) []::L)):HO P r g ⟨dst,.buildSlice T 0 #[],t,pos,aft,gd⟩ Γ L K:=
  HO.run (by simp) fun a w ha hw=>by
    obtain ⟨hu,hsz,_⟩:=slOf_und hs
    refine ⟨.slice (some ⟨w.heap.size,0,none⟩) 0 0,_,w.alloc (.cells #[] E (0,0)),?_,hK _ _ _,(hw.push (.cells #[] E (0,0))).conv fun S hS=>nil_sl (stars_tail hS)⟩
    simp [execOp,Instr.buildSlice,run_underlying hu,run_sizeOf hsz,Instr.fill,newRow]
    congr 2;apply Array.ext';simp
theorem e_build_pair {s:TypeId} {x y:Operand} {zs:List Value} {n:Nat} {u:Value} {l:List Value} (hz:zeroOf P s=some zs) (hpl:placesOf P s=some [(0,1),(1,n)]) (hl:l.length=n) (hzl:zs.length=n+1:=by rfl) (hx:ev Γ x=some u:=by rfl) (hy:ev Γ y=some (.agg l.toArray):=by rfl) (hu:u.cells=#[u]:=by rfl) :
    EO P g ⟨dst,.build s #[(0,x),(1,y)],t,pos,aft,gd⟩ Γ L (.agg (u::l).toArray):=
  e_build (ps:=[(0,x),(1,y)]) (vs:=[(0,u),(1,.agg l.toArray)]) hz hpl (tm_any _) (by simp [evps,hx,hy]) (by
    rw [fill_step (vs:=[u]) rfl hu rfl (by simp [hzl]),fill_step (vs:=l) rfl rfl hl (by simp [splice_len _ _ _ (show 0 + [u].length≤zs.length by simp [hzl]),hzl];omega),fill_nil]
    cases zs with
    | nil=>simp at hzl
    | cons z zs=>
      simp only [splice,List.set_cons_zero]
      rw [show (1:Nat)=0+1 from rfl,splice_cons,splice_all _ _ (by simp at hzl;omega)])
theorem h_bs1 {T E z y:Nat} {x:Operand} {zs cs:List Value} {v:Value} {K:Value→List HP→Prop} (hs:slOf P T=some (E,z,y)) (hz:zeroOf P E=some zs) (hcl:cs.length=z) (hK:∀ b,K (.slice (some ⟨b,0,none⟩) 1 1) (cl b E cs::L)) (hx:ev Γ x=some v:=by rfl) (hv:v.cells=cs.toArray:=by rfl)
    (hzz:zs.length=z:=by rfl) (hm:Nat.ble (1 * z) 10000=true:=by rfl) (hm0:Nat.beq (1 * z) 0=false:=by rfl):HO P r g ⟨dst,.buildSlice T 1 #[(0,x)],t,pos,aft,gd⟩ Γ L K:=
  h_bs (ps:=[(0,x)]) (vs:=[(0,v)]) hs hz (tm_any _) hK hm (by simp [evps,hx]) (by
    rw [fill_step (vs:=cs) (z:=z) (off:=0) (by simp) hv hcl (by simp [hzz]),fill_nil,splice_all _ _ (by simp [hzz,hcl])]) hzz hm0
def slA (u:Value) (k n:Nat):Value:=match u with
  | .slice (some a) _ _=>.slice (some (a.add k)) n n
  | _=>.slice none 0 0
theorem rd_el {A:HP} {z z1 m n k:Nat} {u:Value} {cs:List Value} (h:Rd A z u m cs) (hk:k+n * z1≤m * z) (h0:0 < n * z1):Rd A z1 (slA u k n) n ((cs.drop k).take (n * z1)):=fun S hS=>by
  have hr:=h S hS
  obtain ⟨b,o,c,l,t,e1,e2,e3,e4,e5,e6⟩:=hr.base (k:=k) (by omega)
  subst e2
  refine .inr ⟨b,o+k,n,l,t,by simp [slA,add_none],Nat.le_refl _,e3,by omega,?_⟩
  rw [e6,List.drop_take,List.drop_drop,List.take_take,Nat.min_eq_left (by omega)]
theorem e_slice_el {T E n z1 z m k:Nat} {x:Operand} {u:Value} {A:HP} {cs:List Value} (hs:arrOf P T=some (E,n,z1)) (hA:Rd A z u m cs) (hk:k < m * z) (hx:ev Γ x=some (elA u k):=by rfl) (hp:Pick L A M:=by repeat first | exact .z | apply Pick.s):EO P g ⟨dst,.slice T x none none none,t,pos,aft,gd⟩ Γ L (slA u k n):=fun ρ w hρ hw=>by
  obtain ⟨b,o,c,l,t',h1,h2,_⟩:=(hw.rd hp hA).base hk
  have h:=e_slice_arr (P:=P) (g:=g) (Γ:=Γ) (L:=L) (dst:=dst) (t:=t) (pos:=pos) (aft:=aft) (gd:=gd) (x:=x) (b:=b) (o:=o+k) (lo:=0) (hi:=n) hs (hx.trans (congrArg some h1)) (.inl ⟨rfl,rfl⟩) (.inl ⟨rfl,rfl⟩) (Nat.zero_le _) (Nat.le_refl _) ρ w hρ hw
  subst h2
  have e:subAt (.slice (some ⟨b,o+k,none⟩) n n) 0 n n z1=slA (.slice (some ⟨b,o,none⟩) m c) k n:=by
    simp [subAt,slA,add_none]
  rw [e] at h;exact h
theorem WP.opn {c:Code} {A:HP} {X:Type} {B:X→List HP} (hA:∀ S,A S→∃ x,stars (B x) S) {R:List HP} (k:∀ x,WP P r g c Q Γ (B x++R)) (hp:Pick L A R:=by repeat first | exact .z | apply Pick.s):WP P r g c Q Γ L:=fun a w ha hw=>by
  obtain ⟨S1,S2,hd,l1,l2,h1,h2⟩:=hp.to hw.heap
  obtain ⟨x,hx⟩:=hA S1 h1
  exact k x a w ha ⟨hw.os,hw.tape,hw.output,hw.size,stars_append' ⟨S1,S2,hd,l1,l2,hx,h2⟩⟩
theorem WL.opn {ops rest:List Oper} {A:HP} {X:Type} {B:X→List HP} (hA:∀ S,A S→∃ x,stars (B x) S) {R:List HP} (k:∀ x,WL P r g ops rest Q Γ (B x++R)) (hp:Pick L A R:=by repeat first | exact .z | apply Pick.s):WL P r g ops rest Q Γ L:=fun a w ha hw=>by
  obtain ⟨S1,S2,hd,l1,l2,h1,h2⟩:=hp.to hw.heap
  obtain ⟨x,hx⟩:=hA S1 h1
  exact k x a w ha ⟨hw.os,hw.tape,hw.output,hw.size,stars_append' ⟨S1,S2,hd,l1,l2,hx,h2⟩⟩
theorem PO.opn {e:Exit} {A:HP} {X:Type} {B:X→List HP} (hA:∀ S,A S→∃ x,stars (B x) S) {R:List HP} (k:∀ x,PO g Q e Γ (B x++R)) (hp:Pick L A R:=by repeat first | exact .z | apply Pick.s):PO g Q e Γ L:=fun a w ha hw=>by
  obtain ⟨S1,S2,hd,l1,l2,h1,h2⟩:=hp.to hw.heap
  obtain ⟨x,hx⟩:=hA S1 h1
  exact k x a w ha ⟨hw.os,hw.tape,hw.output,hw.size,stars_append' ⟨S1,S2,hd,l1,l2,hx,h2⟩⟩
theorem HO.opn {o:Oper} {K:Value→List HP→Prop} {A:HP} {X:Type} {B:X→List HP} (hA:∀ S,A S→∃ x,stars (B x) S) {R:List HP} (k:∀ x,HO P r g o Γ (B x++R) K) (hp:Pick L A R:=by repeat first | exact .z | apply Pick.s):HO P r g o Γ L K:=fun a w Q next ha hw hn=>by
  obtain ⟨S1,S2,hd,l1,l2,h1,h2⟩:=hp.to hw.heap
  obtain ⟨x,hx⟩:=hA S1 h1
  exact k x a w Q next ha ⟨hw.os,hw.tape,hw.output,hw.size,stars_append' ⟨S1,S2,hd,l1,l2,hx,h2⟩⟩ hn
theorem fold_stars {A:HP} {B R:List HP} (hB:∀ S,stars B S→A S) (hs:Split L B R):∀ S,stars L S→stars (A::R) S:=fun S hS=>by
  obtain ⟨S1,S2,hd,l1,l2,h1,h2⟩:=stars_append (hs.to hS)
  exact ⟨S1,S2,hd,l1,l2,hB S1 h1,h2⟩
theorem WP.cls {c:Code} {A:HP} {B R:List HP} (hB:∀ S,stars B S→A S) (k:WP P r g c Q Γ (A::R)) (hs:Split L B R:=by repeat first | exact .nil | exact Pick.z | apply Pick.s | apply Split.cons):WP P r g c Q Γ L:=WP.conv (fold_stars hB hs) k
theorem WL.cls {ops rest:List Oper} {A:HP} {B R:List HP} (hB:∀ S,stars B S→A S) (k:WL P r g ops rest Q Γ (A::R)) (hs:Split L B R:=by repeat first | exact .nil | exact Pick.z | apply Pick.s | apply Split.cons):WL P r g ops rest Q Γ L:=WL.conv (fold_stars hB hs) k
theorem PO.cls {e:Exit} {A:HP} {B R:List HP} (hB:∀ S,stars B S→A S) (k:PO g Q e Γ (A::R)) (hs:Split L B R:=by repeat first | exact .nil | exact Pick.z | apply Pick.s | apply Split.cons):PO g Q e Γ L:=PO.conv (fold_stars hB hs) k
theorem HO.cls {o:Oper} {K:Value→List HP→Prop} {A:HP} {B R:List HP} (hB:∀ S,stars B S→A S) (k:HO P r g o Γ (A::R) K) (hs:Split L B R:=by repeat first | exact .nil | exact Pick.z | apply Pick.s | apply Split.cons):HO P r g o Γ L K:=HO.conv (fold_stars hB hs) k
end
end Go.SL
namespace Go.SL
open Go
theorem secs_le (n:Nat):8+n≤secs n * 64:=by unfold secs;omega
theorem secs_ub (n:Nat):secs n * 64≤n+71:=by unfold secs;omega
theorem over_set {α:Type} (xs ys:List α) (lo i:Nat) (c:α) (h:lo+ys.length≤xs.length) (hc:ys[i]?=some c):(over xs lo (ys.take i)).set (lo+i) c=over xs lo (ys.take (i+1)):=by
  have hi:=idx_lt hc
  apply List.ext_getElem?
  intro j
  rw [List.getElem?_set]
  have e1:(ys.take i).take (xs.length - lo)=ys.take i:=List.take_of_length_le (by simp;omega)
  have e2:(ys.take (i+1)).take (xs.length - lo)=ys.take (i+1):=List.take_of_length_le (by simp;omega)
  simp only [over,e1,e2,List.length_append,List.length_take,List.length_drop]
  rw [List.append_assoc,List.append_assoc,List.getElem?_append,List.getElem?_append,List.getElem?_append,List.getElem?_append]
  simp only [List.length_take,List.getElem?_take,List.getElem?_drop]
  have m1:min lo xs.length=lo:=by omega
  have m2:min i ys.length=i:=by omega
  have m3:min (i+1) ys.length=i+1:=by omega
  rw [m1,m2,m3]
  by_cases h1:lo+i=j
  · subst h1
    simp [hc,show 0 < xs.length - (lo+i) by omega,show i < i+1 by omega];intro h;omega
  · rw [if_neg h1]
    by_cases h2:j < lo
    · simp [h2]
    · simp only [h2,if_false]
      by_cases h3:j - lo < i
      · simp [h3,show j - lo < i+1 by omega]
      · simp only [h3,show ¬ j - lo < i+1 by omega,if_false]
        congr 1;omega
theorem over_nil {α:Type} (xs:List α) (lo:Nat) (h:lo≤xs.length):over xs lo []=xs:=by simp [over]
theorem over_eq {α:Type} (A xs ys:List α) (lo:Nat) (hA:A.length=lo) (h:ys.length≤xs.length):over (A++xs) lo ys=A++ys++xs.drop ys.length:=by
  subst hA
  simp only [over,List.length_append]
  rw [List.take_left,show A.length+xs.length - A.length=xs.length by omega,List.take_of_length_le h,List.drop_append]
  simp [List.drop_eq_nil_of_le]
def head4 (b:List UInt8):List UInt8:=numB (UInt32.ofNat b.length) 4
def sum4 (b:List UInt8):List UInt8:=numB (sumOn (sumOn 0 (head4 b)) b) 4
theorem head4_len (b:List UInt8):(head4 b).length=4:=numB_len _ _
theorem sum4_len (b:List UInt8):(sum4 b).length=4:=numB_len _ _
theorem frame1 (b:List UInt8):over (List.replicate (secs b.length * 64) (0:UInt8)) 0 (head4 b)=head4 b++List.replicate (secs b.length * 64 - 4) 0:=by
  have:=secs_le b.length
  rw [show List.replicate (secs b.length * 64) (0:UInt8)=[]++List.replicate (secs b.length * 64) 0 from rfl,over_eq [] _ _ 0 rfl (by simp [head4_len];omega)]
  simp [head4_len]
theorem frame2 (b:List UInt8):over (head4 b++List.replicate (secs b.length * 64 - 4) 0) 4 (sum4 b)=head4 b++sum4 b++List.replicate (secs b.length * 64 - 8) 0:=by
  have:=secs_le b.length
  rw [over_eq _ _ _ 4 (head4_len b) (by simp [sum4_len];omega)]
  simp [sum4_len];omega
theorem frame3 (b:List UInt8):over (head4 b++sum4 b++List.replicate (secs b.length * 64 - 8) 0) 8 b=frame b:=by
  have:=secs_le b.length
  rw [over_eq _ _ _ 8 (by simp [head4_len,sum4_len]) (by simp;omega)]
  simp [frame,head4,sum4]
theorem frame_len (b:List UInt8):(frame b).length=secs b.length * 64:=by
  have:=secs_le b.length
  simp [frame,numB_len];omega
def beN (l:List UInt8):UInt32:=l.foldl (fun n c=>(n <<< 8) ||| c.toUInt32) 0
def getF (b:List UInt8):Option (List UInt8 × Nat):=
  if b.length < 8 then none else
  let n:=(beN (b.take 4)).toNat
  if 16384 < n then none else
  if b.length < secs n * 64 then none else
  if frame ((b.drop 8).take n)=b.take (secs n * 64) then some ((b.drop 8).take n,secs n) else none
theorem text_beq (a b:List UInt8):sEq (textOf a) (textOf b)=(a == b):=by
  simp [sEq,textOf,ByteArray.toList_eq]
end Go.SL
