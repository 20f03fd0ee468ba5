import Derived.Test.YtmeoolijekillaaGreatDoorQL22
import Derived.Deep.Slices
import Derived.ChangeSame
import Derived.SizedLaws
set_option linter.unusedSimpArgs false
set_option linter.unusedVariables false
namespace Go.SL.Fc
open Go Go.Proofs Go.SL
theorem ar25:arrOf Tryz.prog 25=some (24,3,1):=by kernel_rfl
theorem k10:callable Tryz.prog 10=true:=by kernel_rfl
theorem k14:callable Tryz.prog 14=true:=by kernel_rfl
theorem k16:callable Tryz.prog 16=true:=by kernel_rfl
theorem k17:callable Tryz.prog 17=true:=by kernel_rfl
theorem k22:callable Tryz.prog 22=true:=by kernel_rfl
theorem k43:callable Tryz.prog 43=true:=by kernel_rfl
theorem k44:callable Tryz.prog 44=true:=by kernel_rfl
theorem k45:callable Tryz.prog 45=true:=by kernel_rfl
theorem p39:placesOf Tryz.prog 39=some [(0,1),(1,1),(2,1),(3,1),(4,1)]:=by kernel_rfl
theorem z25:zeroOf Tryz.prog 25=some [.slice none 0 0,.slice none 0 0,.slice none 0 0]:=by kernel_rfl
end Go.SL.Fc
namespace Go.SL
open Go Go.Proofs Fc
theorem EqR0_spec {g:World} {a b:Option Addr} {c d:Nat}:Spec Tryz.prog g 22 [.slice a 0 c,.slice b 0 d] [] fun K R=>K (.bool true) R:=by
 refine Spec.intro Tryz.func22 rfl Tryz.ntmps22 rfl fun R K hK=>?_
 refine WP.seq<|WP.reg<|WL.e e_assign<|WL.next<|WP.seq<|WP.seq<|WP.reg<|WL.e e_move<|WL.e (e_len_sl sl24)<|WL.e e_move<|WL.e (e_len_sl sl24)<|WL.e e_neq<|WL.next<|WP.cond_f rfl<|WP.skip<|PO.next<|WP.seq<|WP.seq<|WP.reg<|WL.e e_move<|WL.e (e_len_sl sl24)<|WL.e e_move<|WL.next<|WP.block ?_
 refine WP.loopK (fun (_:Unit)=>[(13,.int .i64 0)]) (fun (_:Unit)=>R) [(0,_),(1,_),(12,_)] (fun (_:Unit)=>True) (fun (_:Unit)=>0) () (trivial) ?_
 intro _ _
 refine WP.seq<|WP.reg<|WL.e e_lss<|WL.next<|WP.seq ?_
 refine WP.cond rfl (fun h1=>?_) (fun h1=>?_)
 ·simp at h1
 ·skip
  refine WP.exit<|PO.past nofun<|PO.round nofun<|PO.blockX<|PO.next<|WP.seq<|WP.reg<|WL.e e_assign<|WL.next<|WP.ret ?_
  exact PO.fin Tryz.results22 (rv_tmp rv_nil) hK
theorem Serial0_spec {g:World} {a1 a2 a3 a4 a5:Option Addr} {c1 c2 c3 c4 c5:Nat}:Spec Tryz.prog g 10 [.slice a1 0 c1,.slice a2 0 c2,.agg #[.slice a3 0 c3,.slice a4 0 c4,.slice a5 0 c5]] [] fun K R=>K (.bool true) R:=by
 refine Spec.intro Tryz.func10 rfl Tryz.ntmps10 rfl fun R K hK=>?_
 refine WP.seq<|WP.reg ?_
 refine WL.h (h_box fun b1=>?_)
 refine WL.e e_assign<|WL.next<|WP.seq<|WP.reg ?_
 refine WL.h (h_makeMapB (ek:=eI64) fun sm=>?_)
 refine WL.e e_assign<|WL.next<|WP.seq<|WP.seq<|WP.reg<|WL.e e_move<|WL.e (e_len_sl sl23)<|WL.e e_move<|WL.next<|WP.block<|WP.loopK (fun (_:Unit)=>[(21,.int .i64 0)]) (fun (_:Unit)=>cl b1 25 [.slice a3 0 c3,.slice a4 0 c4,.slice a5 0 c5]::R) [(0,_),(1,_),(5,_),(7,_),(19,_),(20,_)] (fun (_:Unit)=>True) (fun (_:Unit)=>0) () (trivial) ?_
 intro _ _
 refine WP.seq<|WP.reg<|WL.e e_lss<|WL.next<|WP.seq ?_
 refine WP.cond rfl (fun h1=>?_) (fun h1=>?_)
 ·simp at h1
 ·skip
  refine WP.exit<|PO.past nofun<|PO.round nofun<|PO.blockX<|PO.next<|WP.seq<|WP.seq<|WP.reg<|WL.e e_move<|WL.e (e_len_sl sl23)<|WL.e e_move<|WL.e (e_len_sl sl22)<|WL.e e_neq<|WL.next<|WP.cond_f rfl<|WP.skip<|PO.next<|WP.seq<|WP.reg ?_
  refine WL.h (h_alloc z25 fun b2=>?_)
  refine WL.next<|WP.seq<|WP.seq<|WP.reg<|WL.e e_move<|WL.e (e_len_sl sl23)<|WL.e e_move<|WL.next<|WP.block<|WP.loopK (fun (_:Unit)=>[(65,.int .i64 0)]) (fun (_:Unit)=>cl b1 25 [.slice a3 0 c3,.slice a4 0 c4,.slice a5 0 c5]::cl b2 25 [.slice none 0 0,.slice none 0 0,.slice none 0 0]::R) [(0,_),(5,_),(10,_),(63,_),(64,_)] (fun (_:Unit)=>True) (fun (_:Unit)=>0) () (trivial) ?_
  intro _ _
  refine WP.seq<|WP.reg<|WL.e e_lss<|WL.next<|WP.seq ?_
  refine WP.cond rfl (fun h1=>?_) (fun h1=>?_)
  ·simp at h1
  ·skip
   refine WP.exit<|PO.past nofun<|PO.round nofun<|PO.blockX<|PO.next<|WP.seq<|WP.seq<|WP.reg<|WL.e e_move<|WL.next<|WP.block<|WP.loopK (fun (i:Nat)=>[(119,.int .i64 i)]) (fun (i:Nat)=>cl b1 25 [.slice a3 0 c3,.slice a4 0 c4,.slice a5 0 c5]::cl b2 25 [.slice none 0 0,.slice none 0 0,.slice none 0 0]::R) [(5,_),(10,_)] (fun (i:Nat)=>i≤3) (fun (i:Nat)=>3 - i) 0 (Nat.zero_le _) ?_
   intro i hi
   refine WP.seq<|WP.reg<|WL.e e_lss<|WL.next<|WP.seq ?_
   refine WP.cond rfl (fun h3=>?_) (fun h3=>?_)
   ·replace h3:i < 3:=by rw [decide_eq_true_eq] at h3;omega
    have h4:i=0∨i=1∨i=2:=by omega
    have hv5:([.slice none 0 0,.slice none 0 0,.slice none 0 0]:List Value)[0+i * 1]?=some (.slice none 0 0):=by rcases h4 with rfl | rfl | rfl <;> rfl
    obtain ⟨a6,c6,hv6⟩:∃ a c,([.slice a3 0 c3,.slice a4 0 c4,.slice a5 0 c5]:List Value)[0+i * 1]?=some (.slice a 0 c):=by rcases h4 with rfl | rfl | rfl <;> exact ⟨_,_,rfl⟩
    refine WP.skip<|PO.next<|WP.seq<|WP.block<|WP.seq<|WP.reg<|WL.e e_move<|WL.e e_assign<|WL.next<|WP.seq<|WP.draws mixedOk 8<|RW.e 0 rfl e_move<|RW.e 1 rfl (e_iaA (j:=i) ar25 h3)<|RW.e 2 rfl (e_load (l:=[.slice none 0 0,.slice none 0 0,.slice none 0 0]) a24 (hv:=hv5))<|RW.e 3 rfl e_move<|RW.e 4 rfl (e_iaA (j:=i) ar25 h3)<|RW.e 5 rfl (e_load (l:=[.slice a3 0 c3,.slice a4 0 c4,.slice a5 0 c5]) a24 (hv:=hv6)) ?_
    refine RW.any (is:=[6]) rfl ⟨?_,trivial⟩
    refine RWat.h rfl rfl rfl ?_
    refine (h_call (EqR0_spec) k22 ?_)
    refine ⟨trivial,?_⟩
    refine RW.e 7 rfl e_not<|RW.done<|PO.next<|WP.cond_f rfl<|WP.skip<|PO.blockN<|PO.next<|WP.reg<|WL.e (e_add (c:=((i+1:Nat):Int)) rfl rfl (by rw [w_i64 (by omega) (by omega)];omega))<|WL.e e_move<|WL.nil ?_
    exact PO.againK (i+1) (by omega) (by omega)
   ·skip
    refine WP.exit<|PO.past nofun<|PO.round nofun<|PO.blockX<|PO.next<|WP.seq<|WP.reg<|WL.e e_assign<|WL.next<|WP.ret ?_
    exact PO.fin Tryz.results10 (rv_tmp rv_nil) hK
theorem Fine_spec {g:World} {w d0 c0 n1 n2 n3 bg:Nat}:Spec Tryz.prog g 16 [.pointer (some ⟨w,0,none⟩)] [cl w 91 [.pointer (some ⟨d0,0,none⟩),.pointer (some ⟨c0,0,none⟩),.pointer none,.pointer (some ⟨n1,0,none⟩),.pointer (some ⟨n2,0,none⟩),.pointer (some ⟨n3,0,none⟩),.pointer (some ⟨bg,0,none⟩),.int .u32 0,.slice none 0 0],NdF g n1,NdF g n2,NdF g n3] fun K R=>K (.bool true) R:=by
 refine Spec.intro Tryz.func16 rfl Tryz.ntmps16 rfl fun R K hK=>?_
 refine WP.seq<|WP.reg<|WL.e e_assign<|WL.next<|WP.seq<|WP.seq<|WP.reg<|WL.e e_move ?_
 refine WL.h (h_call (Wtick_spec) k43 ?_)
 refine WL.e e_eql<|WL.next<|WP.cond_f rfl<|WP.skip<|PO.next<|WP.seq<|WP.reg<|WL.e e_move ?_
 refine WL.h (h_call (WDeeds_spec) k44 ?_)
 refine WL.e e_assign<|WL.next<|WP.seq<|WP.reg<|WL.e e_move<|WL.conv (M:=pu True::_) (fun S h=>pu_stars trivial h) ?_
 refine WL.h (h_call (JOrder_spec (A:=pu True) (l:=[]) nil_rl (by simp) (by intro u;simp [ofUnit])) k14 ?_)
 refine ⟨fun h=>absurd h (by decide),fun _ h=>absurd (RkE.local (by simp) (by simp)) h,fun _ _ a9 m9 c9 out9 ho9=>?_⟩
 obtain rfl:out9=[]:=List.length_eq_zero_iff.1 ho9.len
 refine WL.len (fun hm=>?_)
 subst hm
 refine WL.e e_move<|WL.e e_extract<|WL.e e_extract<|WL.e e_assign<|WL.e e_assign<|WL.next<|WP.seq<|WP.seq<|WP.reg<|WL.e e_move<|WL.e e_not<|WL.e e_move ?_
 refine WL.bool 24 rfl (fun g1=>?_) (fun g1=>?_)
 ·cases g1 
 ·skip
  refine WL.e e_move<|WL.e e_move<|WL.e e_move ?_
  refine WL.h (h_call (WRows1_spec) k45 ?_)
  intro a1 c1
  refine WL.e e_move ?_
  refine WL.h (h_call (WRows2_spec) k45 ?_)
  intro a2 c2
  refine WL.e e_move ?_
  refine WL.h (h_call (WRows3_spec) k45 ?_)
  intro a3 c3
  refine WL.e (e_buildA z25 Tryz.underlying25 s24 (.o (.tmp 28) rfl<|.o (.tmp 30) rfl<|.o (.tmp 32) rfl<|.n)) ?_
  refine WL.h (h_call (Serial0_spec) k10 ?_)
  refine WL.e e_not<|WL.e e_pick_f<|WL.next<|WP.cond_f rfl<|WP.skip<|PO.next<|WP.seq<|WP.reg ?_
  refine WL.h (h_makeMapB (ek:=eA2) fun sm=>?_)
  refine WL.e e_assign<|WL.next<|WP.seq<|WP.seq<|WP.reg<|WL.e e_move<|WL.e (e_len_sl sl22)<|WL.e e_move<|WL.next<|WP.block<|WP.loopK (fun (_:Unit)=>[(40,.int .i64 0)]) (fun (_:Unit)=>R) [(0,_),(6,_),(38,_),(39,_)] (fun (_:Unit)=>True) (fun (_:Unit)=>0) () (trivial) ?_
  intro _ _
  refine WP.seq<|WP.reg<|WL.e e_lss<|WL.next<|WP.seq ?_
  refine WP.cond rfl (fun h1=>?_) (fun h1=>?_)
  ·simp at h1
  ·skip
   refine WP.exit<|PO.past nofun<|PO.round nofun<|PO.blockX<|PO.next<|WP.seq<|WP.reg<|WL.e e_assign<|WL.next<|WP.ret ?_
   exact PO.fin Tryz.results16 (rv_tmp rv_nil) hK
theorem FineN_spec {g:World}:Spec Tryz.prog g 16 [.pointer none] [] fun K R=>K (.bool false) R:=by
 refine Spec.intro Tryz.func16 rfl Tryz.ntmps16 rfl fun R K hK=>?_
 refine WP.seq<|WP.reg<|WL.e e_assign<|WL.next<|WP.seq<|WP.seq<|WP.reg<|WL.e e_move ?_
 refine WL.h (h_call (WtickN_spec 9) k43 ?_)
 refine WL.e e_eql<|WL.next<|WP.cond_t rfl<|WP.seq<|WP.reg<|WL.e e_assign<|WL.next<|WP.ret<|PO.past nofun ?_
 exact PO.fin Tryz.results16 (rv_tmp rv_nil) hK
set_option maxHeartbeats 4000000 in
theorem lives_spec {g:World}:Spec Tryz.prog g 7 [] [] fun K R=>K (.bool true) R:=by
 refine Spec.intro Tryz.func7 rfl Tryz.ntmps7 rfl fun R K hK=>?_
 refine WP.seq<|WP.reg<|WL.e e_assign<|WL.next<|WP.seq<|WP.reg<|WL.e (e_build z39 p39 (.z (.int .u32 0)<|.o (.const (.int .u8 1)) rfl<|.o (.const (.int .u32 2)) rfl<|.z (.slice none 0 0)<|.z (.slice none 0 0)<|.n))<|WL.e (e_build z39 p39 (.z (.int .u32 0)<|.o (.const (.int .u8 1)) rfl<|.o (.const (.int .u32 1)) rfl<|.z (.slice none 0 0)<|.z (.slice none 0 0)<|.n)) ?_
 refine WL.h (h_bs sl22 z39 (.a5 (.tmp 8) rfl<|.a5 (.tmp 9) rfl<|.n) fun b1=>?_)
 refine WL.h (h_call (JOrder_spec (l:=two) (lit_rl deedE two rfl) (by decide) (fun u=>Nat.le_trans (List.length_filter_le _ _) (by decide))) k14 ?_)
 refine ⟨fun h=>absurd h (by decide),fun _ h=>absurd (RkE.local (by decide) (by simp [two,dd])) h,fun _ _ a1 m1 c1 out1 ho1=>?_⟩
 obtain rfl:=two_out ho1
 refine WL.e e_move<|WL.e e_extract<|WL.e e_extract<|WL.e e_assign<|WL.e e_assign<|WL.next<|WP.seq<|WP.reg<|WL.conv (M:=pu True::_) (fun S h=>pu_stars trivial h) ?_
 refine WL.h (h_call (JOrder_spec (A:=pu True) (l:=[]) nil_rl (by simp) (by intro u;simp [ofUnit])) k14 ?_)
 refine ⟨fun h=>absurd h (by decide),fun _ h=>absurd (RkE.local (by simp) (by simp)) h,fun _ _ a2 m2 c2 out2 ho2=>?_⟩
 obtain rfl:out2=[]:=List.length_eq_zero_iff.1 ho2.len
 refine WL.len (fun hm=>?_)
 subst hm
 refine WL.e e_move<|WL.e e_extract<|WL.e e_extract<|WL.e e_assign<|WL.e e_assign<|WL.next<|WP.seq<|WP.reg<|WL.e (e_build z39 p39 (.o (.const (.int .u32 7)) rfl<|.o (.const (.int .u8 1)) rfl<|.o (.const (.int .u32 1)) rfl<|.z (.slice none 0 0)<|.z (.slice none 0 0)<|.n))<|WL.e (e_build z39 p39 (.o (.const (.int .u32 8)) rfl<|.o (.const (.int .u8 1)) rfl<|.o (.const (.int .u32 2)) rfl<|.z (.slice none 0 0)<|.z (.slice none 0 0)<|.n))<|WL.e (e_build z39 p39 (.o (.const (.int .u32 8)) rfl<|.o (.const (.int .u8 2)) rfl<|.o (.const (.int .u32 1)) rfl<|.z (.slice none 0 0)<|.z (.slice none 0 0)<|.n))<|WL.e (e_build z39 p39 (.o (.const (.int .u32 7)) rfl<|.o (.const (.int .u8 2)) rfl<|.o (.const (.int .u32 2)) rfl<|.z (.slice none 0 0)<|.z (.slice none 0 0)<|.n)) ?_
 refine WL.h (h_bs sl22 z39 (.a5 (.tmp 19) rfl<|.a5 (.tmp 20) rfl<|.a5 (.tmp 21) rfl<|.a5 (.tmp 22) rfl<|.n) fun b2=>?_)
 refine WL.h (h_call (JOrder_spec (l:=four_) (lit_rl deedE four_ rfl) (by decide) (fun u=>Nat.le_trans (List.length_filter_le _ _) (by decide))) k14 ?_)
 refine ⟨fun h=>absurd h (by decide),fun _ _=>?_,fun _ h=>absurd h four_no⟩
 refine WL.e e_move<|WL.e e_extract<|WL.e e_extract<|WL.e e_assign<|WL.e e_assign<|WL.next<|WP.seq<|WP.reg<|WL.e e_move<|WL.e e_move ?_
 refine WL.bool 28 rfl (fun k1=>?_) (fun k1=>?_)
 ·skip
  refine WL.e e_move<|WL.e (el_len (xs:=[1,0]) sl23 sl_rl)<|WL.e e_eql<|WL.e e_pick_t<|WL.e e_move ?_
  refine WL.bool 33 rfl (fun k2=>?_) (fun k2=>?_)
  ·skip
   refine WL.e e_move<|WL.e (el_ia (j:=0) (xs:=[1,0]) sl23 sl_rl (by decide))<|WL.e (el_load0 (j:=0) (xs:=[1,0]) (a:=1) a3 natE sl_rl rfl)<|WL.e e_eql<|WL.e e_pick_t<|WL.e e_move ?_
   refine WL.bool 39 rfl (fun k3=>?_) (fun k3=>?_)
   ·skip
    refine WL.e e_move<|WL.e (el_ia (j:=1) (xs:=[1,0]) sl23 sl_rl (by decide))<|WL.e (el_load0 (j:=1) (xs:=[1,0]) (a:=0) a3 natE sl_rl rfl)<|WL.e e_eql<|WL.e e_pick_t<|WL.e e_move ?_
    refine WL.bool 45 rfl (fun k4=>?_) (fun k4=>?_)
    ·skip
     refine WL.e e_move<|WL.e e_pick_t<|WL.e e_move ?_
     refine WL.bool 48 rfl (fun k5=>?_) (fun k5=>?_)
     ·skip
      refine WL.e e_move<|WL.e (e_len_sl sl23)<|WL.e e_eql<|WL.e e_pick_t<|WL.e e_move ?_
      refine WL.bool 53 rfl (fun k6=>?_) (fun k6=>?_)
      ·skip
       refine WL.e e_move<|WL.e e_not<|WL.e e_pick_t<|WL.e e_move ?_
       refine WL.bool 57 rfl (fun k7=>?_) (fun k7=>?_)
       ·skip
        refine WL.e (e_buildA z25 Tryz.underlying25 s24 (.z (.slice none 0 0)<|.z (.slice none 0 0)<|.z (.slice none 0 0)<|.n)) ?_
        refine WL.h (h_call (Serial0_spec) k10 ?_)
        refine WL.e e_pick_t<|WL.e e_move ?_
        refine WL.bool 61 rfl (fun k8=>?_) (fun k8=>?_)
        ·skip
         refine WL.h (h_call (FineN_spec) k16 ?_)
         refine WL.e e_not<|WL.e e_pick_t<|WL.e e_move ?_
         refine WL.bool 65 rfl (fun k9=>?_) (fun k9=>?_)
         ·skip
          refine WL.h (h_call (WNew_spec) k17 ?_)
          intro w d0 c0 n1 n2 n3 bg
          refine WL.h (h_call (Fine_spec) k16 ?_)
          refine WL.e e_pick_t<|WL.e e_assign<|WL.next<|WP.ret ?_
          exact PO.finE Tryz.results7 (rv_tmp rv_nil) rfl hK
         ·cases k9 
        ·cases k8 
       ·cases k7 
      ·exact absurd k6 (by decide) 
     ·cases k5 
    ·exact absurd k4 (by decide) 
   ·exact absurd k3 (by decide) 
  ·exact absurd k2 (by decide) 
 ·cases k1 
end Go.SL
namespace Go.SL.Fc
open Go Go.Proofs Go.SL
theorem f44_0:fldOf Tryz.prog 44 0=some 0:=by kernel_rfl
theorem f44_1:fldOf Tryz.prog 44 1=some 1:=by kernel_rfl
theorem f44_2:fldOf Tryz.prog 44 2=some 2:=by kernel_rfl
theorem f44_3:fldOf Tryz.prog 44 3=some 3:=by kernel_rfl
theorem k7:callable Tryz.prog 7=true:=by kernel_rfl
end Go.SL.Fc
namespace Go.SL
open Go Go.Proofs Fc
theorem fill45 {a0 a1 a2 a3 a4 b0 b1 b2 b3 b4 c0 c1 c2 c3 c4 d0 d1 d2 d3 d4:Value}:Instr.fill (fun i=>some (i * 5,5)) (List.replicate 4 [Value.int .u32 0,Value.int .u8 0,Value.int .u32 0,Value.slice none 0 0,Value.slice none 0 0]).flatten.toArray [(0,.agg #[a0,a1,a2,a3,a4]),(1,.agg #[b0,b1,b2,b3,b4]),(2,.agg #[c0,c1,c2,c3,c4]),(3,.agg #[d0,d1,d2,d3,d4])]=some [a0,a1,a2,a3,a4,b0,b1,b2,b3,b4,c0,c1,c2,c3,c4,d0,d1,d2,d3,d4].toArray:=by kernel_rfl
set_option maxHeartbeats 2000000 in
theorem JCross_spec {g:World} {A:HP} {u:Value} {xs:List UInt32} (gg hh:UInt32) (c:Bool) (hA:RL A 1 u32C u xs):Spec Tryz.prog g 5 [.agg #[.int .u32 gg.toNat,.int .u32 hh.toNat,.bool c,u]] [A] fun K R=>K (.bool true) (A::R):=by
 refine Spec.intro Tryz.func5 rfl Tryz.ntmps5 rfl fun R K hK=>?_
 refine WP.seq<|WP.reg ?_
 refine WL.h (h_box fun b1=>?_)
 refine WL.e e_assign<|WL.next<|WP.seq<|WP.reg<|WL.e (e_fa f44_0)<|WL.e (e_load a35)<|WL.e e_assign<|WL.next<|WP.seq<|WP.reg<|WL.e (e_fa f44_1)<|WL.e (e_load a35)<|WL.e e_assign<|WL.next<|WP.seq<|WP.reg<|WL.e (e_fa f44_2)<|WL.e (e_load a4)<|WL.e e_assign<|WL.next<|WP.seq<|WP.reg<|WL.e (e_fa f44_3)<|WL.e (e_load a33) ?_
 refine WL.e e_assign<|WL.next<|WP.seq<|WP.seq<|WP.reg<|WL.e e_move<|WL.e (e_eql32 (b:=0))<|WL.e e_move ?_
 refine WL.bool 21 rfl (fun g1=>?_) (fun g1=>?_)
 ·skip
  refine WL.skip<|WL.skip<|WL.e e_pick_t<|WL.e e_move<|WL.skip<|WL.skip<|WL.skip<|WL.e e_pick_t<|WL.e e_move<|WL.skip<|WL.skip<|WL.skip<|WL.e e_pick_t<|WL.next<|WP.cond_t rfl<|WP.seq<|WP.reg ?_
  refine WL.h (h_call (lives_spec) k7 ?_)
  refine WL.e e_assign<|WL.next<|WP.ret<|PO.past nofun ?_
  exact PO.fin Tryz.results5 (rv_tmp rv_nil) hK
 ·replace g1:gg≠0:=by simpa using g1
  refine WL.e e_move<|WL.e (e_eql32 (b:=0))<|WL.e e_pick_f<|WL.e e_move ?_
  refine WL.bool 25 rfl (fun g2=>?_) (fun g2=>?_)
  ·skip
   refine WL.skip<|WL.skip<|WL.skip<|WL.e e_pick_t<|WL.e e_move<|WL.skip<|WL.skip<|WL.skip<|WL.e e_pick_t<|WL.next<|WP.cond_t rfl<|WP.seq<|WP.reg ?_
   refine WL.h (h_call (lives_spec) k7 ?_)
   refine WL.e e_assign<|WL.next<|WP.ret<|PO.past nofun ?_
   exact PO.fin Tryz.results5 (rv_tmp rv_nil) hK
  ·replace g2:hh≠0:=by simpa using g2
   refine WL.e e_move<|WL.e e_move<|WL.e (e_eql32)<|WL.e e_pick_f<|WL.e e_move ?_
   refine WL.bool 30 rfl (fun g3=>?_) (fun g3=>?_)
   ·skip
    refine WL.skip<|WL.skip<|WL.skip<|WL.e e_pick_t<|WL.next<|WP.cond_t rfl<|WP.seq<|WP.reg ?_
    refine WL.h (h_call (lives_spec) k7 ?_)
    refine WL.e e_assign<|WL.next<|WP.ret<|PO.past nofun ?_
    exact PO.fin Tryz.results5 (rv_tmp rv_nil) hK
   ·replace g3:gg≠hh:=by simpa using g3
    refine WL.e e_move<|WL.e (el_len (xs:=xs) sl33 hA)<|WL.e e_gtr<|WL.e e_pick_f<|WL.next ?_
    refine WP.cond rfl (fun h4=>?_) (fun h4=>?_)
    ·skip
     refine WP.seq<|WP.reg ?_
     refine WL.h (h_call (lives_spec) k7 ?_)
     refine WL.e e_assign<|WL.next<|WP.ret<|PO.past nofun ?_
     exact PO.fin Tryz.results5 (rv_tmp rv_nil) hK
    ·replace h4:xs.length≤30:=by rw [decide_eq_false_iff_not] at h4;omega
     refine WP.skip<|PO.next<|WP.seq<|WP.reg<|WL.e e_move<|WL.e (e_build z39 p39 (.o (.tmp 36) rfl<|.o (.const (.int .u8 1)) rfl<|.o (.const (.int .u32 10)) rfl<|.z (.slice none 0 0)<|.z (.slice none 0 0)<|.n))<|WL.e e_move<|WL.e (e_build z39 p39 (.o (.tmp 38) rfl<|.o (.const (.int .u8 1)) rfl<|.o (.const (.int .u32 20)) rfl<|.z (.slice none 0 0)<|.z (.slice none 0 0)<|.n))<|WL.e e_move<|WL.e (e_build z39 p39 (.o (.tmp 40) rfl<|.o (.const (.int .u8 2)) rfl<|.o (.const (.int .u32 10)) rfl<|.z (.slice none 0 0)<|.z (.slice none 0 0)<|.n))<|WL.e e_move<|WL.e (e_build z39 p39 (.o (.tmp 42) rfl<|.o (.const (.int .u8 2)) rfl<|.o (.const (.int .u32 20)) rfl<|.z (.slice none 0 0)<|.z (.slice none 0 0)<|.n)) ?_
     refine WL.h (h_bs (hc:=fill45) sl22 z39 (.a5 (.tmp 37) rfl<|.a5 (.tmp 39) rfl<|.a5 (.tmp 41) rfl<|.a5 (.tmp 43) rfl<|.n) fun b2=>?_)
     refine WL.e e_assign<|WL.next ?_
     refine WP.cutR (fun (_:Unit)=>[]) (fun (_:Unit)=>Sl 39 5 DeedM.c (.slice (some ⟨b2,0,none⟩) 4 4) ((crossA gg hh c))::A::R) [(2,_),(5,_),(6,_),(7,_)] (fun (_:Unit)=>True) ?_ ?_
     ·skip
      refine WP.seq<|WP.reg<|WL.e e_move<|WL.next ?_
      refine WP.cond rfl (fun h5=>?_) (fun h5=>?_)
      ·skip
       refine WP.reg<|WL.e e_move<|WL.e (e_ia (j:=2) (n:=4) sl22 (by decide))<|WL.e (e_fa f39_2) ?_
       refine WL.h' (h_store s35 ?_)
       refine WL.nil ?_
       subst h5
       refine PO.cls (A:=Sl 39 5 DeedM.c (.slice (some ⟨b2,0,none⟩) 4 4) ((crossA gg hh true))) (B:=[cl b2 39 _]) (fun S hS=>lit_own (n:=4) deedE (crossA gg hh true) rfl rfl (by decide) S (stars_one hS)) ?_
       exact PO.meetK () trivial
      ·skip
       refine WP.skip ?_
       subst h5
       refine PO.cls (A:=Sl 39 5 DeedM.c (.slice (some ⟨b2,0,none⟩) 4 4) ((crossA gg hh false))) (B:=[cl b2 39 _]) (fun S hS=>lit_own (n:=4) deedE (crossA gg hh false) rfl rfl (by decide) S (stars_one hS)) ?_
       exact PO.meetK () trivial
     ·intro _ _
      refine WP.seq<|WP.seq<|WP.reg<|WL.e e_assign<|WL.next<|WP.block ?_
      rw [show (crossA gg hh c)=(crossL gg hh c 0) by simp [crossL]]
      refine WP.loopK (fun (z:Nat × SV)=>[(8,.int .i64 z.1),(7,z.2.v)]) (fun (z:Nat × SV)=>Sl 39 5 DeedM.c (z.2.v) ((crossL gg hh c z.1))::A::R) [(2,_),(5,_),(6,_)] (fun (z:Nat × SV)=>z.1≤xs.length) (fun (z:Nat × SV)=>xs.length - z.1) (0,⟨some ⟨b2,0,none⟩,4,4⟩) (Nat.zero_le _) ?_
      rintro ⟨i,sv⟩ hi
      simp only at hi
      dsimp only
      have hcl:=cross_len gg hh c i
      refine WP.seq<|WP.seq<|WP.reg<|WL.e e_move<|WL.e e_move<|WL.e (el_len (xs:=xs) sl33 hA)<|WL.e e_lss<|WL.next ?_
      refine WP.cond rfl (fun h6=>?_) (fun h6=>?_)
      ·replace h6:i < xs.length:=by rw [decide_eq_true_eq] at h6;omega
       refine WP.skip<|PO.next<|WP.seq<|WP.block<|WP.reg<|WL.e e_move<|WL.e e_move<|WL.e (e_rem (c:=((i % 3:Nat):Int)) rfl rfl (by decide) (Int.ofNat_tmod i 3).symm)<|WL.e (e_c8 (by rw [Tryz.underlying3];rfl) Tryz.underlying5)<|WL.e (e_add (c:=((1+UInt8.ofNat (i % 3)).toNat:Int)) rfl rfl (wadd8 1 _))<|WL.e e_move<|WL.e (e_c32 (by rw [Tryz.underlying3];rfl) Tryz.underlying35)<|WL.e (e_add32 (a:=100))<|WL.e (e_build z39 p39 (.z (.int .u32 0)<|.o (.tmp 59) rfl<|.o (.tmp 62) rfl<|.z (.slice none 0 0)<|.z (.slice none 0 0)<|.n)) ?_
       refine WL.h (h_bs sl22 z39 (.a5 (.tmp 63) rfl<|.n) fun b3=>?_)
       refine WL.h (hl_append (xs:=(crossL gg hh c i)) (ys:=[moreD i]) sl22 deedE z39 (lit_rl deedE [moreD i] rfl) (by simp only [List.length_singleton];omega) (fun a5 n5 c5=>?_))
       refine WL.e e_assign<|WL.nil<|PO.blockN<|PO.next<|WP.reg<|WL.e e_move<|WL.e (e_add (c:=((i+1:Nat):Int)) rfl rfl (by rw [w_i64 (by omega) (by omega)];omega))<|WL.e e_assign<|WL.nil ?_
       rw [← cross_snoc]
       exact PO.againK (i+1,⟨a5,n5,c5⟩) (by simp only;omega) (by simp only;omega)
      ·obtain rfl:i=xs.length:=by rw [decide_eq_false_iff_not] at h6;omega
       refine WP.exit<|PO.past nofun<|PO.round nofun<|PO.blockX<|PO.next<|WP.seq<|WP.reg<|WL.e e_move ?_
       refine WL.h (h_call (JOrder_spec (l:=(crossL gg hh c xs.length)) sl_rl (by omega) (cross_unit gg hh c xs.length)) k14 ?_)
       refine ⟨fun h=>absurd (h.symm.trans (cross_ok gg hh c _ h4)) (by decide),fun _ h=>?_,fun _ hR a6 m6 c6 out hO=>?_⟩
       ·have hc:c=true:=by
         cases c with
         | true=>rfl
         | false=>exact absurd (cross_yes g1 g2 g3 h4) h
        subst hc
        refine WL.e e_move<|WL.e e_extract<|WL.e e_extract<|WL.e e_assign<|WL.e e_assign<|WL.next<|WP.seq<|WP.reg<|WL.e e_move<|WL.e e_move<|WL.e e_not<|WL.e (e_eqlB Tryz.underlying4)<|WL.e e_move ?_
        refine WL.bool 75 rfl (fun k1=>?_) (fun k1=>?_)
        ·skip
         refine WL.e e_move<|WL.e e_move ?_
         refine WL.bool 77 rfl (fun k2=>?_) (fun k2=>?_)
         ·skip
          refine WL.e e_move<|WL.e (e_len_sl sl23)<|WL.e e_eql<|WL.e e_pick_t<|WL.e e_move ?_
          refine WL.bool 82 rfl (fun k3=>?_) (fun k3=>?_)
          ·skip
           refine WL.skip<|WL.skip<|WL.skip<|WL.skip<|WL.skip<|WL.skip<|WL.skip<|WL.skip<|WL.skip<|WL.e e_pick_t<|WL.e e_pick_t<|WL.e e_move ?_
           refine WL.h (h_call (lives_spec) k7 ?_)
           refine WL.e e_pick_t<|WL.e e_assign<|WL.next<|WP.ret ?_
           exact PO.finE Tryz.results5 (rv_tmp rv_nil) rfl hK
          ·exact absurd k3 (by decide) 
         ·cases k2 
        ·exact absurd k1 (by decide) 
       ·have hc:c=false:=by
         cases c with
         | false=>rfl
         | true=>exact absurd hR (cross_no g1 g2 g3 _)
        subst hc
        refine WL.e e_move<|WL.e e_extract<|WL.e e_extract<|WL.e e_assign<|WL.e e_assign<|WL.next<|WP.seq<|WP.reg<|WL.e e_move<|WL.e e_move<|WL.e e_not<|WL.e (e_eqlB Tryz.underlying4)<|WL.e e_move ?_
        refine WL.bool 75 rfl (fun k1=>?_) (fun k1=>?_)
        ·skip
         refine WL.e e_move<|WL.e e_move ?_
         refine WL.bool 77 rfl (fun k2=>?_) (fun k2=>?_)
         ·cases k2 
         ·skip
          refine WL.skip<|WL.skip<|WL.skip<|WL.e e_pick_f<|WL.e e_move<|WL.e e_move<|WL.e e_not<|WL.e e_move ?_
          refine WL.bool 85 rfl (fun k3=>?_) (fun k3=>?_)
          ·skip
           refine WL.e e_move<|WL.e (el_len (xs:=out) sl23 sl_rl)<|WL.e e_move<|WL.e (el_len (xs:=(crossL gg hh false xs.length)) sl22 sl_rl)<|WL.e e_eql<|WL.e e_pick_t<|WL.e e_pick_f<|WL.e e_pick_t<|WL.e e_move ?_
           refine WL.bool 94 rfl (fun k4=>?_) (fun k4=>?_)
           ·skip
            refine WL.h (h_call (lives_spec) k7 ?_)
            refine WL.e e_pick_t<|WL.e e_assign<|WL.next<|WP.ret ?_
            exact PO.finE Tryz.results5 (rv_tmp rv_nil) rfl hK
           ·exact absurd k4 (by rw [hO.len];simp) 
          ·cases k3 
        ·exact absurd k1 (by decide) 
end Go.SL
set_option linter.unusedSectionVars false
namespace Go.SL
open Go Go.ChangeShapes Go.Deep
section
variable {H : Type} {enc : TypeId × Value → H} {P : Program} {W : World} {held : Bool}
theorem add_off (a:Addr) (n:Nat) (h:a.spot=none):a.add n=⟨a.block,a.off+n,none⟩:=by
  obtain ⟨b,o,s⟩:=a
  simp at h;subst h
  exact add_none b o n
theorem slice_rl {α:Type} {t e:TypeId} {fuel z:Nat} {cs:List Value} {x:DataW H × List MemPlace} {c:α→List Value} (ht:P.underlying t=some (.slice e)) (hz:P.cellsOf e=z) (h0:0 < z) (he:EncOk z c)
    (hel:∀ n cs' y,DataW.trod enc P W 0 (fun _=>true) held n e cs'=some y→∃ a:α,cs'=c a) (h:DataW.trod enc P W 0 (fun _=>true) held fuel t cs=some x) :
    ∃ (v:SV) (xs:List α),cs=[v.v]∧RL (Old W) z c v.v xs∧(xs=[]∨∃ el sp,x.1=.slice el sp∧el.length=xs.length):=by
  rcases open_slice ht h with ⟨hcs,_⟩ | ⟨a,len,cap,m,n,D,Pl,hcs,_,hl,hm,hmm,hxx,hi⟩
  · exact ⟨⟨none,0,0⟩,[],hcs,nil_rl,.inl rfl⟩
  simp only [if_true] at hmm
  subst hmm
  rw [hz] at hi
  have hi':∀ i:Fin m,∃ y:α,∀ j,j < z→W.cell? ((a.add (i * z)).add j)=(c y)[j]?:=fun i=>by
    obtain ⟨cs',h1,h2⟩:=hi i i.2
    obtain ⟨y,rfl⟩:=hel _ _ _ h2
    exact ⟨y,(World.cells?_some h1).2.2⟩
  by_cases hc0:m=0
  · have:len=0:=by omega
    subst this
    exact ⟨⟨some a,0,m⟩,[],hcs,nil_rl,.inl rfl⟩
  let Y:Fin m→α:=fun i=>Classical.choose (hi' i)
  have hY:∀ i:Fin m,∀ j,j < z→W.cell? ((a.add (i * z)).add j)=(c (Y i))[j]?:=fun i=>Classical.choose_spec (hi' i)
  have hsp:a.spot=none:=by
    have:=hY ⟨0,by omega⟩ 0 h0
    have hlt:0 < (c (Y ⟨0,by omega⟩)).length:=by rw [he.len];exact h0
    rw [List.getElem?_eq_getElem hlt] at this
    have h2:=World.cell?_spot this
    cases hs:a.spot with
    | none=>rfl
    | some s=>simp [Addr.add,hs] at h2
  have hcell:∀ k (hk:k < m * z),W.cell? ⟨a.block,a.off+k,none⟩=(c (Y ⟨k / z,(Nat.div_lt_iff_lt_mul h0).2 hk⟩))[k % z]?:=fun k hk=>by
    have:=hY ⟨k / z,(Nat.div_lt_iff_lt_mul h0).2 hk⟩ (k % z) (Nat.mod_lt _ h0)
    rw [add_off a _ hsp,add_none] at this
    have e:a.off+k / z * z+k % z=a.off+k:=by have:=Nat.div_add_mod k z;rw [Nat.mul_comm] at this;omega
    simp only [e] at this
    exact this
  have hmz:0 < m * z:=Nat.mul_pos (by omega) h0
  obtain ⟨arr,t',fr,hb⟩:∃ arr t' fr,W.heap[a.block]?=some (.cells arr t' fr):=by
    have:=hcell 0 hmz
    rw [List.getElem?_eq_getElem (by rw [he.len];exact Nat.mod_lt _ h0)] at this
    unfold World.cell? at this
    cases hh:W.heap[a.block]? with
    | none=>rw [hh] at this;cases this
    | some o=>rw [hh] at this;cases o <;> first | exact ⟨_,_,_,rfl⟩ | cases this
  have hval:∀ k (hk:k < m * z),arr.toList[a.off+k]?=(c (Y ⟨k / z,(Nat.div_lt_iff_lt_mul h0).2 hk⟩))[k % z]?:=fun k hk=>by
    have:=hcell k hk
    unfold World.cell? at this
    rw [hb] at this
    simpa using this
  have hlen:a.off+m * z≤arr.toList.length:=by
    have:=hval (m * z - 1) (by omega)
    have hlt:(m * z - 1) % z < (c (Y ⟨(m * z - 1) / z,(Nat.div_lt_iff_lt_mul h0).2 (by omega)⟩)).length:=by rw [he.len];exact Nat.mod_lt _ h0
    rw [List.getElem?_eq_getElem hlt] at this
    have:=idx_lt this
    omega
  refine ⟨⟨some a,len,m⟩,List.ofFn fun i:Fin len=>Y ⟨i,by omega⟩,hcs,fun S hS=>?_,.inr ⟨_,_,by rw [hxx],by simp⟩⟩
  refine .inr ⟨a.block,a.off,m,arr.toList,(t',fr),?_,by simpa using hl,?_,hlen,?_⟩
  · obtain ⟨b,o,s⟩:=a
    simp at hsp;subst hsp
    simp
  · exact hS _ _ (by simpa [heapOf] using hb)
  · apply List.ext_getElem?
    intro k
    rw [td_get,List.length_ofFn]
    by_cases hk:k < len * z
    · rw [if_pos hk]
      have hkm:k < m * z:=Nat.lt_of_lt_of_le hk (Nat.mul_le_mul_right _ hl)
      rw [hval k hkm]
      have hd:k / z < len:=(Nat.div_lt_iff_lt_mul h0).2 hk
      have hx:(List.ofFn fun i:Fin len=>Y ⟨i,by omega⟩)[k / z]?=some (Y ⟨k / z,by omega⟩):=by simp [hd]
      have:=flat_at he hx (k % z) (Nat.mod_lt _ h0)
      rw [show k / z * z+k % z=k by have:=Nat.div_add_mod k z;rw [Nat.mul_comm] at this;omega] at this
      exact this
    · rw [if_neg hk]
      apply List.getElem?_eq_none
      rw [flat_len he,List.length_ofFn];omega
theorem below_of_spec1 {P:Program} {w:World} {f:FuncId} {args:List Value} (h:Spec P w f args [Old w] fun K R=>K (.bool true) (Old w::R)):Calls P f args.toArray w fun e w'=>e=.returned (.bool true)∧Go.RowKit.Below w.heap.size w w':=by
  refine (h [] (fun v M=>v=.bool true∧M=[Old w]) w (sat_old w) ⟨rfl,rfl⟩).mono ?_
  rintro e w' ⟨v,M,rfl,⟨rfl,rfl⟩,hs⟩
  exact ⟨rfl,old_below hs⟩
end
end Go.SL
