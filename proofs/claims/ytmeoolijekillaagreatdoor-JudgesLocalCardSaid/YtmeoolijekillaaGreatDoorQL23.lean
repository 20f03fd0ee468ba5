import Derived.Test.YtmeoolijekillaaGreatDoorQL22
import Derived.Deep.Slices
import Derived.ChangeSame
import Derived.SizedLaws
set_option linter.unusedSimpArgs false
set_option linter.unusedVariables false
namespace Go.SL.Fc
open Go Go.Proofs Go.SL
theorem ar25:arrOf Tryz.prog 25=some (24,3,1):=by kernel_rfl
theorem k10:callable Tryz.prog 10=true:=by kernel_rfl
theorem k14:callable Tryz.prog 14=true:=by kernel_rfl
theorem k16:callable Tryz.prog 16=true:=by kernel_rfl
theorem k17:callable Tryz.prog 17=true:=by kernel_rfl
theorem k22:callable Tryz.prog 22=true:=by kernel_rfl
theorem k43:callable Tryz.prog 43=true:=by kernel_rfl
theorem k44:callable Tryz.prog 44=true:=by kernel_rfl
theorem k45:callable Tryz.prog 45=true:=by kernel_rfl
theorem p39:placesOf Tryz.prog 39=some [(0,1),(1,1),(2,1),(3,1),(4,1)]:=by kernel_rfl
theorem z25:zeroOf Tryz.prog 25=some [.slice none 0 0,.slice none 0 0,.slice none 0 0]:=by kernel_rfl
end Go.SL.Fc
namespace Go.SL
open Go Go.Proofs Fc
theorem EqR0_spec {g:World} {a b:Option Addr} {c d:Nat}:Spec Tryz.prog g 22 [.slice a 0 c,.slice b 0 d] [] fun K R=>K (.bool true) R:=by
 refine Spec.intro Tryz.func22 rfl Tryz.ntmps22 rfl fun R K hK=>?_
 refine WP.seq<|WP.reg<|WL.e e_assign<|WL.next<|WP.seq<|WP.seq<|WP.reg<|WL.e e_move<|WL.e (e_len_sl sl24)<|WL.e e_move<|WL.e (e_len_sl sl24)<|WL.e e_neq<|WL.next<|WP.cond_f rfl<|WP.skip<|PO.next<|WP.seq<|WP.seq<|WP.reg<|WL.e e_move<|WL.e (e_len_sl sl24)<|WL.e e_move<|WL.next<|WP.block ?_
 refine WP.loopK (fun (_:Unit)=>[(13,.int .i64 0)]) (fun (_:Unit)=>R) [(0,_),(1,_),(12,_)] (fun (_:Unit)=>True) (fun (_:Unit)=>0) () (trivial) ?_
 intro _ _
 refine WP.seq<|WP.reg<|WL.e e_lss<|WL.next<|WP.seq ?_
 refine WP.cond rfl (fun h1=>?_) (fun h1=>?_)
 ·simp at h1
 ·skip
  refine WP.exit<|PO.past nofun<|PO.round nofun<|PO.blockX<|PO.next<|WP.seq<|WP.reg<|WL.e e_assign<|WL.next<|WP.ret ?_
  exact PO.fin Tryz.results22 (rv_tmp rv_nil) hK
theorem Serial0_spec {g:World} {a1 a2 a3 a4 a5:Option Addr} {c1 c2 c3 c4 c5:Nat}:Spec Tryz.prog g 10 [.slice a1 0 c1,.slice a2 0 c2,.agg #[.slice a3 0 c3,.slice a4 0 c4,.slice a5 0 c5]] [] fun K R=>K (.bool true) R:=by
 refine Spec.intro Tryz.func10 rfl Tryz.ntmps10 rfl fun R K hK=>?_
 refine WP.seq<|WP.reg ?_
 refine WL.h (h_box fun b1=>?_)
 refine WL.e e_assign<|WL.next<|WP.seq<|WP.reg ?_
 refine WL.h (h_makeMapB (ek:=eI64) fun sm=>?_)
 refine WL.e e_assign<|WL.next<|WP.seq<|WP.seq<|WP.reg<|WL.e e_move<|WL.e (e_len_sl sl23)<|WL.e e_move<|WL.next<|WP.block<|WP.loopK (fun (_:Unit)=>[(21,.int .i64 0)]) (fun (_:Unit)=>cl b1 25 [.slice a3 0 c3,.slice a4 0 c4,.slice a5 0 c5]::R) [(0,_),(1,_),(5,_),(7,_),(19,_),(20,_)] (fun (_:Unit)=>True) (fun (_:Unit)=>0) () (trivial) ?_
 intro _ _
 refine WP.seq<|WP.reg<|WL.e e_lss<|WL.next<|WP.seq ?_
 refine WP.cond rfl (fun h1=>?_) (fun h1=>?_)
 ·simp at h1
 ·skip
  refine WP.exit<|PO.past nofun<|PO.round nofun<|PO.blockX<|PO.next<|WP.seq<|WP.seq<|WP.reg<|WL.e e_move<|WL.e (e_len_sl sl23)<|WL.e e_move<|WL.e (e_len_sl sl22)<|WL.e e_neq<|WL.next<|WP.cond_f rfl<|WP.skip<|PO.next<|WP.seq<|WP.reg ?_
  refine WL.h (h_alloc z25 fun b2=>?_)
  refine WL.next<|WP.seq<|WP.seq<|WP.reg<|WL.e e_move<|WL.e (e_len_sl sl23)<|WL.e e_move<|WL.next<|WP.block<|WP.loopK (fun (_:Unit)=>[(65,.int .i64 0)]) (fun (_:Unit)=>cl b1 25 [.slice a3 0 c3,.slice a4 0 c4,.slice a5 0 c5]::cl b2 25 [.slice none 0 0,.slice none 0 0,.slice none 0 0]::R) [(0,_),(5,_),(10,_),(63,_),(64,_)] (fun (_:Unit)=>True) (fun (_:Unit)=>0) () (trivial) ?_
  intro _ _
  refine WP.seq<|WP.reg<|WL.e e_lss<|WL.next<|WP.seq ?_
  refine WP.cond rfl (fun h1=>?_) (fun h1=>?_)
  ·simp at h1
  ·skip
   refine WP.exit<|PO.past nofun<|PO.round nofun<|PO.blockX<|PO.next<|WP.seq<|WP.seq<|WP.reg<|WL.e e_move<|WL.next<|WP.block<|WP.loopK (fun (i:Nat)=>[(119,.int .i64 i)]) (fun (i:Nat)=>cl b1 25 [.slice a3 0 c3,.slice a4 0 c4,.slice a5 0 c5]::cl b2 25 [.slice none 0 0,.slice none 0 0,.slice none 0 0]::R) [(5,_),(10,_)] (fun (i:Nat)=>i≤3) (fun (i:Nat)=>3 - i) 0 (Nat.zero_le _) ?_
   intro i hi
   refine WP.seq<|WP.reg<|WL.e e_lss<|WL.next<|WP.seq ?_
   refine WP.cond rfl (fun h3=>?_) (fun h3=>?_)
   ·replace h3:i < 3:=by rw [decide_eq_true_eq] at h3;omega
    have h4:i=0∨i=1∨i=2:=by omega
    have hv5:([.slice none 0 0,.slice none 0 0,.slice none 0 0]:List Value)[0+i * 1]?=some (.slice none 0 0):=by rcases h4 with rfl | rfl | rfl <;> rfl
    obtain ⟨a6,c6,hv6⟩:∃ a c,([.slice a3 0 c3,.slice a4 0 c4,.slice a5 0 c5]:List Value)[0+i * 1]?=some (.slice a 0 c):=by rcases h4 with rfl | rfl | rfl <;> exact ⟨_,_,rfl⟩
    refine WP.skip<|PO.next<|WP.seq<|WP.block<|WP.seq<|WP.reg<|WL.e e_move<|WL.e e_assign<|WL.next<|WP.seq<|WP.draws mixedOk 8<|RW.e 0 rfl e_move<|RW.e 1 rfl (e_iaA (j:=i) ar25 h3)<|RW.e 2 rfl (e_load (l:=[.slice none 0 0,.slice none 0 0,.slice none 0 0]) a24 (hv:=hv5))<|RW.e 3 rfl e_move<|RW.e 4 rfl (e_iaA (j:=i) ar25 h3)<|RW.e 5 rfl (e_load (l:=[.slice a3 0 c3,.slice a4 0 c4,.slice a5 0 c5]) a24 (hv:=hv6)) ?_
    refine RW.any (is:=[6]) rfl ⟨?_,trivial⟩
    refine RWat.h rfl rfl rfl ?_
    refine (h_call (EqR0_spec) k22 ?_)
    refine ⟨trivial,?_⟩
    refine RW.e 7 rfl e_not<|RW.done<|PO.next<|WP.cond_f rfl<|WP.skip<|PO.blockN<|PO.next<|WP.reg<|WL.e (e_add (c:=((i+1:Nat):Int)) rfl rfl (by rw [w_i64 (by omega) (by omega)];omega))<|WL.e e_move<|WL.nil ?_
    exact PO.againK (i+1) (by omega) (by omega)
   ·skip
    refine WP.exit<|PO.past nofun<|PO.round nofun<|PO.blockX<|PO.next<|WP.seq<|WP.reg<|WL.e e_assign<|WL.next<|WP.ret ?_
    exact PO.fin Tryz.results10 (rv_tmp rv_nil) hK
theorem Fine_spec {g:World} {w d0 c0 n1 n2 n3 bg:Nat}:Spec Tryz.prog g 16 [.pointer (some ⟨w,0,none⟩)] [cl w 91 [.pointer (some ⟨d0,0,none⟩),.pointer (some ⟨c0,0,none⟩),.pointer none,.pointer (some ⟨n1,0,none⟩),.pointer (some ⟨n2,0,none⟩),.pointer (some ⟨n3,0,none⟩),.pointer (some ⟨bg,0,none⟩),.int .u32 0,.slice none 0 0],NdF g n1,NdF g n2,NdF g n3] fun K R=>K (.bool true) R:=by
 refine Spec.intro Tryz.func16 rfl Tryz.ntmps16 rfl fun R K hK=>?_
 refine WP.seq<|WP.reg<|WL.e e_assign<|WL.next<|WP.seq<|WP.seq<|WP.reg<|WL.e e_move ?_
 refine WL.h (h_call (Wtick_spec) k43 ?_)
 refine WL.e e_eql<|WL.next<|WP.cond_f rfl<|WP.skip<|PO.next<|WP.seq<|WP.reg<|WL.e e_move ?_
 refine WL.h (h_call (WDeeds_spec) k44 ?_)
 refine WL.e e_assign<|WL.next<|WP.seq<|WP.reg<|WL.e e_move<|WL.conv (M:=pu True::_) (fun S h=>pu_stars trivial h) ?_
 refine WL.h (h_call (JOrder_spec (A:=pu True) (l:=[]) nil_rl (by simp) (by intro u;simp [ofUnit])) k14 ?_)
 refine ⟨fun h=>absurd h (by decide),fun _ h=>absurd (RkE.local (by simp) (by simp)) h,fun _ _ a9 m9 c9 out9 ho9=>?_⟩
 obtain rfl:out9=[]:=List.length_eq_zero_iff.1 ho9.len
 refine WL.len (fun hm=>?_)
 subst hm
 refine WL.e e_move<|WL.e e_extract<|WL.e e_extract<|WL.e e_assign<|WL.e e_assign<|WL.next<|WP.seq<|WP.seq<|WP.reg<|WL.e e_move<|WL.e e_not<|WL.e e_move ?_
 refine WL.bool 24 rfl (fun g1=>?_) (fun g1=>?_)
 ·cases g1 
 ·skip
  refine WL.e e_move<|WL.e e_move<|WL.e e_move ?_
  refine WL.h (h_call (WRows1_spec) k45 ?_)
  intro a1 c1
  refine WL.e e_move ?_
  refine WL.h (h_call (WRows2_spec) k45 ?_)
  intro a2 c2
  refine WL.e e_move ?_
  refine WL.h (h_call (WRows3_spec) k45 ?_)
  intro a3 c3
  refine WL.e (e_buildA z25 Tryz.underlying25 s24 (.o (.tmp 28) rfl<|.o (.tmp 30) rfl<|.o (.tmp 32) rfl<|.n)) ?_
  refine WL.h (h_call (Serial0_spec) k10 ?_)
  refine WL.e e_not<|WL.e e_pick_f<|WL.next<|WP.cond_f rfl<|WP.skip<|PO.next<|WP.seq<|WP.reg ?_
  refine WL.h (h_makeMapB (ek:=eA2) fun sm=>?_)
  refine WL.e e_assign<|WL.next<|WP.seq<|WP.seq<|WP.reg<|WL.e e_move<|WL.e (e_len_sl sl22)<|WL.e e_move<|WL.next<|WP.block<|WP.loopK (fun (_:Unit)=>[(40,.int .i64 0)]) (fun (_:Unit)=>R) [(0,_),(6,_),(38,_),(39,_)] (fun (_:Unit)=>True) (fun (_:Unit)=>0) () (trivial) ?_
  intro _ _
  refine WP.seq<|WP.reg<|WL.e e_lss<|WL.next<|WP.seq ?_
  refine WP.cond rfl (fun h1=>?_) (fun h1=>?_)
  ·simp at h1
  ·skip
   refine WP.exit<|PO.past nofun<|PO.round nofun<|PO.blockX<|PO.next<|WP.seq<|WP.reg<|WL.e e_assign<|WL.next<|WP.ret ?_
   exact PO.fin Tryz.results16 (rv_tmp rv_nil) hK
theorem FineN_spec {g:World}:Spec Tryz.prog g 16 [.pointer none] [] fun K R=>K (.bool false) R:=by
 refine Spec.intro Tryz.func16 rfl Tryz.ntmps16 rfl fun R K hK=>?_
 refine WP.seq<|WP.reg<|WL.e e_assign<|WL.next<|WP.seq<|WP.seq<|WP.reg<|WL.e e_move ?_
 refine WL.h (h_call (WtickN_spec 9) k43 ?_)
 refine WL.e e_eql<|WL.next<|WP.cond_t rfl<|WP.seq<|WP.reg<|WL.e e_assign<|WL.next<|WP.ret<|PO.past nofun ?_
 exact PO.fin Tryz.results16 (rv_tmp rv_nil) hK
set_option maxHeartbeats 4000000 in
theorem lives_spec {g:World}:Spec Tryz.prog g 7 [] [] fun K R=>K (.bool true) R:=by
 refine Spec.intro Tryz.func7 rfl Tryz.ntmps7 rfl fun R K hK=>?_
 refine WP.seq<|WP.reg<|WL.e e_assign<|WL.next<|WP.seq<|WP.reg<|WL.e (e_build z39 p39 (.z (.int .u32 0)<|.o (.const (.int .u8 1)) rfl<|.o (.const (.int .u32 2)) rfl<|.z (.slice none 0 0)<|.z (.slice none 0 0)<|.n))<|WL.e (e_build z39 p39 (.z (.int .u32 0)<|.o (.const (.int .u8 1)) rfl<|.o (.const (.int .u32 1)) rfl<|.z (.slice none 0 0)<|.z (.slice none 0 0)<|.n)) ?_
 refine WL.h (h_bs sl22 z39 (.a5 (.tmp 8) rfl<|.a5 (.tmp 9) rfl<|.n) fun b1=>?_)
 refine WL.h (h_call (JOrder_spec (l:=two) (lit_rl deedE two rfl) (by decide) (fun u=>Nat.le_trans (List.length_filter_le _ _) (by decide))) k14 ?_)
 refine ⟨fun h=>absurd h (by decide),fun _ h=>absurd (RkE.local (by decide) (by simp [two,dd])) h,fun _ _ a1 m1 c1 out1 ho1=>?_⟩
 obtain rfl:=two_out ho1
 refine WL.e e_move<|WL.e e_extract<|WL.e e_extract<|WL.e e_assign<|WL.e e_assign<|WL.next<|WP.seq<|WP.reg<|WL.conv (M:=pu True::_) (fun S h=>pu_stars trivial h) ?_
 refine WL.h (h_call (JOrder_spec (A:=pu True) (l:=[]) nil_rl (by simp) (by intro u;simp [ofUnit])) k14 ?_)
 refine ⟨fun h=>absurd h (by decide),fun _ h=>absurd (RkE.local (by simp) (by simp)) h,fun _ _ a2 m2 c2 out2 ho2=>?_⟩
 obtain rfl:out2=[]:=List.length_eq_zero_iff.1 ho2.len
 refine WL.len (fun hm=>?_)
 subst hm
 refine WL.e e_move<|WL.e e_extract<|WL.e e_extract<|WL.e e_assign<|WL.e e_assign<|WL.next<|WP.seq<|WP.reg<|WL.e (e_build z39 p39 (.o (.const (.int .u32 7)) rfl<|.o (.const (.int .u8 1)) rfl<|.o (.const (.int .u32 1)) rfl<|.z (.slice none 0 0)<|.z (.slice none 0 0)<|.n))<|WL.e (e_build z39 p39 (.o (.const (.int .u32 8)) rfl<|.o (.const (.int .u8 1)) rfl<|.o (.const (.int .u32 2)) rfl<|.z (.slice none 0 0)<|.z (.slice none 0 0)<|.n))<|WL.e (e_build z39 p39 (.o (.const (.int .u32 8)) rfl<|.o (.const (.int .u8 2)) rfl<|.o (.const (.int .u32 1)) rfl<|.z (.slice none 0 0)<|.z (.slice none 0 0)<|.n))<|WL.e (e_build z39 p39 (.o (.const (.int .u32 7)) rfl<|.o (.const (.int .u8 2)) rfl<|.o (.const (.int .u32 2)) rfl<|.z (.slice none 0 0)<|.z (.slice none 0 0)<|.n)) ?_
 refine WL.h (h_bs sl22 z39 (.a5 (.tmp 19) rfl<|.a5 (.tmp 20) rfl<|.a5 (.tmp 21) rfl<|.a5 (.tmp 22) rfl<|.n) fun b2=>?_)
 refine WL.h (h_call (JOrder_spec (l:=four_) (lit_rl deedE four_ rfl) (by decide) (fun u=>Nat.le_trans (List.length_filter_le _ _) (by decide))) k14 ?_)
 refine ⟨fun h=>absurd h (by decide),fun _ _=>?_,fun _ h=>absurd h four_no⟩
 refine WL.e e_move<|WL.e e_extract<|WL.e e_extract<|WL.e e_assign<|WL.e e_assign<|WL.next<|WP.seq<|WP.reg<|WL.e e_move<|WL.e e_move ?_
 refine WL.bool 28 rfl (fun k1=>?_) (fun k1=>?_)
 ·skip
  refine WL.e e_move<|WL.e (el_len (xs:=[1,0]) sl23 sl_rl)<|WL.e e_eql<|WL.e e_pick_t<|WL.e e_move ?_
  refine WL.bool 33 rfl (fun k2=>?_) (fun k2=>?_)
  ·skip
   refine WL.e e_move<|WL.e (el_ia (j:=0) (xs:=[1,0]) sl23 sl_rl (by decide))<|WL.e (el_load0 (j:=0) (xs:=[1,0]) (a:=1) a3 natE sl_rl rfl)<|WL.e e_eql<|WL.e e_pick_t<|WL.e e_move ?_
   refine WL.bool 39 rfl (fun k3=>?_) (fun k3=>?_)
   ·skip
    refine WL.e e_move<|WL.e (el_ia (j:=1) (xs:=[1,0]) sl23 sl_rl (by decide))<|WL.e (el_load0 (j:=1) (xs:=[1,0]) (a:=0) a3 natE sl_rl rfl)<|WL.e e_eql<|WL.e e_pick_t<|WL.e e_move ?_
    refine WL.bool 45 rfl (fun k4=>?_) (fun k4=>?_)
    ·skip
     refine WL.e e_move<|WL.e e_pick_t<|WL.e e_move ?_
     refine WL.bool 48 rfl (fun k5=>?_) (fun k5=>?_)
     ·skip
      refine WL.e e_move<|WL.e (e_len_sl sl23)<|WL.e e_eql<|WL.e e_pick_t<|WL.e e_move ?_
      refine WL.bool 53 rfl (fun k6=>?_) (fun k6=>?_)
      ·skip
       refine WL.e e_move<|WL.e e_not<|WL.e e_pick_t<|WL.e e_move ?_
       refine WL.bool 57 rfl (fun k7=>?_) (fun k7=>?_)
       ·skip
        refine WL.e (e_buildA z25 Tryz.underlying25 s24 (.z (.slice none 0 0)<|.z (.slice none 0 0)<|.z (.slice none 0 0)<|.n)) ?_
        refine WL.h (h_call (Serial0_spec) k10 ?_)
        refine WL.e e_pick_t<|WL.e e_move ?_
        refine WL.bool 61 rfl (fun k8=>?_) (fun k8=>?_)
        ·skip
         refine WL.h (h_call (FineN_spec) k16 ?_)
         refine WL.e e_not<|WL.e e_pick_t<|WL.e e_move ?_
         refine WL.bool 65 rfl (fun k9=>?_) (fun k9=>?_)
         ·skip
          refine WL.h (h_call (WNew_spec) k17 ?_)
          intro w d0 c0 n1 n2 n3 bg
          refine WL.h (h_call (Fine_spec) k16 ?_)
          refine WL.e e_pick_t<|WL.e e_assign<|WL.next<|WP.ret ?_
          exact PO.finE Tryz.results7 (rv_tmp rv_nil) rfl hK
         ·cases k9 
        ·cases k8 
       ·cases k7 
      ·exact absurd k6 (by decide) 
     ·cases k5 
    ·exact absurd k4 (by decide) 
   ·exact absurd k3 (by decide) 
  ·exact absurd k2 (by decide) 
 ·cases k1 
end Go.SL
namespace Go.SL.Fc
open Go Go.Proofs Go.SL
theorem k7:callable Tryz.prog 7=true:=by kernel_rfl
end Go.SL.Fc
namespace Go.SL
open Go Go.Proofs Fc
set_option maxHeartbeats 2000000 in
theorem JLocal_spec {g:World} {A:HP} {u v:Value} {xs:List UInt32} {ys:List UInt8} (hA:RL A 1 u32C u xs) (hB:RL A 1 eB v ys):Spec Tryz.prog g 4 [u,v] [A] fun K R=>K (.bool true) (A::R):=by
 refine Spec.intro Tryz.func4 rfl Tryz.ntmps4 rfl fun R K hK=>?_
 refine WP.seq<|WP.reg<|WL.e e_assign<|WL.next<|WP.seq<|WP.seq<|WP.reg<|WL.e e_move<|WL.e (el_len (xs:=xs) sl33 hA)<|WL.e e_gtr<|WL.next ?_
 refine WP.cond rfl (fun h0=>?_) (fun h0=>?_)
 ·skip
  refine WP.seq<|WP.reg ?_
  refine WL.h (h_call (lives_spec) k7 ?_)
  refine WL.e e_assign<|WL.next<|WP.ret<|PO.past nofun ?_
  exact PO.fin Tryz.results4 (rv_tmp rv_nil) hK
 ·replace h0:xs.length≤40:=by rw [decide_eq_false_iff_not] at h0;omega
  refine WP.skip<|PO.next<|WP.seq<|WP.reg<|WL.e e_assign<|WL.next<|WP.seq<|WP.seq<|WP.reg<|WL.e e_assign<|WL.next<|WP.block<|WP.nils 39 5 DeedM.c none ?_
  refine WP.loopK (fun (z:Nat × SV × List DeedM)=>[(6,.int .i64 z.1),(5,z.2.1.v)]) (fun (z:Nat × SV × List DeedM)=>Sl 39 5 DeedM.c (z.2.1.v) (z.2.2)::A::R) [(0,_),(1,_)] (fun (z:Nat × SV × List DeedM)=>z.1≤xs.length∧LocL z.2.2 z.1) (fun (z:Nat × SV × List DeedM)=>xs.length - z.1) (0,⟨none,0,0⟩,[]) (⟨Nat.zero_le _,LocL.init⟩) ?_
  rintro ⟨i,sv,l⟩ ⟨hi,hL⟩
  simp only at hi hL
  dsimp only
  have hll:=hL.1
  refine WP.seq<|WP.seq<|WP.reg<|WL.e e_move<|WL.e e_move<|WL.e (el_len (xs:=xs) sl33 hA)<|WL.e e_lss<|WL.next ?_
  refine WP.cond rfl (fun h1=>?_) (fun h1=>?_)
  ·have hlth1:i < xs.length:=by rw [decide_eq_true_eq] at h1;omega
   obtain ⟨x,hx⟩:∃ x,xs[i]?=some x:=⟨_,List.getElem?_eq_getElem hlth1⟩
   refine WP.skip<|PO.next<|WP.seq<|WP.block<|WP.seq<|WP.reg<|WL.e e_move<|WL.e e_move<|WL.e (el_ia (j:=i) (xs:=xs) sl33 hA hlth1)<|WL.e (el_load0 (j:=i) (xs:=xs) (a:=x) a35 u32E hA hx)<|WL.e (e_build z39 p39 (.z (.int .u32 0)<|.o (.const (.int .u8 1)) rfl<|.o (.tmp 26) rfl<|.z (.slice none 0 0)<|.z (.slice none 0 0)<|.n)) ?_
   refine WL.h (h_alloc z39 fun b1=>?_)
   refine WL.h' (h_store s39 ?_)
   refine WL.next ?_
   refine WP.cutL (fun (s:UInt8)=>[]) (fun (s:UInt8)=>cl b1 39 [.int .u32 0,.int .u8 s.toNat,.int .u32 x.toNat,.slice none 0 0,.slice none 0 0]::Sl 39 5 DeedM.c (sv.v) (l)::A::R) (fun (s:UInt8)=>1≤s.toNat∧s.toNat≤3) ?_ ?_
   ·skip
    refine WP.seq<|WP.reg<|WL.e e_move<|WL.e e_move<|WL.e (el_len (xs:=ys) sl34 hB)<|WL.e e_lss<|WL.next ?_
    refine WP.cond rfl (fun h2=>?_) (fun h2=>?_)
    ·have hlth2:i < ys.length:=by rw [decide_eq_true_eq] at h2;omega
     obtain ⟨y,hy⟩:∃ x,ys[i]?=some x:=⟨_,List.getElem?_eq_getElem hlth2⟩
     refine WP.reg<|WL.e e_move<|WL.e e_move<|WL.e (el_ia (j:=i) (xs:=ys) sl34 hB hlth2)<|WL.e (el_load0 (j:=i) (xs:=ys) (a:=y) a5 eB_ok hB hy)<|WL.e (e_rem (c:=((y.toNat % 3:Nat):Int)) rfl rfl (by decide) (Int.ofNat_tmod y.toNat 3).symm)<|WL.e (e_add (c:=((UInt8.ofNat (1+y.toNat % 3)).toNat:Int)) rfl rfl (by rw [show (1:Int)+((y.toNat % 3:Nat):Int)=((1+y.toNat % 3:Nat):Int) by omega,wu8]))<|WL.e (e_fa f39_1) ?_
     refine WL.h' (h_store s5 ?_)
     refine WL.nil ?_
     exact PO.meetK (UInt8.ofNat (1+y.toNat % 3)) (by rw [UInt8.toNat_ofNat'];omega)
    ·skip
     refine WP.skip ?_
     exact PO.meetK 1 (by decide)
   ·intro s hs
    refine WP.seq<|WP.seq<|WP.reg<|WL.e e_assign<|WL.next<|WP.block<|WP.loopK (fun (k:Nat)=>[(8,.int .i64 k)]) (fun (k:Nat)=>cl b1 39 [.int .u32 0,.int .u8 s.toNat,.int .u32 x.toNat,.slice none 0 0,.slice none 0 0]::Sl 39 5 DeedM.c (sv.v) (l)::A::R) [(0,_),(1,_),(5,_),(6,_),(7,_),(17,_),(18,_),(19,_),(20,_),(23,_),(24,_),(25,_),(26,_),(27,_)] (fun (k:Nat)=>k≤l.length∧∀ e ∈ l.take k,¬ (e.site=s∧e.order=x)) (fun (k:Nat)=>l.length - k) 0 (⟨Nat.zero_le _,by simp⟩) ?_
    rintro k ⟨hk,hb⟩
    refine WP.seq<|WP.seq<|WP.reg<|WL.e e_move<|WL.e e_move<|WL.e (el_len (xs:=l) sl22 sl_rl)<|WL.e e_lss<|WL.next ?_
    refine WP.cond rfl (fun h3=>?_) (fun h3=>?_)
    ·have hlth3:k < l.length:=by rw [decide_eq_true_eq] at h3;omega
     obtain ⟨e,he⟩:∃ x,l[k]?=some x:=⟨_,List.getElem?_eq_getElem hlth3⟩
     refine WP.skip<|PO.next<|WP.seq<|WP.block<|WP.seq<|WP.draws mixedOk 18<|RW.e 0 rfl e_move<|RW.e 1 rfl e_move<|RW.e 2 rfl (el_ia (j:=k) (xs:=l) sl22 sl_rl (idx_lt he))<|RW.e 3 rfl (el_fa (z:=5) (j:=k) (xs:=l) f39_1 sl_rl (idx_lt he))<|RW.e 4 rfl (el_load (j:=k) (f:=1) (xs:=l) a5 deedE sl_rl he)<|RW.e 5 rfl (e_fa f39_1)<|RW.e 6 rfl (e_load a5)<|RW.e 7 rfl (e_eql8)<|RW.e 8 rfl e_move ?_
     refine RW.bool 53 rfl (fun g1=>?_) (fun g1=>?_)
     ·skip
      refine RW.e 9 rfl e_move<|RW.e 10 rfl e_move<|RW.e 11 rfl (el_ia (j:=k) (xs:=l) sl22 sl_rl (idx_lt he))<|RW.e 12 rfl (el_fa (z:=5) (j:=k) (xs:=l) f39_2 sl_rl (idx_lt he))<|RW.e 13 rfl (el_load (j:=k) (f:=2) (xs:=l) a35 deedE sl_rl he)<|RW.e 14 rfl (e_fa f39_2)<|RW.e 15 rfl (e_load a35)<|RW.e 16 rfl (e_eql32)<|RW.e 17 rfl e_pick_t<|RW.done<|PO.next ?_
      refine WP.cond rfl (fun h4=>?_) (fun h4=>?_)
      ·skip
       refine WP.seq<|WP.reg ?_
       refine WL.h (h_call (lives_spec) k7 ?_)
       refine WL.e e_assign<|WL.next<|WP.ret<|PO.blockR<|PO.past nofun<|PO.round nofun<|PO.blockR<|PO.past nofun<|PO.blockR<|PO.past nofun<|PO.round nofun<|PO.blockR<|PO.past nofun ?_
       exact PO.fin Tryz.results4 (rv_tmp rv_nil) hK
      ·replace h4:¬ e.order=x:=by simpa using h4
       refine WP.skip<|PO.blockN<|PO.next<|WP.reg<|WL.e e_move<|WL.e (e_add (c:=((k+1:Nat):Int)) rfl rfl (by rw [w_i64 (by omega) (by omega)];omega))<|WL.e e_assign<|WL.nil ?_
       exact PO.againK (k+1) ⟨by omega,fun d hd=>by
        rw [take_snoc he] at hd
        rcases List.mem_append.1 hd with hd | hd
        ·exact hb d hd
        ·simp only [List.mem_singleton] at hd;subst hd;exact fun h=>h4 h.2⟩ (by omega)
     ·replace g1:¬ e.site=s:=by simpa using g1
      refine RW.skip 9 rfl<|RW.skip 10 rfl<|RW.skip 11 rfl<|RW.skip 12 rfl<|RW.skip 13 rfl<|RW.skip 14 rfl<|RW.skip 15 rfl<|RW.skip 16 rfl<|RW.e 17 rfl e_pick_f<|RW.done<|PO.next<|WP.cond_f rfl<|WP.skip<|PO.blockN<|PO.next<|WP.reg<|WL.e e_move<|WL.e (e_add (c:=((k+1:Nat):Int)) rfl rfl (by rw [w_i64 (by omega) (by omega)];omega))<|WL.e e_assign<|WL.nil ?_
      exact PO.againK (k+1) ⟨by omega,fun d hd=>by
       rw [take_snoc he] at hd
       rcases List.mem_append.1 hd with hd | hd
       ·exact hb d hd
       ·simp only [List.mem_singleton] at hd;subst hd;exact fun h=>g1 h.1⟩ (by omega)
    ·rw [List.take_of_length_le (show l.length≤k by rw [decide_eq_false_iff_not] at h3;omega)] at hb
     refine WP.exit<|PO.past nofun<|PO.round nofun<|PO.blockX<|PO.next<|WP.reg<|WL.e e_move<|WL.e (e_loadN a39) ?_
     refine WL.h (h_bs sl22 z39 (.a5 (.tmp 65) rfl<|.n) fun b2=>?_)
     refine WL.h (hl_append (xs:=l) (ys:=[dd 0 s x]) sl22 deedE z39 (lit_rl deedE [dd 0 s x] rfl) (by simp only [List.length_singleton];omega) (fun a5 n5 c5=>?_))
     refine WL.e e_assign<|WL.nil<|PO.blockN<|PO.next<|WP.reg<|WL.e e_move<|WL.e (e_add (c:=((i+1:Nat):Int)) rfl rfl (by rw [w_i64 (by omega) (by omega)];omega))<|WL.e e_assign<|WL.nil ?_
     exact PO.againK (i+1,⟨a5,n5,c5⟩,l++[dd 0 s x]) ⟨by simp only;omega,hL.step rfl hs hb⟩ (by simp only;omega)
  ·obtain rfl:i=xs.length:=by rw [decide_eq_false_iff_not] at h1;omega
   refine WP.exit<|PO.past nofun<|PO.round nofun<|PO.blockX<|PO.next<|WP.seq<|WP.reg<|WL.e e_move ?_
   refine WL.h (h_call (JOrder_spec (l:=l) sl_rl (by omega) (unit_local (fun d hd=>(hL.2.1 d hd).1))) k14 ?_)
   refine ⟨fun h=>absurd (h.symm.trans hL.2.2) (by decide),fun _ h=>absurd (RkE.local (by omega) (fun d hd=>(hL.2.1 d hd).1)) h,fun _ _ a6 m6 c6 out hO=>?_⟩
   have hol:=hO.len
   refine WL.e e_move<|WL.e e_extract<|WL.e e_extract<|WL.e e_assign<|WL.e e_assign<|WL.next<|WP.seq<|WP.seq<|WP.reg<|WL.e e_move<|WL.e e_not<|WL.e e_move ?_
   refine WL.bool 75 rfl (fun k1=>?_) (fun k1=>?_)
   ·cases k1 
   ·skip
    refine WL.e e_move<|WL.e (el_len (xs:=out) sl23 sl_rl)<|WL.e e_move<|WL.e (el_len (xs:=l) sl22 sl_rl)<|WL.e e_neq<|WL.e e_pick_f<|WL.next ?_
    refine WP.cond rfl (fun h5=>?_) (fun h5=>?_)
    ·simp [hol] at h5
    ·skip
     refine WP.skip<|PO.next<|WP.seq<|WP.seq<|WP.reg<|WL.e e_assign<|WL.next<|WP.block<|WP.loopK (fun (i:Nat)=>[(11,.int .i64 i)]) (fun (i:Nat)=>Sl 3 1 natC (.slice a6 m6 c6) (out)::Sl 39 5 DeedM.c (sv.v) (l)::A::R) [(5,_),(9,_)] (fun (i:Nat)=>i≤out.length) (fun (i:Nat)=>out.length - i) 0 (Nat.zero_le _) ?_
     intro i hi2
     refine WP.seq<|WP.seq<|WP.reg<|WL.e e_move<|WL.e e_move<|WL.e (el_len (xs:=out) sl23 sl_rl)<|WL.e e_lss<|WL.next ?_
     refine WP.cond rfl (fun h6=>?_) (fun h6=>?_)
     ·have hlth6:i < out.length:=by rw [decide_eq_true_eq] at h6;omega
      obtain ⟨b,hb⟩:∃ x,out[i]?=some x:=⟨_,List.getElem?_eq_getElem hlth6⟩
      refine WP.skip<|PO.next<|WP.seq<|WP.block<|WP.seq<|WP.reg<|WL.e e_assign<|WL.next<|WP.block<|WP.loopK (fun (k:Nat)=>[(12,.int .i64 k)]) (fun (k:Nat)=>Sl 3 1 natC (.slice a6 m6 c6) (out)::Sl 39 5 DeedM.c (sv.v) (l)::A::R) [(5,_),(9,_),(11,_),(82,_),(83,_),(84,_),(85,_)] (fun (k:Nat)=>k≤i) (fun (k:Nat)=>i - k) 0 (Nat.zero_le _) ?_
      intro k hk2
      refine WP.seq<|WP.seq<|WP.reg<|WL.e e_move<|WL.e e_move<|WL.e e_lss<|WL.next ?_
      refine WP.cond rfl (fun h7=>?_) (fun h7=>?_)
      ·replace h7:k < i:=by rw [decide_eq_true_eq] at h7;omega
       obtain ⟨a,ha⟩:∃ a,out[k]?=some a:=⟨_,List.getElem?_eq_getElem (show k < out.length by omega)⟩
       have hla:=hO.lt ha
       have hlb:=hO.lt hb
       obtain ⟨da,hda⟩:∃ d,l[a]?=some d:=⟨_,List.getElem?_eq_getElem hla⟩
       obtain ⟨db,hdb⟩:∃ d,l[b]?=some d:=⟨_,List.getElem?_eq_getElem hlb⟩
       refine WP.skip<|PO.next<|WP.seq<|WP.block<|WP.seq<|WP.draws mixedOk 63<|RW.e 0 rfl e_move<|RW.e 1 rfl e_move<|RW.e 2 rfl (el_ia (j:=i) (xs:=out) sl23 sl_rl (idx_lt hb))<|RW.e 3 rfl (el_load0 (j:=i) (xs:=out) (a:=b) a3 natE sl_rl hb)<|RW.e 4 rfl e_move<|RW.e 5 rfl e_move<|RW.e 6 rfl (el_ia (j:=k) (xs:=out) sl23 sl_rl (idx_lt ha))<|RW.e 7 rfl (el_load0 (j:=k) (xs:=out) (a:=a) a3 natE sl_rl ha)<|RW.e 8 rfl e_eql<|RW.e 9 rfl e_move ?_
       refine RW.bool 102 rfl (fun g1=>?_) (fun g1=>?_)
       ·exact absurd (show b=a by simp at g1;omega) (fun e=>hO.ne ha hb h7 e.symm) 
       ·skip
        refine RW.e 10 rfl e_move<|RW.e 11 rfl e_move<|RW.e 12 rfl (el_ia (j:=i) (xs:=out) sl23 sl_rl (idx_lt hb))<|RW.e 13 rfl (el_load0 (j:=i) (xs:=out) (a:=b) a3 natE sl_rl hb)<|RW.e 14 rfl e_lss<|RW.e 15 rfl e_pick_f<|RW.e 16 rfl e_move ?_
        refine RW.bool 109 rfl (fun g2=>?_) (fun g2=>?_)
        ·simp at g2;omega 
        ·skip
         refine RW.e 17 rfl e_move<|RW.e 18 rfl e_move<|RW.e 19 rfl (el_ia (j:=i) (xs:=out) sl23 sl_rl (idx_lt hb))<|RW.e 20 rfl (el_load0 (j:=i) (xs:=out) (a:=b) a3 natE sl_rl hb)<|RW.e 21 rfl e_move<|RW.e 22 rfl (el_len (xs:=l) sl22 sl_rl)<|RW.e 23 rfl e_geq<|RW.e 24 rfl e_pick_f<|RW.e 25 rfl e_move ?_
         refine RW.bool 118 rfl (fun g3=>?_) (fun g3=>?_)
         ·simp at g3;omega 
         ·skip
          refine RW.e 26 rfl e_move<|RW.e 27 rfl e_move<|RW.e 28 rfl e_move<|RW.e 29 rfl (el_ia (j:=k) (xs:=out) sl23 sl_rl (idx_lt ha))<|RW.e 30 rfl (el_load0 (j:=k) (xs:=out) (a:=a) a3 natE sl_rl ha)<|RW.e 31 rfl (el_ia (j:=a) (xs:=l) sl22 sl_rl (idx_lt hda))<|RW.e 32 rfl (el_fa (z:=5) (j:=a) (xs:=l) f39_1 sl_rl (idx_lt hda))<|RW.e 33 rfl (el_load (j:=a) (f:=1) (xs:=l) a5 deedE sl_rl hda)<|RW.e 34 rfl e_move<|RW.e 35 rfl e_move<|RW.e 36 rfl e_move<|RW.e 37 rfl (el_ia (j:=i) (xs:=out) sl23 sl_rl (idx_lt hb))<|RW.e 38 rfl (el_load0 (j:=i) (xs:=out) (a:=b) a3 natE sl_rl hb)<|RW.e 39 rfl (el_ia (j:=b) (xs:=l) sl22 sl_rl (idx_lt hdb))<|RW.e 40 rfl (el_fa (z:=5) (j:=b) (xs:=l) f39_1 sl_rl (idx_lt hdb))<|RW.e 41 rfl (el_load (j:=b) (f:=1) (xs:=l) a5 deedE sl_rl hdb)<|RW.e 42 rfl (e_eql8)<|RW.e 43 rfl e_move ?_
          refine RW.bool 136 rfl (fun g4=>?_) (fun g4=>?_)
          ·replace g4:da.site=db.site:=by simpa using g4
           refine RW.e 44 rfl e_move<|RW.e 45 rfl e_move<|RW.e 46 rfl e_move<|RW.e 47 rfl (el_ia (j:=k) (xs:=out) sl23 sl_rl (idx_lt ha))<|RW.e 48 rfl (el_load0 (j:=k) (xs:=out) (a:=a) a3 natE sl_rl ha)<|RW.e 49 rfl (el_ia (j:=a) (xs:=l) sl22 sl_rl (idx_lt hda))<|RW.e 50 rfl (el_fa (z:=5) (j:=a) (xs:=l) f39_2 sl_rl (idx_lt hda))<|RW.e 51 rfl (el_load (j:=a) (f:=2) (xs:=l) a35 deedE sl_rl hda)<|RW.e 52 rfl e_move<|RW.e 53 rfl e_move<|RW.e 54 rfl e_move<|RW.e 55 rfl (el_ia (j:=i) (xs:=out) sl23 sl_rl (idx_lt hb))<|RW.e 56 rfl (el_load0 (j:=i) (xs:=out) (a:=b) a3 natE sl_rl hb)<|RW.e 57 rfl (el_ia (j:=b) (xs:=l) sl22 sl_rl (idx_lt hdb))<|RW.e 58 rfl (el_fa (z:=5) (j:=b) (xs:=l) f39_2 sl_rl (idx_lt hdb))<|RW.e 59 rfl (el_load (j:=b) (f:=2) (xs:=l) a35 deedE sl_rl hdb)<|RW.e 60 rfl e_geq<|RW.e 61 rfl e_pick_t<|RW.e 62 rfl e_pick_f<|RW.done<|PO.next ?_
           refine WP.cond rfl (fun h8=>?_) (fun h8=>?_)
           ·have:=UInt32.lt_iff_toNat_lt.1 (hO.before ha hb h7 da db hda hdb g4);simp at h8;omega
           ·skip
            refine WP.skip<|PO.blockN<|PO.next<|WP.reg<|WL.e e_move<|WL.e (e_add (c:=((k+1:Nat):Int)) rfl rfl (by rw [w_i64 (by omega) (by omega)];omega))<|WL.e e_assign<|WL.nil ?_
            exact PO.againK (k+1) (by omega) (by omega)
          ·skip
           refine RW.skip 44 rfl<|RW.skip 45 rfl<|RW.skip 46 rfl<|RW.skip 47 rfl<|RW.skip 48 rfl<|RW.skip 49 rfl<|RW.skip 50 rfl<|RW.skip 51 rfl<|RW.skip 52 rfl<|RW.skip 53 rfl<|RW.skip 54 rfl<|RW.skip 55 rfl<|RW.skip 56 rfl<|RW.skip 57 rfl<|RW.skip 58 rfl<|RW.skip 59 rfl<|RW.skip 60 rfl<|RW.e 61 rfl e_pick_f<|RW.e 62 rfl e_pick_f<|RW.done<|PO.next<|WP.cond_f rfl<|WP.skip<|PO.blockN ?_
           refine PO.next<|WP.reg<|WL.e e_move<|WL.e (e_add (c:=((k+1:Nat):Int)) rfl rfl (by rw [w_i64 (by omega) (by omega)];omega))<|WL.e e_assign<|WL.nil ?_
           exact PO.againK (k+1) (by omega) (by omega)
      ·skip
       refine WP.exit<|PO.past nofun<|PO.round nofun<|PO.blockX<|PO.blockN<|PO.next<|WP.reg<|WL.e e_move<|WL.e (e_add (c:=((i+1:Nat):Int)) rfl rfl (by rw [w_i64 (by omega) (by omega)];omega))<|WL.e e_assign<|WL.nil ?_
       exact PO.againK (i+1) (by omega) (by omega)
     ·skip
      refine WP.exit<|PO.past nofun<|PO.round nofun<|PO.blockX<|PO.next<|WP.seq<|WP.reg ?_
      refine WL.h (h_call (lives_spec) k7 ?_)
      refine WL.e e_assign<|WL.next<|WP.ret ?_
      exact PO.fin Tryz.results4 (rv_tmp rv_nil) hK
end Go.SL
set_option linter.unusedSectionVars false
namespace Go.SL
open Go Go.ChangeShapes Go.Deep
section
variable {H : Type} {enc : TypeId × Value → H} {P : Program} {W : World} {held : Bool}
theorem add_off (a:Addr) (n:Nat) (h:a.spot=none):a.add n=⟨a.block,a.off+n,none⟩:=by
  obtain ⟨b,o,s⟩:=a
  simp at h;subst h
  exact add_none b o n
theorem slice_rl {α:Type} {t e:TypeId} {fuel z:Nat} {cs:List Value} {x:DataW H × List MemPlace} {c:α→List Value} (ht:P.underlying t=some (.slice e)) (hz:P.cellsOf e=z) (h0:0 < z) (he:EncOk z c)
    (hel:∀ n cs' y,DataW.trod enc P W 0 (fun _=>true) held n e cs'=some y→∃ a:α,cs'=c a) (h:DataW.trod enc P W 0 (fun _=>true) held fuel t cs=some x) :
    ∃ (v:SV) (xs:List α),cs=[v.v]∧RL (Old W) z c v.v xs∧(xs=[]∨∃ el sp,x.1=.slice el sp∧el.length=xs.length):=by
  rcases open_slice ht h with ⟨hcs,_⟩ | ⟨a,len,cap,m,n,D,Pl,hcs,_,hl,hm,hmm,hxx,hi⟩
  · exact ⟨⟨none,0,0⟩,[],hcs,nil_rl,.inl rfl⟩
  simp only [if_true] at hmm
  subst hmm
  rw [hz] at hi
  have hi':∀ i:Fin m,∃ y:α,∀ j,j < z→W.cell? ((a.add (i * z)).add j)=(c y)[j]?:=fun i=>by
    obtain ⟨cs',h1,h2⟩:=hi i i.2
    obtain ⟨y,rfl⟩:=hel _ _ _ h2
    exact ⟨y,(World.cells?_some h1).2.2⟩
  by_cases hc0:m=0
  · have:len=0:=by omega
    subst this
    exact ⟨⟨some a,0,m⟩,[],hcs,nil_rl,.inl rfl⟩
  let Y:Fin m→α:=fun i=>Classical.choose (hi' i)
  have hY:∀ i:Fin m,∀ j,j < z→W.cell? ((a.add (i * z)).add j)=(c (Y i))[j]?:=fun i=>Classical.choose_spec (hi' i)
  have hsp:a.spot=none:=by
    have:=hY ⟨0,by omega⟩ 0 h0
    have hlt:0 < (c (Y ⟨0,by omega⟩)).length:=by rw [he.len];exact h0
    rw [List.getElem?_eq_getElem hlt] at this
    have h2:=World.cell?_spot this
    cases hs:a.spot with
    | none=>rfl
    | some s=>simp [Addr.add,hs] at h2
  have hcell:∀ k (hk:k < m * z),W.cell? ⟨a.block,a.off+k,none⟩=(c (Y ⟨k / z,(Nat.div_lt_iff_lt_mul h0).2 hk⟩))[k % z]?:=fun k hk=>by
    have:=hY ⟨k / z,(Nat.div_lt_iff_lt_mul h0).2 hk⟩ (k % z) (Nat.mod_lt _ h0)
    rw [add_off a _ hsp,add_none] at this
    have e:a.off+k / z * z+k % z=a.off+k:=by have:=Nat.div_add_mod k z;rw [Nat.mul_comm] at this;omega
    simp only [e] at this
    exact this
  have hmz:0 < m * z:=Nat.mul_pos (by omega) h0
  obtain ⟨arr,t',fr,hb⟩:∃ arr t' fr,W.heap[a.block]?=some (.cells arr t' fr):=by
    have:=hcell 0 hmz
    rw [List.getElem?_eq_getElem (by rw [he.len];exact Nat.mod_lt _ h0)] at this
    unfold World.cell? at this
    cases hh:W.heap[a.block]? with
    | none=>rw [hh] at this;cases this
    | some o=>rw [hh] at this;cases o <;> first | exact ⟨_,_,_,rfl⟩ | cases this
  have hval:∀ k (hk:k < m * z),arr.toList[a.off+k]?=(c (Y ⟨k / z,(Nat.div_lt_iff_lt_mul h0).2 hk⟩))[k % z]?:=fun k hk=>by
    have:=hcell k hk
    unfold World.cell? at this
    rw [hb] at this
    simpa using this
  have hlen:a.off+m * z≤arr.toList.length:=by
    have:=hval (m * z - 1) (by omega)
    have hlt:(m * z - 1) % z < (c (Y ⟨(m * z - 1) / z,(Nat.div_lt_iff_lt_mul h0).2 (by omega)⟩)).length:=by rw [he.len];exact Nat.mod_lt _ h0
    rw [List.getElem?_eq_getElem hlt] at this
    have:=idx_lt this
    omega
  refine ⟨⟨some a,len,m⟩,List.ofFn fun i:Fin len=>Y ⟨i,by omega⟩,hcs,fun S hS=>?_,.inr ⟨_,_,by rw [hxx],by simp⟩⟩
  refine .inr ⟨a.block,a.off,m,arr.toList,(t',fr),?_,by simpa using hl,?_,hlen,?_⟩
  · obtain ⟨b,o,s⟩:=a
    simp at hsp;subst hsp
    simp
  · exact hS _ _ (by simpa [heapOf] using hb)
  · apply List.ext_getElem?
    intro k
    rw [td_get,List.length_ofFn]
    by_cases hk:k < len * z
    · rw [if_pos hk]
      have hkm:k < m * z:=Nat.lt_of_lt_of_le hk (Nat.mul_le_mul_right _ hl)
      rw [hval k hkm]
      have hd:k / z < len:=(Nat.div_lt_iff_lt_mul h0).2 hk
      have hx:(List.ofFn fun i:Fin len=>Y ⟨i,by omega⟩)[k / z]?=some (Y ⟨k / z,by omega⟩):=by simp [hd]
      have:=flat_at he hx (k % z) (Nat.mod_lt _ h0)
      rw [show k / z * z+k % z=k by have:=Nat.div_add_mod k z;rw [Nat.mul_comm] at this;omega] at this
      exact this
    · rw [if_neg hk]
      apply List.getElem?_eq_none
      rw [flat_len he,List.length_ofFn];omega
theorem below_of_spec1 {P:Program} {w:World} {f:FuncId} {args:List Value} (h:Spec P w f args [Old w] fun K R=>K (.bool true) (Old w::R)):Calls P f args.toArray w fun e w'=>e=.returned (.bool true)∧Go.RowKit.Below w.heap.size w w':=by
  refine (h [] (fun v M=>v=.bool true∧M=[Old w]) w (sat_old w) ⟨rfl,rfl⟩).mono ?_
  rintro e w' ⟨v,M,rfl,⟨rfl,rfl⟩,hs⟩
  exact ⟨rfl,old_below hs⟩
end
end Go.SL
