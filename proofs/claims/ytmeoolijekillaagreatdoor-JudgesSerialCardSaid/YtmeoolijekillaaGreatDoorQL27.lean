import Derived.Test.YtmeoolijekillaaGreatDoorQL26
set_option linter.unusedSimpArgs false
set_option linter.unusedVariables false
namespace Go.SL.Fc
open Go Go.Proofs Go.SL
theorem k10:callable Tryz.prog 10=true:=by kernel_rfl
theorem k14:callable Tryz.prog 14=true:=by kernel_rfl
theorem k16:callable Tryz.prog 16=true:=by kernel_rfl
theorem k17:callable Tryz.prog 17=true:=by kernel_rfl
theorem k43:callable Tryz.prog 43=true:=by kernel_rfl
theorem k44:callable Tryz.prog 44=true:=by kernel_rfl
theorem k45:callable Tryz.prog 45=true:=by kernel_rfl
end Go.SL.Fc
namespace Go.SL
open Go Go.Proofs Fc
theorem EqR0_spec {g:World} {a b:Option Addr} {c d:Nat}:Spec Tryz.prog g 22 [.slice a 0 c,.slice b 0 d] [] fun K R=>K (.bool true) R:=by
 refine Spec.intro Tryz.func22 rfl Tryz.ntmps22 rfl fun R K hK=>?_
 refine WP.seq<|WP.reg<|WL.e e_assign<|WL.next<|WP.seq<|WP.seq<|WP.reg<|WL.e e_move<|WL.e (e_len_sl sl24)<|WL.e e_move<|WL.e (e_len_sl sl24)<|WL.e e_neq<|WL.next<|WP.cond_f rfl<|WP.skip<|PO.next<|WP.seq<|WP.seq<|WP.reg<|WL.e e_move<|WL.e (e_len_sl sl24)<|WL.e e_move<|WL.next<|WP.block ?_
 refine WP.loopK (fun (_:Unit)=>[(13,.int .i64 0)]) (fun (_:Unit)=>R) [(0,_),(1,_),(12,_)] (fun (_:Unit)=>True) (fun (_:Unit)=>0) () (trivial) ?_
 intro _ _
 refine WP.seq<|WP.reg<|WL.e e_lss<|WL.next<|WP.seq ?_
 refine WP.cond rfl (fun h1=>?_) (fun h1=>?_)
 ·simp at h1
 ·skip
  refine WP.exit<|PO.past nofun<|PO.round nofun<|PO.blockX<|PO.next<|WP.seq<|WP.reg<|WL.e e_assign<|WL.next<|WP.ret ?_
  exact PO.fin Tryz.results22 (rv_tmp rv_nil) hK
theorem Serial0_spec {g:World} {a1 a2 a3 a4 a5:Option Addr} {c1 c2 c3 c4 c5:Nat}:Spec Tryz.prog g 10 [.slice a1 0 c1,.slice a2 0 c2,.agg #[.slice a3 0 c3,.slice a4 0 c4,.slice a5 0 c5]] [] fun K R=>K (.bool true) R:=by
 refine Spec.intro Tryz.func10 rfl Tryz.ntmps10 rfl fun R K hK=>?_
 refine WP.seq<|WP.reg ?_
 refine WL.h (h_box fun b1=>?_)
 refine WL.e e_assign<|WL.next<|WP.seq<|WP.reg ?_
 refine WL.h (h_makeMapB (ek:=eI64) fun sm=>?_)
 refine WL.e e_assign<|WL.next<|WP.seq<|WP.seq<|WP.reg<|WL.e e_move<|WL.e (e_len_sl sl23)<|WL.e e_move<|WL.next<|WP.block<|WP.loopK (fun (_:Unit)=>[(21,.int .i64 0)]) (fun (_:Unit)=>cl b1 25 [.slice a3 0 c3,.slice a4 0 c4,.slice a5 0 c5]::R) [(0,_),(1,_),(5,_),(7,_),(19,_),(20,_)] (fun (_:Unit)=>True) (fun (_:Unit)=>0) () (trivial) ?_
 intro _ _
 refine WP.seq<|WP.reg<|WL.e e_lss<|WL.next<|WP.seq ?_
 refine WP.cond rfl (fun h1=>?_) (fun h1=>?_)
 ·simp at h1
 ·skip
  refine WP.exit<|PO.past nofun<|PO.round nofun<|PO.blockX<|PO.next<|WP.seq<|WP.seq<|WP.reg<|WL.e e_move<|WL.e (e_len_sl sl23)<|WL.e e_move<|WL.e (e_len_sl sl22)<|WL.e e_neq<|WL.next<|WP.cond_f rfl<|WP.skip<|PO.next<|WP.seq<|WP.reg ?_
  refine WL.h (h_alloc z25 fun b2=>?_)
  refine WL.next<|WP.seq<|WP.seq<|WP.reg<|WL.e e_move<|WL.e (e_len_sl sl23)<|WL.e e_move<|WL.next<|WP.block<|WP.loopK (fun (_:Unit)=>[(65,.int .i64 0)]) (fun (_:Unit)=>cl b1 25 [.slice a3 0 c3,.slice a4 0 c4,.slice a5 0 c5]::cl b2 25 [.slice none 0 0,.slice none 0 0,.slice none 0 0]::R) [(0,_),(5,_),(10,_),(63,_),(64,_)] (fun (_:Unit)=>True) (fun (_:Unit)=>0) () (trivial) ?_
  intro _ _
  refine WP.seq<|WP.reg<|WL.e e_lss<|WL.next<|WP.seq ?_
  refine WP.cond rfl (fun h1=>?_) (fun h1=>?_)
  ·simp at h1
  ·skip
   refine WP.exit<|PO.past nofun<|PO.round nofun<|PO.blockX<|PO.next<|WP.seq<|WP.seq<|WP.reg<|WL.e e_move<|WL.next<|WP.block<|WP.loopK (fun (i:Nat)=>[(119,.int .i64 i)]) (fun (i:Nat)=>cl b1 25 [.slice a3 0 c3,.slice a4 0 c4,.slice a5 0 c5]::cl b2 25 [.slice none 0 0,.slice none 0 0,.slice none 0 0]::R) [(5,_),(10,_)] (fun (i:Nat)=>i≤3) (fun (i:Nat)=>3 - i) 0 (Nat.zero_le _) ?_
   intro i hi
   refine WP.seq<|WP.reg<|WL.e e_lss<|WL.next<|WP.seq ?_
   refine WP.cond rfl (fun h3=>?_) (fun h3=>?_)
   ·replace h3:i < 3:=by rw [decide_eq_true_eq] at h3;omega
    have h4:i=0∨i=1∨i=2:=by omega
    have hv5:([.slice none 0 0,.slice none 0 0,.slice none 0 0]:List Value)[0+i * 1]?=some (.slice none 0 0):=by rcases h4 with rfl | rfl | rfl <;> rfl
    obtain ⟨a6,c6,hv6⟩:∃ a c,([.slice a3 0 c3,.slice a4 0 c4,.slice a5 0 c5]:List Value)[0+i * 1]?=some (.slice a 0 c):=by rcases h4 with rfl | rfl | rfl <;> exact ⟨_,_,rfl⟩
    refine WP.skip<|PO.next<|WP.seq<|WP.block<|WP.seq<|WP.reg<|WL.e e_move<|WL.e e_assign<|WL.next<|WP.seq<|WP.draws mixedOk 8<|RW.e 0 rfl e_move<|RW.e 1 rfl (e_iaA (j:=i) ar25 h3)<|RW.e 2 rfl (e_load (l:=[.slice none 0 0,.slice none 0 0,.slice none 0 0]) a24 (hv:=hv5))<|RW.e 3 rfl e_move<|RW.e 4 rfl (e_iaA (j:=i) ar25 h3)<|RW.e 5 rfl (e_load (l:=[.slice a3 0 c3,.slice a4 0 c4,.slice a5 0 c5]) a24 (hv:=hv6)) ?_
    refine RW.any (is:=[6]) rfl ⟨?_,trivial⟩
    refine RWat.h rfl rfl rfl ?_
    refine (h_call (EqR0_spec) k22 ?_)
    refine ⟨trivial,?_⟩
    refine RW.e 7 rfl e_not<|RW.done<|PO.next<|WP.cond_f rfl<|WP.skip<|PO.blockN<|PO.next<|WP.reg<|WL.e (e_add (c:=((i+1:Nat):Int)) rfl rfl (by rw [w_i64 (by omega) (by omega)];omega))<|WL.e e_move<|WL.nil ?_
    exact PO.againK (i+1) (by omega) (by omega)
   ·skip
    refine WP.exit<|PO.past nofun<|PO.round nofun<|PO.blockX<|PO.next<|WP.seq<|WP.reg<|WL.e e_assign<|WL.next<|WP.ret ?_
    exact PO.fin Tryz.results10 (rv_tmp rv_nil) hK
theorem Fine_spec {g:World} {w d0 c0 n1 n2 n3 bg:Nat}:Spec Tryz.prog g 16 [.pointer (some ⟨w,0,none⟩)] [cl w 91 [.pointer (some ⟨d0,0,none⟩),.pointer (some ⟨c0,0,none⟩),.pointer none,.pointer (some ⟨n1,0,none⟩),.pointer (some ⟨n2,0,none⟩),.pointer (some ⟨n3,0,none⟩),.pointer (some ⟨bg,0,none⟩),.int .u32 0,.slice none 0 0],NdF g n1,NdF g n2,NdF g n3] fun K R=>K (.bool true) R:=by
 refine Spec.intro Tryz.func16 rfl Tryz.ntmps16 rfl fun R K hK=>?_
 refine WP.seq<|WP.reg<|WL.e e_assign<|WL.next<|WP.seq<|WP.seq<|WP.reg<|WL.e e_move ?_
 refine WL.h (h_call (Wtick_spec) k43 ?_)
 refine WL.e e_eql<|WL.next<|WP.cond_f rfl<|WP.skip<|PO.next<|WP.seq<|WP.reg<|WL.e e_move ?_
 refine WL.h (h_call (WDeeds_spec) k44 ?_)
 refine WL.e e_assign<|WL.next<|WP.seq<|WP.reg<|WL.e e_move<|WL.conv (M:=pu True::_) (fun S h=>pu_stars trivial h) ?_
 refine WL.h (h_call (JOrder_spec (A:=pu True) (l:=[]) nil_rl (by simp) (by intro u;simp [ofUnit])) k14 ?_)
 refine ⟨fun h=>absurd h (by decide),fun _ h=>absurd (RkE.local (by simp) (by simp)) h,fun _ _ a9 m9 c9 out9 ho9=>?_⟩
 obtain rfl:out9=[]:=List.length_eq_zero_iff.1 ho9.len
 refine WL.len (fun hm=>?_)
 subst hm
 refine WL.e e_move<|WL.e e_extract<|WL.e e_extract<|WL.e e_assign<|WL.e e_assign<|WL.next<|WP.seq<|WP.seq<|WP.reg<|WL.e e_move<|WL.e e_not<|WL.e e_move ?_
 refine WL.bool 24 rfl (fun g1=>?_) (fun g1=>?_)
 ·cases g1 
 ·skip
  refine WL.e e_move<|WL.e e_move<|WL.e e_move ?_
  refine WL.h (h_call (WRows1_spec) k45 ?_)
  intro a1 c1
  refine WL.e e_move ?_
  refine WL.h (h_call (WRows2_spec) k45 ?_)
  intro a2 c2
  refine WL.e e_move ?_
  refine WL.h (h_call (WRows3_spec) k45 ?_)
  intro a3 c3
  refine WL.e (e_buildA z25 Tryz.underlying25 s24 (.o (.tmp 28) rfl<|.o (.tmp 30) rfl<|.o (.tmp 32) rfl<|.n)) ?_
  refine WL.h (h_call (Serial0_spec) k10 ?_)
  refine WL.e e_not<|WL.e e_pick_f<|WL.next<|WP.cond_f rfl<|WP.skip<|PO.next<|WP.seq<|WP.reg ?_
  refine WL.h (h_makeMapB (ek:=eA2) fun sm=>?_)
  refine WL.e e_assign<|WL.next<|WP.seq<|WP.seq<|WP.reg<|WL.e e_move<|WL.e (e_len_sl sl22)<|WL.e e_move<|WL.next<|WP.block<|WP.loopK (fun (_:Unit)=>[(40,.int .i64 0)]) (fun (_:Unit)=>R) [(0,_),(6,_),(38,_),(39,_)] (fun (_:Unit)=>True) (fun (_:Unit)=>0) () (trivial) ?_
  intro _ _
  refine WP.seq<|WP.reg<|WL.e e_lss<|WL.next<|WP.seq ?_
  refine WP.cond rfl (fun h1=>?_) (fun h1=>?_)
  ·simp at h1
  ·skip
   refine WP.exit<|PO.past nofun<|PO.round nofun<|PO.blockX<|PO.next<|WP.seq<|WP.reg<|WL.e e_assign<|WL.next<|WP.ret ?_
   exact PO.fin Tryz.results16 (rv_tmp rv_nil) hK
theorem FineN_spec {g:World}:Spec Tryz.prog g 16 [.pointer none] [] fun K R=>K (.bool false) R:=by
 refine Spec.intro Tryz.func16 rfl Tryz.ntmps16 rfl fun R K hK=>?_
 refine WP.seq<|WP.reg<|WL.e e_assign<|WL.next<|WP.seq<|WP.seq<|WP.reg<|WL.e e_move ?_
 refine WL.h (h_call (WtickN_spec 9) k43 ?_)
 refine WL.e e_eql<|WL.next<|WP.cond_t rfl<|WP.seq<|WP.reg<|WL.e e_assign<|WL.next<|WP.ret<|PO.past nofun ?_
 exact PO.fin Tryz.results16 (rv_tmp rv_nil) hK
set_option maxHeartbeats 4000000 in
theorem lives_spec {g:World}:Spec Tryz.prog g 7 [] [] fun K R=>K (.bool true) R:=by
 refine Spec.intro Tryz.func7 rfl Tryz.ntmps7 rfl fun R K hK=>?_
 refine WP.seq<|WP.reg<|WL.e e_assign<|WL.next<|WP.seq<|WP.reg<|WL.e (e_build z39 p39 (.z (.int .u32 0)<|.o (.const (.int .u8 1)) rfl<|.o (.const (.int .u32 2)) rfl<|.z (.slice none 0 0)<|.z (.slice none 0 0)<|.n))<|WL.e (e_build z39 p39 (.z (.int .u32 0)<|.o (.const (.int .u8 1)) rfl<|.o (.const (.int .u32 1)) rfl<|.z (.slice none 0 0)<|.z (.slice none 0 0)<|.n)) ?_
 refine WL.h (h_bs sl22 z39 (.a5 (.tmp 8) rfl<|.a5 (.tmp 9) rfl<|.n) fun b1=>?_)
 refine WL.h (h_call (JOrder_spec (l:=two) (lit_rl deedE two rfl) (by decide) (fun u=>Nat.le_trans (List.length_filter_le _ _) (by decide))) k14 ?_)
 refine ⟨fun h=>absurd h (by decide),fun _ h=>absurd (RkE.local (by decide) (by simp [two,dd])) h,fun _ _ a1 m1 c1 out1 ho1=>?_⟩
 obtain rfl:=two_out ho1
 refine WL.e e_move<|WL.e e_extract<|WL.e e_extract<|WL.e e_assign<|WL.e e_assign<|WL.next<|WP.seq<|WP.reg<|WL.conv (M:=pu True::_) (fun S h=>pu_stars trivial h) ?_
 refine WL.h (h_call (JOrder_spec (A:=pu True) (l:=[]) nil_rl (by simp) (by intro u;simp [ofUnit])) k14 ?_)
 refine ⟨fun h=>absurd h (by decide),fun _ h=>absurd (RkE.local (by simp) (by simp)) h,fun _ _ a2 m2 c2 out2 ho2=>?_⟩
 obtain rfl:out2=[]:=List.length_eq_zero_iff.1 ho2.len
 refine WL.len (fun hm=>?_)
 subst hm
 refine WL.e e_move<|WL.e e_extract<|WL.e e_extract<|WL.e e_assign<|WL.e e_assign<|WL.next<|WP.seq<|WP.reg<|WL.e (e_build z39 p39 (.o (.const (.int .u32 7)) rfl<|.o (.const (.int .u8 1)) rfl<|.o (.const (.int .u32 1)) rfl<|.z (.slice none 0 0)<|.z (.slice none 0 0)<|.n))<|WL.e (e_build z39 p39 (.o (.const (.int .u32 8)) rfl<|.o (.const (.int .u8 1)) rfl<|.o (.const (.int .u32 2)) rfl<|.z (.slice none 0 0)<|.z (.slice none 0 0)<|.n))<|WL.e (e_build z39 p39 (.o (.const (.int .u32 8)) rfl<|.o (.const (.int .u8 2)) rfl<|.o (.const (.int .u32 1)) rfl<|.z (.slice none 0 0)<|.z (.slice none 0 0)<|.n))<|WL.e (e_build z39 p39 (.o (.const (.int .u32 7)) rfl<|.o (.const (.int .u8 2)) rfl<|.o (.const (.int .u32 2)) rfl<|.z (.slice none 0 0)<|.z (.slice none 0 0)<|.n)) ?_
 refine WL.h (h_bs sl22 z39 (.a5 (.tmp 19) rfl<|.a5 (.tmp 20) rfl<|.a5 (.tmp 21) rfl<|.a5 (.tmp 22) rfl<|.n) fun b2=>?_)
 refine WL.h (h_call (JOrder_spec (l:=four_) (lit_rl deedE four_ rfl) (by decide) (fun u=>Nat.le_trans (List.length_filter_le _ _) (by decide))) k14 ?_)
 refine ⟨fun h=>absurd h (by decide),fun _ _=>?_,fun _ h=>absurd h four_no⟩
 refine WL.e e_move<|WL.e e_extract<|WL.e e_extract<|WL.e e_assign<|WL.e e_assign<|WL.next<|WP.seq<|WP.reg<|WL.e e_move<|WL.e e_move ?_
 refine WL.bool 28 rfl (fun k1=>?_) (fun k1=>?_)
 ·skip
  refine WL.e e_move<|WL.e (el_len (xs:=[1,0]) sl23 sl_rl)<|WL.e e_eql<|WL.e e_pick_t<|WL.e e_move ?_
  refine WL.bool 33 rfl (fun k2=>?_) (fun k2=>?_)
  ·skip
   refine WL.e e_move<|WL.e (el_ia (j:=0) (xs:=[1,0]) sl23 sl_rl (by decide))<|WL.e (el_load0 (j:=0) (xs:=[1,0]) (a:=1) a3 natE sl_rl rfl)<|WL.e e_eql<|WL.e e_pick_t<|WL.e e_move ?_
   refine WL.bool 39 rfl (fun k3=>?_) (fun k3=>?_)
   ·skip
    refine WL.e e_move<|WL.e (el_ia (j:=1) (xs:=[1,0]) sl23 sl_rl (by decide))<|WL.e (el_load0 (j:=1) (xs:=[1,0]) (a:=0) a3 natE sl_rl rfl)<|WL.e e_eql<|WL.e e_pick_t<|WL.e e_move ?_
    refine WL.bool 45 rfl (fun k4=>?_) (fun k4=>?_)
    ·skip
     refine WL.e e_move<|WL.e e_pick_t<|WL.e e_move ?_
     refine WL.bool 48 rfl (fun k5=>?_) (fun k5=>?_)
     ·skip
      refine WL.e e_move<|WL.e (e_len_sl sl23)<|WL.e e_eql<|WL.e e_pick_t<|WL.e e_move ?_
      refine WL.bool 53 rfl (fun k6=>?_) (fun k6=>?_)
      ·skip
       refine WL.e e_move<|WL.e e_not<|WL.e e_pick_t<|WL.e e_move ?_
       refine WL.bool 57 rfl (fun k7=>?_) (fun k7=>?_)
       ·skip
        refine WL.e (e_buildA z25 Tryz.underlying25 s24 (.z (.slice none 0 0)<|.z (.slice none 0 0)<|.z (.slice none 0 0)<|.n)) ?_
        refine WL.h (h_call (Serial0_spec) k10 ?_)
        refine WL.e e_pick_t<|WL.e e_move ?_
        refine WL.bool 61 rfl (fun k8=>?_) (fun k8=>?_)
        ·skip
         refine WL.h (h_call (FineN_spec) k16 ?_)
         refine WL.e e_not<|WL.e e_pick_t<|WL.e e_move ?_
         refine WL.bool 65 rfl (fun k9=>?_) (fun k9=>?_)
         ·skip
          refine WL.h (h_call (WNew_spec) k17 ?_)
          intro w d0 c0 n1 n2 n3 bg
          refine WL.h (h_call (Fine_spec) k16 ?_)
          refine WL.e e_pick_t<|WL.e e_assign<|WL.next<|WP.ret ?_
          exact PO.finE Tryz.results7 (rv_tmp rv_nil) rfl hK
         ·cases k9 
        ·cases k8 
       ·cases k7 
      ·exact absurd k6 (by decide) 
     ·cases k5 
    ·exact absurd k4 (by decide) 
   ·exact absurd k3 (by decide) 
  ·exact absurd k2 (by decide) 
 ·cases k1 
end Go.SL
namespace Go.SL.Fc
open Go Go.Proofs Go.SL
theorem a25:aggOf Tryz.prog 25=some (some 3):=by kernel_rfl
theorem k11:callable Tryz.prog 11=true:=by kernel_rfl
theorem k12:callable Tryz.prog 12=true:=by kernel_rfl
theorem k13:callable Tryz.prog 13=true:=by kernel_rfl
theorem k15:callable Tryz.prog 15=true:=by kernel_rfl
theorem k6:callable Tryz.prog 6=true:=by kernel_rfl
theorem k7:callable Tryz.prog 7=true:=by kernel_rfl
theorem k8:callable Tryz.prog 8=true:=by kernel_rfl
theorem k9:callable Tryz.prog 9=true:=by kernel_rfl
end Go.SL.Fc
namespace Go.SL
open Go Go.Proofs Fc
theorem great_spec {g:World} {A:HP} {u:Value} {ps:List PDeed} (hD:DpL A u ps) (hn:ps.length≤140737488351232) (hz:∀ p ∈ ps,SzP p):Spec Tryz.prog g 6 [u] [A] fun K R=>∀ b:Bool,(b=false→ps.length≤60∧∀ p ∈ ps,SmP 2000 p)→K (.bool b) (A::R):=by
  obtain ⟨xs,hX,hXD,hXM⟩:=hD
  have hxl:xs.length=ps.length:=by rw [← hXM,List.length_map]
  refine Spec.intro Tryz.func6 rfl Tryz.ntmps6 rfl fun R K hK=>?_
  refine WP.seq<|WP.reg<|WL.e e_assign<|WL.next<|WP.seq<|WP.reg<|WL.e e_move ?_
  refine WL.h (h_call (DeedsSize_spec hX hXD (by omega) (fun y hy=>hz y.2 (hXM ▸ List.mem_map.2 ⟨y,hy,rfl⟩))) k15 ?_)
  intro n hN
  refine WL.e e_gtr<|WL.e e_move ?_
  refine WL.bool 6 rfl (fun g1=>?_) (fun g1=>?_)
  · skip
    refine WL.skip<|WL.skip<|WL.skip<|WL.e e_pick_t<|WL.e e_assign<|WL.next<|WP.ret ?_
    exact PO.fin Tryz.results6 (rv_tmp rv_nil) (hK true (fun h=>by cases h))
  · replace g1:=of_decide_eq_false g1
    refine WL.e e_move<|WL.e (el_len (xs:=xs) sl22 hX)<|WL.e e_gtr<|WL.e e_pick_f<|WL.e e_assign<|WL.next<|WP.ret ?_
    exact PO.fin Tryz.results6 (rv_tmp rv_nil) (hK _ (fun h=>⟨by have:=of_decide_eq_false h;omega,fun p hp=>by
      rw [← hXM] at hp
      obtain ⟨y,hy,rfl⟩:=List.mem_map.1 hp
      exact (hN (by omega) y hy).mono (by omega)⟩))
set_option maxHeartbeats 4000000 in
theorem JSerial_spec {g:World} {A:HP} (hT:Tab Tryz.prog A) {u v:Value} {ps:List PDeed} {order:List Int} {r0 r1 r2:SV} {l0 l1 l2:List RowM} (hD:DpL A u ps) (hpn:ps.length≤140737488351232) (hz:∀ p ∈ ps,SzP p) (hO:RL A 1 intC v order) (h0:RL A 2 RowM.c r0.v l0) (h1:RL A 2 RowM.c r1.v l1) (h2:RL A 2 RowM.c r2.v l2) (hl:l0.length≤140737488351232∧l1.length≤140737488351232∧l2.length≤140737488351232) :
    Spec Tryz.prog g 3 [u,v,.agg #[r0.v,r1.v,r2.v]] [A] fun K R=>K (.bool true) (A::R):=by
  refine Spec.intro Tryz.func3 rfl Tryz.ntmps3 rfl fun R K hK=>?_
  refine WP.seq<|WP.reg ?_
  refine WL.h (h_box fun b1=>?_)
  refine WL.e e_assign<|WL.next<|WP.seq<|WP.seq<|WP.reg<|WL.e e_move ?_
  refine WL.h (h_call (great_spec hD hpn hz) k6 ?_)
  intro b hb
  refine WL.e e_move ?_
  refine WL.bool 11 rfl (fun g1=>?_) (fun g1=>?_)
  · skip
    refine WL.skip<|WL.skip<|WL.skip<|WL.e e_pick_t<|WL.e e_move<|WL.skip<|WL.skip<|WL.skip<|WL.skip<|WL.skip<|WL.skip<|WL.skip<|WL.skip<|WL.skip<|WL.skip<|WL.skip<|WL.skip<|WL.e e_pick_t<|WL.next<|WP.cond_t rfl<|WP.seq<|WP.reg ?_
    refine WL.h (h_call (lives_spec) k7 ?_)
    refine WL.e e_assign<|WL.next<|WP.ret<|PO.past nofun ?_
    exact PO.finE Tryz.results3 (rv_tmp rv_nil) rfl hK
  · obtain ⟨hn,hs⟩:=hb g1
    refine WL.e e_move<|WL.e (el_len (xs:=order) sl23 hO)<|WL.e e_gtr<|WL.e e_pick_f<|WL.e e_move ?_
    refine WL.bool 16 rfl (fun g2=>?_) (fun g2=>?_)
    · skip
      refine WL.skip<|WL.skip<|WL.skip<|WL.skip<|WL.skip<|WL.skip<|WL.skip<|WL.skip<|WL.skip<|WL.skip<|WL.skip<|WL.skip<|WL.e e_pick_t<|WL.next<|WP.cond_t rfl<|WP.seq<|WP.reg ?_
      refine WL.h (h_call (lives_spec) k7 ?_)
      refine WL.e e_assign<|WL.next<|WP.ret<|PO.past nofun ?_
      exact PO.finE Tryz.results3 (rv_tmp rv_nil) rfl hK
    · replace g2:=of_decide_eq_false g2
      refine WL.e (e_iaA (j:=0) ar25 (by decide))<|WL.e (e_load a24)<|WL.e (el_len (xs:=l0) sl24 h0)<|WL.e (e_iaA (j:=1) ar25 (by decide))<|WL.e (e_load a24)<|WL.e (el_len (xs:=l1) sl24 h1)<|WL.e (e_add (c:=((l0.length+l1.length:Nat):Int)) rfl rfl (by rw [w_i64 (by omega) (by omega)];omega))<|WL.e (e_iaA (j:=2) ar25 (by decide))<|WL.e (e_load a24)<|WL.e (el_len (xs:=l2) sl24 h2)<|WL.e (e_add (c:=((l0.length+l1.length+l2.length:Nat):Int)) rfl rfl (by rw [w_i64 (by omega) (by omega)];omega))<|WL.e e_gtr<|WL.e e_pick_f<|WL.next ?_
      refine WP.cond rfl (fun h3=>?_) (fun h3=>?_)
      · skip
        refine WP.seq<|WP.reg ?_
        refine WL.h (h_call (lives_spec) k7 ?_)
        refine WL.e e_assign<|WL.next<|WP.ret<|PO.past nofun ?_
        exact PO.finE Tryz.results3 (rv_tmp rv_nil) rfl hK
      · have hR:=M3.of h0 h1 h2
        have ho:order.length≤100:=by omega
        refine WP.skip<|PO.next<|WP.seq<|WP.reg<|WL.e e_move ?_
        refine WL.h (h_call (TwinDeeds_spec hD (by omega) (fun p hp=>(hs p hp).mono (by decide))) k8 ?_)
        intro s1 B1 hG1 hW1
        refine WL.e e_assign<|WL.next<|WP.seq<|WP.reg<|WL.e e_move ?_
        refine WL.h (h_call (TwinInts_spec (hO.ge hG1) (by omega)) k9 ?_)
        intro s2 B2 hG2 hW2
        refine WL.e e_assign<|WL.next<|WP.seq<|WP.draws mixedOk 23<|RW.e 0 rfl e_move<|RW.e 1 rfl e_move<|RW.e 2 rfl (e_loadN a25)<|RW.e 4 rfl e_move<|RW.e 5 rfl e_move<|RW.e 6 rfl (e_loadN a25) ?_
        refine RW.any (is:=[3]) rfl ⟨?_,trivial⟩
        refine RWat.h rfl rfl rfl ?_
        refine (h_call (Serial_spec ((hT.ge hG1).ge hG2) (hW1.ge hG2).dp (hW2.rl intE) (hR.ge (hG1.trans hG2)) hn hs ho) k10 ?_)
        refine ⟨⟨⟨_,rfl,.inl ⟨rfl,(e_loadN a25)⟩⟩,⟨_,rfl,.inl ⟨rfl,e_move⟩⟩,⟨_,rfl,.inl ⟨rfl,e_move⟩⟩,trivial⟩,?_⟩
        refine RW.any (is:=[7]) rfl ⟨?_,trivial⟩
        refine RWat.h rfl rfl rfl ?_
        refine (h_call (rSerial_spec (hD.ge (hG1.trans hG2)) (hO.ge (hG1.trans hG2)) (hR.ge (hG1.trans hG2)) hn hs ho hz) k11 ?_)
        refine ⟨trivial,?_⟩
        refine RW.e 8 rfl (e_eqlB Tryz.underlying4)<|RW.e 9 rfl e_move ?_
        refine RW.bool 44 rfl (fun g5=>?_) (fun g5=>?_)
        · skip
          refine RW.e 10 rfl e_move<|RW.e 11 rfl e_move ?_
          refine RW.any (is:=[12]) rfl ⟨?_,trivial⟩
          refine RWat.h rfl rfl rfl ?_
          refine (h_call (LeftDeeds_spec (hW1.ge hG2) (hD.ge (hG1.trans hG2)) (by omega) (fun p hp=>(hs p hp).mono (by decide))) k12 ?_)
          refine ⟨trivial,?_⟩
          refine RW.e 13 rfl e_pick_t<|RW.e 14 rfl e_move ?_
          refine RW.bool 49 rfl (fun g6=>?_) (fun g6=>?_)
          · skip
            refine RW.e 15 rfl e_move<|RW.e 16 rfl e_move ?_
            refine RW.any (is:=[17]) rfl ⟨?_,trivial⟩
            refine RWat.h rfl rfl rfl ?_
            refine (h_call (LeftInts_spec hW2 (hO.ge (hG1.trans hG2)) (by omega)) k13 ?_)
            refine ⟨trivial,?_⟩
            refine RW.e 18 rfl e_pick_t<|RW.e 19 rfl e_move ?_
            refine RW.bool 54 rfl (fun g7=>?_) (fun g7=>?_)
            · skip
              refine RW.any (is:=[20]) rfl ⟨?_,trivial⟩
              refine RWat.h rfl rfl rfl ?_
              refine (h_call (lives_spec) k7 ?_)
              refine ⟨trivial,?_⟩
              refine RW.e 21 rfl e_pick_t<|RW.e 22 rfl e_assign<|RW.done<|PO.next<|WP.ret<|PO.backP (hG1.trans hG2) ?_
              exact PO.finE Tryz.results3 (rv_tmp rv_nil) rfl hK
            · cases g7 
          · cases g6 
        · simp at g5 
end Go.SL
