import Derived.Test.YtjllpjpokkmaiaaGreatDoorQB21
import Derived.Deep.Slices
import Derived.ChangeSame
import Derived.SizedLaws
set_option linter.unusedSimpArgs false
set_option linter.unusedVariables false
namespace Go.SL.Fc
open Go Go.Proofs Go.SL
theorem a52:aggOf Tryz.prog 52=some none:=by kernel_rfl
theorem a54:aggOf Tryz.prog 54=some (some 8):=by kernel_rfl
theorem f54_0:fldOf Tryz.prog 54 0=some 0:=by kernel_rfl
theorem f54_1:fldOf Tryz.prog 54 1=some 1:=by kernel_rfl
theorem f54_2:fldOf Tryz.prog 54 2=some 2:=by kernel_rfl
theorem f54_3:fldOf Tryz.prog 54 3=some 6:=by kernel_rfl
theorem f54_4:fldOf Tryz.prog 54 4=some 7:=by kernel_rfl
theorem k10:callable Tryz.prog 10=true:=by kernel_rfl
theorem k12:callable Tryz.prog 12=true:=by kernel_rfl
theorem k14:callable Tryz.prog 14=true:=by kernel_rfl
theorem k15:callable Tryz.prog 15=true:=by kernel_rfl
theorem k16:callable Tryz.prog 16=true:=by kernel_rfl
theorem k18:callable Tryz.prog 18=true:=by kernel_rfl
theorem k19:callable Tryz.prog 19=true:=by kernel_rfl
theorem k20:callable Tryz.prog 20=true:=by kernel_rfl
theorem k22:callable Tryz.prog 22=true:=by kernel_rfl
theorem k24:callable Tryz.prog 24=true:=by kernel_rfl
theorem k25:callable Tryz.prog 25=true:=by kernel_rfl
theorem k26:callable Tryz.prog 26=true:=by kernel_rfl
theorem k28:callable Tryz.prog 28=true:=by kernel_rfl
theorem k29:callable Tryz.prog 29=true:=by kernel_rfl
theorem k4:callable Tryz.prog 4=true:=by kernel_rfl
theorem k5:callable Tryz.prog 5=true:=by kernel_rfl
theorem k8:callable Tryz.prog 8=true:=by kernel_rfl
theorem s54:szOf Tryz.prog 54=some 8:=by kernel_rfl
theorem z47:zeroOf Tryz.prog 47=some [.int .i64 0,.slice none 0 0,.slice none 0 0,.slice none 0 0,.slice none 0 0,.slice none 0 0,.slice none 0 0,.slice none 0 0,.slice none 0 0,.slice none 0 0,.slice none 0 0,.slice none 0 0,.slice none 0 0]:=by kernel_rfl
theorem z54:zeroOf Tryz.prog 54=some [.int .u8 0,.int .u32 0,.int .u8 0,.string .empty,.string .empty,.int .u32 0,.int .u64 0,.int .i64 0]:=by kernel_rfl
end Go.SL.Fc
namespace Go.SL
open Go Go.Proofs Fc
theorem great3_spec {g:World} {A:HP} {u:Value} {xs:List ActM} (hA:RL A 8 ActM.c u xs):Spec Tryz.prog g 4 [u] [A] fun K R=>K (.bool (decide (150 < xs.length))) (A::R):=by
 refine Spec.intro Tryz.func4 rfl Tryz.ntmps4 rfl fun R K hK=>?_
 refine WP.seq<|WP.reg<|WL.e e_assign<|WL.next<|WP.seq<|WP.reg<|WL.e e_move<|WL.e (el_len sl22 hA)<|WL.e e_gtr<|WL.e e_assign<|WL.next<|WP.ret ?_
 exact PO.finE Tryz.results4 (rv_tmp rv_nil) (by simp;omega) hK
set_option maxHeartbeats 16000000 in
theorem Play_spec {g:World} {A:HP} {u:Value} {xs:List ActM} (hA:RL A 8 ActM.c u xs) (hT:Tab Tryz.prog A) (hbig:∀ x ∈ xs,x.op.key.size≤9223372036854775807∧x.op.to.size≤9223372036854775807):Spec Tryz.prog g 3 [u] [A] fun K R=>K (.bool true) (A::R):=by
 refine Spec.intro Tryz.func3 rfl Tryz.ntmps3 rfl fun R K hK=>?_
 refine WP.seq<|WP.reg<|WL.e e_assign<|WL.next<|WP.seq<|WP.seq<|WP.reg<|WL.e e_move ?_
 refine WL.h (h_call (great3_spec hA) k4 ?_)
 refine WL.next ?_
 refine WP.cond rfl (fun h0=>?_) (fun h0=>?_)
 ·skip
  refine WP.seq<|WP.reg ?_
  refine WL.h (h_call (lives_spec) k5 ?_)
  refine WL.e e_assign<|WL.next<|WP.ret<|PO.past nofun ?_
  exact PO.finE Tryz.results3 (rv_tmp rv_nil) rfl hK
 ·replace h0:xs.length≤150:=by simp at h0;omega
  refine WP.skip<|PO.next<|WP.seq<|WP.reg ?_
  refine WL.h (h_call (New_spec 4096 (by decide)) k6 ?_)
  refine ⟨fun h=>absurd h (by omega),fun _ _ dp=>?_⟩
  refine WL.e e_move<|WL.e e_extract<|WL.e e_extract<|WL.e e_assign<|WL.e e_assign<|WL.next<|WP.seq<|WP.reg<|WL.e e_move ?_
  refine WL.h (h_call (BNew_spec (d:=newDisk 4096) (at0:=0) [] DiskLogB.first (by simp)) k7 ?_)
  intro p
  refine WL.e e_move<|WL.e e_extract<|WL.e e_extract<|WL.e e_assign<|WL.e e_assign<|WL.next<|WP.seq<|WP.reg ?_
  refine WL.h (h_call (rNew_spec) k8 ?_)
  intro mp
  refine WL.e e_assign<|WL.next<|WP.seq<|WP.seq<|WP.reg<|WL.e e_move<|WL.e e_neq<|WL.next<|WP.cond_f rfl<|WP.skip<|PO.next<|WP.seq<|WP.reg ?_
  refine WL.h (h_alloc z47 fun b1=>?_)
  refine WL.next<|WP.seq<|WP.seq<|WP.reg<|WL.e e_assign<|WL.next<|WP.block<|WP.nils 201 3 (hdC (α:=UInt32)) none ?_
  refine WP.conv (M:=Mb (Hd0 48 1 u32C) []::_) (fun _=>Mb_nil) ?_
  refine WP.nils 199 3 (hdC (α:=RowM)) none ?_
  refine WP.conv (M:=Mb (Hd0 142 2 RowM.c) []::_) (fun _=>Mb_nil) ?_
  refine WP.cls (A:=Bk b1 ⟨0,[],[]⟩) (B:=[cl b1 47 [.int .i64 0,.slice none 0 0,.slice none 0 0,.slice none 0 0,.slice none 0 0,.slice none 0 0,.slice none 0 0,.slice none 0 0,.slice none 0 0,.slice none 0 0,.slice none 0 0,.slice none 0 0,.slice none 0 0],Sl 201 3 (hdC (α:=UInt32)) (.slice none 0 0) [],Mb (Hd0 48 1 u32C) [],Sl 199 3 (hdC (α:=RowM)) (.slice none 0 0) [],Mb (Hd0 142 2 RowM.c) []]) (fun S h=>⟨(⟨none,0,0⟩,⟨none,0,0⟩),h⟩) ?_
  refine WP.loopK (fun (y:Nat × Nat × Nat × Nat × StV × RefV × BookV)=>[(9,.int .i64 y.1),(3,.pointer (some ⟨y.2.1,0,none⟩)),(5,.pointer (some ⟨y.2.2.1,0,none⟩)),(7,.pointer (some ⟨y.2.2.2.1,0,none⟩))]) (fun (y:Nat × Nat × Nat × Nat × StV × RefV × BookV)=>Bs y.2.2.1 y.2.1 (y.2.2.2.2.1)::TxsU TPB (y.2.2.2.2.1).txs::Rf y.2.2.2.1 (y.2.2.2.2.2.1)::Bk b1 (y.2.2.2.2.2.2)::A::R) [(0,_),(8,_)] (fun (y:Nat × Nat × Nat × Nat × StV × RefV × BookV)=>y.1≤xs.length∧RelB y.1 y.2.2.2.2.1 y.2.2.2.2.2.1∧BkOk y.2.2.2.2.2.2 (3 * y.1)) (fun (y:Nat × Nat × Nat × Nat × StV × RefV × BookV)=>xs.length - y.1) (0,dp,p,mp,stF,ref0,⟨0,[],[]⟩) (⟨Nat.zero_le _,RelB.first,BkOk.zero⟩) ?_
  rintro ⟨i,dp,p,mp,s,m,bk⟩ ⟨hi,hR,hB⟩
  simp only at hi hR hB
  dsimp only
  refine WP.seq<|WP.seq<|WP.reg<|WL.e e_move<|WL.e e_move<|WL.e (el_len sl22 hA)<|WL.e e_lss<|WL.next ?_
  refine WP.cond rfl (fun h1=>?_) (fun h1=>?_)
  ·have hlt:i < xs.length:=by rw [decide_eq_true_eq] at h1;omega
   obtain ⟨x,hx⟩:∃ x,xs[i]?=some x:=⟨_,List.getElem?_eq_getElem hlt⟩
   refine WP.skip<|PO.next<|WP.seq<|WP.block<|WP.seq<|WP.reg<|WL.e e_move<|WL.e e_move<|WL.e (el_ia (j:=i) sl22 hA hlt)<|WL.e (el_loadN (a:=x) a54 actE hA hx) ?_
   refine WL.h (h_alloc z54 fun b2=>?_)
   refine WL.h' (h_store s54 ?_)
   refine WL.next ?_
   refine WP.cutR (fun (y:Nat × Nat × Nat × StV × RefV × BookV)=>[(3,.pointer (some ⟨y.1,0,none⟩)),(5,.pointer (some ⟨y.2.1,0,none⟩)),(7,.pointer (some ⟨y.2.2.1,0,none⟩))]) (fun (y:Nat × Nat × Nat × StV × RefV × BookV)=>Bs y.2.1 y.1 (y.2.2.2.1)::TxsU TPB (y.2.2.2.1).txs::Rf y.2.2.1 (y.2.2.2.2.1)::Bk b1 (y.2.2.2.2.2)::A::R) [(0,_),(8,_),(9,_),(10,_),(38,_),(39,_),(40,_),(41,_),(44,_),(45,_),(46,_),(47,_)] (fun (y:Nat × Nat × Nat × StV × RefV × BookV)=>RelB (i+1) y.2.2.2.1 y.2.2.2.2.1∧BkOk y.2.2.2.2.2 (3 * i+1)) ?_ ?_
   ·skip
    refine WP.seq<|WP.reg<|WL.e (e_fa f54_0)<|WL.e (e_load a5)<|WL.e (e_rem (c:=((x.kind.toNat % 12:Nat):Int)) rfl rfl (by decide) (by rw [Int.tmod_eq_emod_of_nonneg (by omega)];omega))<|WL.next<|WP.block<|WP.seq<|WP.reg<|WL.e e_eql<|WL.e e_assign<|WL.next ?_
    refine WP.cond rfl (fun c0=>?_) (fun c0=>?_)
    ·skip
     refine WP.seq<|WP.draws mixedOk 9<|RW.e 0 rfl e_move<|RW.e 1 rfl (e_fa f54_1)<|RW.e 2 rfl (e_load a48)<|RW.e 4 rfl e_move<|RW.e 5 rfl (e_fa f54_1)<|RW.e 6 rfl (e_load a48) ?_
     refine RW.any (is:=[3]) rfl ⟨?_,trivial⟩
     refine RWat.h rfl rfl rfl ?_
     refine (h_call (BBegin_spec (s:=s) x.tx) k9 ?_)
     intro q
     refine ⟨⟨⟨_,rfl,.inl ⟨rfl,(e_load a48)⟩⟩,⟨_,rfl,.inl ⟨rfl,(e_fa f54_1)⟩⟩,⟨_,rfl,.inl ⟨rfl,e_move⟩⟩,trivial⟩,?_⟩
     refine RW.any (is:=[7]) rfl ⟨?_,trivial⟩
     refine RWat.h rfl rfl rfl ?_
     refine (h_call (rBegin_spec (s:=m) x.tx hR.ok (by omega)) k10 ?_)
     intro q2
     refine ⟨trivial,?_⟩
     refine RW.e 8 rfl e_neq<|RW.done<|PO.next ?_
     refine WP.cond rfl (fun c1=>?_) (fun c1=>?_)
     ·rw [hR.begE] at c1;simp at c1
     ·skip
      refine WP.skip<|PO.blockN ?_
      exact PO.meetK (dp,p,mp,begS s x.tx q,rBeg m x.tx q2,bk) ⟨hR.beg (by omega) x.tx q q2,hB.mono (by omega)⟩
    ·skip
     refine WP.cutL (fun (q:Bool)=>[(91,.bool q)]) (fun (q:Bool)=>Bs p dp (s)::TxsU TPB (s).txs::Rf mp (m)::Bk b1 (bk)::cl b2 54 (ActM.c x)::A::R) (fun (q:Bool)=>True) ?_ ?_
     ·skip
      refine WP.seq<|WP.reg<|WL.e e_eql<|WL.e e_assign<|WL.next ?_
      refine WP.cond rfl (fun c8=>?_) (fun c8=>?_)
      ·skip
       refine WP.skip ?_
       exact PO.meetK _ trivial
      ·skip
       refine WP.reg<|WL.e e_eql<|WL.e e_assign<|WL.nil ?_
       exact PO.meetK _ trivial
     ·intro q _
      refine WP.cond rfl (fun c9=>?_) (fun c9=>?_)
      ·skip
       refine WP.seq<|WP.reg<|WL.e e_move<|WL.e (e_fa f54_1)<|WL.e (e_load a48) ?_
       refine WL.h (h_call (BCommit_spec (s:=s) x.tx hR.bet (by omega)) k11 ?_)
       obtain ⟨hc1,hc2,hR2⟩:=hR.com (by omega) x.tx
       rw [hc1,hc2]
       refine WL.e e_move<|WL.e e_extract<|WL.e e_extract<|WL.e e_assign<|WL.e e_assign<|WL.next<|WP.seq<|WP.reg<|WL.e e_move<|WL.e (e_fa f54_1)<|WL.e (e_load a48) ?_
       refine WL.h (h_call (rCommit_spec (s:=m) x.tx hR.ok (by omega)) k12 ?_)
       refine WL.e e_move<|WL.e e_extract<|WL.e e_extract<|WL.e e_assign<|WL.e e_assign<|WL.next<|WP.seq<|WP.reg<|WL.e e_move<|WL.e e_move<|WL.e (e_neq32)<|WL.e e_move ?_
       refine WL.bool 111 rfl (fun e1=>?_) (fun e1=>?_)
       ·simp at e1 
       ·skip
        refine WL.e e_move<|WL.e e_move<|WL.e e_neq<|WL.e e_pick_f<|WL.next ?_
        refine WP.cond rfl (fun c2=>?_) (fun c2=>?_)
        ·simp at c2
        ·skip
         refine WP.skip<|PO.blockN ?_
         exact PO.meetK (dp,p,mp,comS betaI s x.tx,rCom m x.tx,bk) ⟨hR2,hB.mono (by omega)⟩
      ·skip
       refine WP.seq<|WP.reg<|WL.e e_eql<|WL.e e_assign<|WL.next ?_
       refine WP.cond rfl (fun c10=>?_) (fun c10=>?_)
       ·skip
        refine WP.seq<|WP.draws mixedOk 9<|RW.e 0 rfl e_move<|RW.e 1 rfl (e_fa f54_1)<|RW.e 2 rfl (e_load a48)<|RW.e 4 rfl e_move<|RW.e 5 rfl (e_fa f54_1)<|RW.e 6 rfl (e_load a48) ?_
        refine RW.any (is:=[3]) rfl ⟨?_,trivial⟩
        refine RWat.h rfl rfl rfl ?_
        refine (h_call (BAbort_spec (s:=s) x.tx hR.bet) k13 ?_)
        refine ⟨⟨⟨_,rfl,.inl ⟨rfl,(e_load a48)⟩⟩,⟨_,rfl,.inl ⟨rfl,(e_fa f54_1)⟩⟩,⟨_,rfl,.inl ⟨rfl,e_move⟩⟩,trivial⟩,?_⟩
        refine RW.any (is:=[7]) rfl ⟨?_,trivial⟩
        refine RWat.h rfl rfl rfl ?_
        refine (h_call (rAbort_spec (s:=m) x.tx hR.ok) k14 ?_)
        refine ⟨trivial,?_⟩
        refine RW.e 8 rfl e_neq<|RW.done<|PO.next ?_
        refine WP.cond rfl (fun c3=>?_) (fun c3=>?_)
        ·rw [← hR.aboE x.tx] at c3
         by_cases hb:(findU m.txs x.tx).isSome=true <;> simp [hb] at c3
        ·skip
         refine WP.skip<|PO.blockN ?_
         exact PO.meetK (dp,p,mp,aboS betaI s x.tx,rAbo m x.tx,bk) ⟨hR.abo (by omega) x.tx,hB.mono (by omega)⟩
       ·skip
        refine WP.seq<|WP.reg<|WL.e e_eql<|WL.e e_assign<|WL.next ?_
        refine WP.cond rfl (fun c11=>?_) (fun c11=>?_)
        ·refine WP.opn (Bs_op (p:=p) (dp:=dp) (s:=s)) fun z=>?_
         obtain ⟨lp,pp,mb⟩:=z
         dsimp only
         refine WP.seq<|WP.reg<|WL.e e_move<|WL.e (e_fa f54_3)<|WL.e (e_load a52)<|WL.e (e_fa f54_4)<|WL.e (e_load a3)<|WL.e e_maxI ?_
         refine WL.h (h_call (Fail_spec (p:=dp) (d:=s.d) x.keep (if x.torn > -1 then x.torn else -1) (by split <;> omega) hR.bet.st.log.ok hR.bet.st.log.waits) k15 ?_)
         intro q
         rw [hR.bet.st.log.fail]
         refine WL.e e_move<|WL.e e_extract<|WL.e e_extract<|WL.e e_assign<|WL.e e_assign<|WL.next<|WP.seq<|WP.seq<|WP.reg<|WL.e e_move<|WL.e e_neq<|WL.next<|WP.cond_f rfl<|WP.skip<|PO.next<|WP.seq<|WP.reg<|WL.e e_move<|WL.e e_assign<|WL.next<|WP.seq<|WP.reg<|WL.e e_move ?_
         refine WL.h (h_call (BNew_spec (dp:=q) (d:=s.d) (at0:=s.at_) s.H hR.bet.st.log hR.bet.st.recs) k7 ?_)
         intro p2
         refine WL.e e_move<|WL.e e_extract<|WL.e e_extract<|WL.e e_assign<|WL.e e_assign<|WL.next<|WP.seq<|WP.reg<|WL.e e_move ?_
         refine WL.h (h_call (rAgain_spec (s:=m)) k16 ?_)
         intro mp3
         refine WL.e e_assign<|WL.next<|WP.seq<|WP.reg<|WL.e e_move<|WL.e e_neq<|WL.next<|WP.cond_f rfl<|WP.skip<|PO.blockN ?_
         exact PO.meetK (q,p2,mp3,st0 s.d s.at_ s.H,rAgain m,bk) ⟨hR.again (by omega),hB.mono (by omega)⟩
        ·skip
         refine WP.seq<|WP.reg<|WL.e e_move<|WL.e (e_fa f54_1)<|WL.e (e_load a48)<|WL.e (e_fa f54_2)<|WL.e (e_loadN a51) ?_
         refine WL.h (h_call (BDo_spec (s:=s) x.tx x.op hR.bet) k17 ?_)
         have hD:=hR.does (by omega) x.tx x.op
         generalize hd2:rDo m x.tx x.op=d2 at hD
         generalize doB s x.tx x.op=d1 at hD ⊢
         cases hD
         ·rename_i e9 hR9
          dsimp only
          refine WL.e e_move<|WL.e e_extract<|WL.e e_extract ?_
          refine WL.h (h_alloc z61 fun b3=>?_)
          refine WL.h' (h_store s61 ?_)
          refine WL.e e_assign<|WL.next<|WP.seq<|WP.reg<|WL.e e_move<|WL.e (e_fa f54_1)<|WL.e (e_load a48)<|WL.e (e_fa f54_2)<|WL.e (e_loadN a51) ?_
          refine WL.h (h_call (rDo_spec (s:=m) x.tx x.op hR.ok (by omega) (hbig x (List.mem_of_getElem? hx)).1 (hbig x (List.mem_of_getElem? hx)).2) k18 ?_)
          rw [hd2]
          dsimp only
          refine WL.e e_move<|WL.e e_extract<|WL.e e_extract ?_
          refine WL.h (h_alloc z61 fun b4=>?_)
          refine WL.h' (h_store s61 ?_)
          refine WL.e e_assign<|WL.next<|WP.seq<|WP.seq<|WP.reg<|WL.e e_move<|WL.e e_move<|WL.e e_neq<|WL.e e_move ?_
          refine WL.bool 72 rfl (fun e1=>?_) (fun e1=>?_)
          ·simp at e1 
          ·skip
           refine WL.e (e_loadN a61)<|WL.e (e_loadN a61) ?_
           refine WL.h (h_call (SameResult_spec (u:=⟨none,0,0⟩) (v:=⟨none,0,0⟩) (xs:=[]) (ys:=[]) (A:=Rf mp m) (B:=Bk b1 bk) nil_rl nil_rl (by simp)) k19 ?_)
           rw [decide_eq_true rfl]
           refine WL.e e_not<|WL.e e_pick_f<|WL.next ?_
           refine WP.cond rfl (fun y5=>?_) (fun y5=>?_)
           ·simp at y5
           ·skip
            refine WP.skip<|PO.next<|WP.reg<|WL.e (e_loadN a61)<|WL.nils 142 2 RowM.c none ?_
            refine WL.h (h_call (bResult_spec hB (by omega)) k20 ?_)
            refine WL.nil<|PO.blockN ?_
            exact PO.meetK (dp,p,mp,s,m,keepR bk ⟨none,0,0⟩ []) ⟨hR9,hB.row (by omega) _ _ (by simp)⟩
         ·rename_i s9 u9 c9 hR9
          dsimp only
          refine WL.e e_move<|WL.e e_extract<|WL.e e_extract ?_
          refine WL.h (h_alloc z61 fun b5=>?_)
          refine WL.h' (h_store s61 ?_)
          refine WL.e e_assign<|WL.next<|WP.seq<|WP.reg<|WL.e e_move<|WL.e (e_fa f54_1)<|WL.e (e_load a48)<|WL.e (e_fa f54_2)<|WL.e (e_loadN a51) ?_
          refine WL.h (h_call (rDo_spec (s:=m) x.tx x.op hR.ok (by omega) (hbig x (List.mem_of_getElem? hx)).1 (hbig x (List.mem_of_getElem? hx)).2) k18 ?_)
          rw [hd2]
          dsimp only
          intro sv8
          refine WL.e e_move<|WL.e e_extract<|WL.e e_extract ?_
          refine WL.h (h_alloc z61 fun b6=>?_)
          refine WL.h' (h_store s61 ?_)
          refine WL.e e_assign<|WL.next<|WP.seq<|WP.seq<|WP.reg<|WL.e e_move<|WL.e e_move<|WL.e e_neq<|WL.e e_move ?_
          refine WL.bool 72 rfl (fun e1=>?_) (fun e1=>?_)
          ·simp at e1 
          ·skip
           refine WL.e (e_loadN a61)<|WL.e (e_loadN a61) ?_
           refine WL.h (h_call (SameResult_spec (u:=⟨none,0,0⟩) (v:=⟨none,0,0⟩) (xs:=[]) (ys:=[]) (A:=Rf mp (rPut m u9 c9 sv8)) (B:=Bk b1 bk) nil_rl nil_rl (by simp)) k19 ?_)
           rw [decide_eq_true rfl]
           refine WL.e e_not<|WL.e e_pick_f<|WL.next ?_
           refine WP.cond rfl (fun y5=>?_) (fun y5=>?_)
           ·simp at y5
           ·skip
            refine WP.skip<|PO.next<|WP.reg<|WL.e (e_loadN a61)<|WL.nils 142 2 RowM.c none ?_
            refine WL.h (h_call (bResult_spec hB (by omega)) k20 ?_)
            refine WL.nil<|PO.blockN ?_
            exact PO.meetK (dp,p,mp,s9,rPut m u9 c9 sv8,keepR bk ⟨none,0,0⟩ []) ⟨hR9 sv8,hB.row (by omega) _ _ (by simp)⟩
         ·rename_i s9 u9 rw9 hw9 hR9
          subst hw9
          dsimp only
          intro a7 m7 c7
          refine WL.e e_move<|WL.e e_extract<|WL.e e_extract ?_
          refine WL.h (h_alloc z61 fun b7=>?_)
          refine WL.h' (h_store s61 ?_)
          refine WL.e e_assign<|WL.next<|WP.seq<|WP.reg<|WL.e e_move<|WL.e (e_fa f54_1)<|WL.e (e_load a48)<|WL.e (e_fa f54_2)<|WL.e (e_loadN a51) ?_
          refine WL.h (h_call (rDo_spec (s:=m) x.tx x.op hR.ok (by omega) (hbig x (List.mem_of_getElem? hx)).1 (hbig x (List.mem_of_getElem? hx)).2) k18 ?_)
          rw [hd2]
          dsimp only
          intro kv8 sv8 a8 m8 c8
          refine WL.e e_move<|WL.e e_extract<|WL.e e_extract ?_
          refine WL.h (h_alloc z61 fun b8=>?_)
          refine WL.h' (h_store s61 ?_)
          refine WL.e e_assign<|WL.next<|WP.seq<|WP.seq<|WP.reg<|WL.e e_move<|WL.e e_move<|WL.e e_neq<|WL.e e_move ?_
          refine WL.bool 72 rfl (fun e1=>?_) (fun e1=>?_)
          ·simp at e1 
          ·skip
           refine WL.e (e_loadN a61)<|WL.e (e_loadN a61) ?_
           refine WL.h (h_call (SameResult_spec (u:=⟨a7,m7,c7⟩) (v:=⟨a8,m8,c8⟩) (sl_rl (E:=142) (xs:=scanR (changeR (rowsN m.H u9.x.at_.toNat) u9.x.own) (spanOf x.op) 256)) (sl_rl (E:=142) (xs:=scanR (changeR (rowsN m.H u9.x.at_.toNat) u9.x.own) (spanOf x.op) 256)) (by have:(scanR (changeR (rowsN m.H u9.x.at_.toNat) u9.x.own) (spanOf x.op) 256).length≤256:=List.length_take_le _ _;omega)) k19 ?_)
           rw [show decide (scanR (changeR (rowsN m.H u9.x.at_.toNat) u9.x.own) (spanOf x.op) 256=scanR (changeR (rowsN m.H u9.x.at_.toNat) u9.x.own) (spanOf x.op) 256)=true from decide_eq_true rfl]
           refine WL.e e_not<|WL.e e_pick_f<|WL.next ?_
           refine WP.cond rfl (fun y5=>?_) (fun y5=>?_)
           ·simp at y5
           ·skip
            refine WP.skip<|PO.next<|WP.reg<|WL.e (e_loadN a61) ?_
            refine WL.h (h_call (bResult_spec hB (by omega)) k20 ?_)
            refine WL.nil<|PO.blockN ?_
            exact PO.meetK (dp,p,mp,s9,rLook m u9 (spanOf x.op) kv8 sv8,keepR bk ⟨a7,m7,c7⟩ (scanR (changeR (rowsN m.H u9.x.at_.toNat) u9.x.own) (spanOf x.op) 256)) ⟨hR9 kv8 sv8,hB.row (by omega) _ _ (by have:(scanR (changeR (rowsN m.H u9.x.at_.toNat) u9.x.own) (spanOf x.op) 256).length≤256:=List.length_take_le _ _;omega)⟩
   ·rintro ⟨dp,p,mp,s,m,bk⟩ ⟨hR,hB⟩
    simp only at hR hB
    dsimp only
    have hrl:s.rows.length≤1000000000:=by have:=hR.bet.st.rows_le;omega
    have htl:=hR.ok.tl
    have hil:(m.txs.map (·.id)).length≤1000000000:=by simp;omega
    refine WP.seq<|WP.reg<|WL.e e_move ?_
    refine WL.h (h_call (BRows_spec (s:=s) hR.bet) k21 ?_)
    intro a5 m5 c5
    refine WL.e e_assign<|WL.next<|WP.seq<|WP.reg<|WL.e e_move ?_
    refine WL.h (h_call (BOpen_spec (s:=s) (by have:=hR.tlen;omega)) k22 ?_)
    intro a6 m6 c6 zs z1 z2
    obtain rfl:=hR.open_ z1 z2
    refine WL.e e_assign<|WL.next<|WP.seq<|WP.seq<|WP.reg<|WL.e e_move<|WL.e e_move ?_
    refine WL.h (h_call (rRows_spec (s:=m) hR.ok (by omega)) k24 ?_)
    intro a7 m7 c7
    refine WL.h (h_call (SameRows_spec (sl_rl (E:=142) (xs:=s.rows)) (sl_rl (E:=142) (xs:=rowsN m.H m.H.length)) (by omega)) k23 ?_)
    rw [decide_eq_true (show s.rows=rowsN m.H m.H.length by rw [hR.H];rfl)]
    refine WL.e e_not<|WL.e e_move ?_
    refine WL.bool 160 rfl (fun e1=>?_) (fun e1=>?_)
    ·cases e1 
    ·skip
     refine WL.e e_move<|WL.e e_move ?_
     refine WL.h (h_call (rOpen_spec (s:=m) hR.ok) k26 ?_)
     intro a8 m8 c8
     refine WL.h (h_call (SameIds_spec (sl_rl (E:=48) (xs:=m.txs.map (·.id))) (sl_rl (E:=48) (xs:=m.txs.map (·.id))) (by omega)) k25 ?_)
     rw [decide_eq_true rfl]
     refine WL.e e_not<|WL.e e_pick_f<|WL.next ?_
     refine WP.cond rfl (fun y6=>?_) (fun y6=>?_)
     ·simp at y6
     ·skip
      refine WP.skip<|PO.next<|WP.seq<|WP.reg<|WL.e e_move ?_
      refine WL.h (h_call (bRows_spec hB (by omega)) k27 ?_)
      refine WL.next<|WP.reg<|WL.e e_move ?_
      refine WL.h (h_call (bIds_spec (hB.row (by omega) ⟨a5,m5,c5⟩ s.rows hrl) (by omega)) k28 ?_)
      refine WL.nil<|PO.blockN<|PO.next<|WP.reg<|WL.e e_move<|WL.e (e_add (c:=((i+1:Nat):Int)) rfl rfl (by rw [w_i64 (by omega) (by omega)];omega))<|WL.e e_assign<|WL.nil ?_
      exact PO.againK (i+1,dp,p,mp,s,m,keepI (keepR bk ⟨a5,m5,c5⟩ s.rows) ⟨a6,m6,c6⟩ (m.txs.map (·.id))) ⟨by simp only;omega,hR,((hB.row (by omega) ⟨a5,m5,c5⟩ s.rows hrl).id (by omega) ⟨a6,m6,c6⟩ (m.txs.map (·.id)) hil).mono (by simp only;omega)⟩ (by simp only;omega)
  ·skip
   refine WP.exit<|PO.past nofun<|PO.round nofun<|PO.blockX<|PO.next<|WP.seq<|WP.reg ?_
   refine WL.h (h_call (bApart_spec hT hB (by omega)) k29 ?_)
   refine WL.e e_move ?_
   refine WL.bool 172 rfl (fun e1=>?_) (fun e1=>?_)
   ·skip
    refine WL.h (h_call (lives_spec) k5 ?_)
    refine WL.e e_pick_t<|WL.e e_assign<|WL.next<|WP.ret ?_
    exact PO.finE Tryz.results3 (rv_tmp rv_nil) rfl hK
   ·cases e1 
end Go.SL
set_option linter.unusedSectionVars false
namespace Go.SL
open Go Go.ChangeShapes Go.Deep
section
variable {H : Type} {enc : TypeId × Value → H} {P : Program} {W : World} {held : Bool}
theorem add_off (a:Addr) (n:Nat) (h:a.spot=none):a.add n=⟨a.block,a.off+n,none⟩:=by
  obtain ⟨b,o,s⟩:=a
  simp at h;subst h
  exact add_none b o n
theorem slice_rl {α:Type} {t e:TypeId} {fuel z:Nat} {cs:List Value} {x:DataW H × List MemPlace} {c:α→List Value} (ht:P.underlying t=some (.slice e)) (hz:P.cellsOf e=z) (h0:0 < z) (he:EncOk z c)
    (hel:∀ n cs' y,DataW.trod enc P W 0 (fun _=>true) held n e cs'=some y→∃ a:α,cs'=c a) (h:DataW.trod enc P W 0 (fun _=>true) held fuel t cs=some x) :
    ∃ (v:SV) (xs:List α),cs=[v.v]∧RL (Old W) z c v.v xs∧(xs=[]∨∃ el sp,x.1=.slice el sp∧el.length=xs.length):=by
  rcases open_slice ht h with ⟨hcs,_⟩ | ⟨a,len,cap,m,n,D,Pl,hcs,_,hl,hm,hmm,hxx,hi⟩
  · exact ⟨⟨none,0,0⟩,[],hcs,nil_rl,.inl rfl⟩
  simp only [if_true] at hmm
  subst hmm
  rw [hz] at hi
  have hi':∀ i:Fin m,∃ y:α,∀ j,j < z→W.cell? ((a.add (i * z)).add j)=(c y)[j]?:=fun i=>by
    obtain ⟨cs',h1,h2⟩:=hi i i.2
    obtain ⟨y,rfl⟩:=hel _ _ _ h2
    exact ⟨y,(World.cells?_some h1).2.2⟩
  by_cases hc0:m=0
  · have:len=0:=by omega
    subst this
    exact ⟨⟨some a,0,m⟩,[],hcs,nil_rl,.inl rfl⟩
  let Y:Fin m→α:=fun i=>Classical.choose (hi' i)
  have hY:∀ i:Fin m,∀ j,j < z→W.cell? ((a.add (i * z)).add j)=(c (Y i))[j]?:=fun i=>Classical.choose_spec (hi' i)
  have hsp:a.spot=none:=by
    have:=hY ⟨0,by omega⟩ 0 h0
    have hlt:0 < (c (Y ⟨0,by omega⟩)).length:=by rw [he.len];exact h0
    rw [List.getElem?_eq_getElem hlt] at this
    have h2:=World.cell?_spot this
    cases hs:a.spot with
    | none=>rfl
    | some s=>simp [Addr.add,hs] at h2
  have hcell:∀ k (hk:k < m * z),W.cell? ⟨a.block,a.off+k,none⟩=(c (Y ⟨k / z,(Nat.div_lt_iff_lt_mul h0).2 hk⟩))[k % z]?:=fun k hk=>by
    have:=hY ⟨k / z,(Nat.div_lt_iff_lt_mul h0).2 hk⟩ (k % z) (Nat.mod_lt _ h0)
    rw [add_off a _ hsp,add_none] at this
    have e:a.off+k / z * z+k % z=a.off+k:=by have:=Nat.div_add_mod k z;rw [Nat.mul_comm] at this;omega
    simp only [e] at this
    exact this
  have hmz:0 < m * z:=Nat.mul_pos (by omega) h0
  obtain ⟨arr,t',fr,hb⟩:∃ arr t' fr,W.heap[a.block]?=some (.cells arr t' fr):=by
    have:=hcell 0 hmz
    rw [List.getElem?_eq_getElem (by rw [he.len];exact Nat.mod_lt _ h0)] at this
    unfold World.cell? at this
    cases hh:W.heap[a.block]? with
    | none=>rw [hh] at this;cases this
    | some o=>rw [hh] at this;cases o <;> first | exact ⟨_,_,_,rfl⟩ | cases this
  have hval:∀ k (hk:k < m * z),arr.toList[a.off+k]?=(c (Y ⟨k / z,(Nat.div_lt_iff_lt_mul h0).2 hk⟩))[k % z]?:=fun k hk=>by
    have:=hcell k hk
    unfold World.cell? at this
    rw [hb] at this
    simpa using this
  have hlen:a.off+m * z≤arr.toList.length:=by
    have:=hval (m * z - 1) (by omega)
    have hlt:(m * z - 1) % z < (c (Y ⟨(m * z - 1) / z,(Nat.div_lt_iff_lt_mul h0).2 (by omega)⟩)).length:=by rw [he.len];exact Nat.mod_lt _ h0
    rw [List.getElem?_eq_getElem hlt] at this
    have:=idx_lt this
    omega
  refine ⟨⟨some a,len,m⟩,List.ofFn fun i:Fin len=>Y ⟨i,by omega⟩,hcs,fun S hS=>?_,.inr ⟨_,_,by rw [hxx],by simp⟩⟩
  refine .inr ⟨a.block,a.off,m,arr.toList,(t',fr),?_,by simpa using hl,?_,hlen,?_⟩
  · obtain ⟨b,o,s⟩:=a
    simp at hsp;subst hsp
    simp
  · exact hS _ _ (by simpa [heapOf] using hb)
  · apply List.ext_getElem?
    intro k
    rw [td_get,List.length_ofFn]
    by_cases hk:k < len * z
    · rw [if_pos hk]
      have hkm:k < m * z:=Nat.lt_of_lt_of_le hk (Nat.mul_le_mul_right _ hl)
      rw [hval k hkm]
      have hd:k / z < len:=(Nat.div_lt_iff_lt_mul h0).2 hk
      have hx:(List.ofFn fun i:Fin len=>Y ⟨i,by omega⟩)[k / z]?=some (Y ⟨k / z,by omega⟩):=by simp [hd]
      have:=flat_at he hx (k % z) (Nat.mod_lt _ h0)
      rw [show k / z * z+k % z=k by have:=Nat.div_add_mod k z;rw [Nat.mul_comm] at this;omega] at this
      exact this
    · rw [if_neg hk]
      apply List.getElem?_eq_none
      rw [flat_len he,List.length_ofFn];omega
theorem below_of_spec1 {P:Program} {w:World} {f:FuncId} {args:List Value} (h:Spec P w f args [Old w] fun K R=>K (.bool true) (Old w::R)):Calls P f args.toArray w fun e w'=>e=.returned (.bool true)∧Go.RowKit.Below w.heap.size w w':=by
  refine (h [] (fun v M=>v=.bool true∧M=[Old w]) w (sat_old w) ⟨rfl,rfl⟩).mono ?_
  rintro e w' ⟨v,M,rfl,⟨rfl,rfl⟩,hs⟩
  exact ⟨rfl,old_below hs⟩
end
end Go.SL
