import Derived.Test.YtmeoolijekillaaGreatDoorQL12
set_option linter.unusedSimpArgs false
set_option linter.unusedVariables false
namespace Go.SL.Fc
open Go Go.Proofs Go.SL
theorem k243:callable Tryz.prog 243=true:=by kernel_rfl
theorem k288:callable Tryz.prog 288=true:=by kernel_rfl
theorem k289:callable Tryz.prog 289=true:=by kernel_rfl
theorem k290:callable Tryz.prog 290=true:=by kernel_rfl
theorem k325:callable Tryz.prog 325=true:=by kernel_rfl
theorem k82:callable Tryz.prog 82=true:=by kernel_rfl
theorem sl33:slOf Tryz.prog 33=some (35,1,4):=by kernel_rfl
theorem z3:zeroOf Tryz.prog 3=some [.int .i64 0]:=by kernel_rfl
end Go.SL.Fc
namespace Go.SL
open Go Go.Proofs Fc
open Go.Sort
theorem isNaN32_spec {g:World} (x:UInt32):Spec Tryz.prog g 82 [.int .u32 x.toNat] [] fun K R=>K (.bool false) R:=by
 refine Spec.intro Tryz.func82 rfl Tryz.ntmps82 rfl fun R K hK=>?_
 refine WP.seq<|WP.reg<|WL.e e_assign<|WL.next<|WP.seq<|WP.reg<|WL.e e_move<|WL.e e_move<|WL.e (e_neq32)<|WL.e e_assign<|WL.next<|WP.ret ?_
 exact PO.finE Tryz.results82 (rv_tmp rv_nil) (by simp) hK
theorem Less32_spec {g:World} (x y:UInt32):Spec Tryz.prog g 243 [.int .u32 x.toNat,.int .u32 y.toNat] [] fun K R=>K (.bool (lt32 x y)) R:=by
 refine Spec.intro Tryz.func243 rfl Tryz.ntmps243 rfl fun R K hK=>?_
 refine WP.seq<|WP.reg<|WL.e e_assign<|WL.next<|WP.seq<|WP.reg<|WL.e e_move ?_
 refine WL.h (h_call (isNaN32_spec _) k82 ?_)
 refine WL.e e_move ?_
 refine WL.bool 7 rfl (fun h=>?_) (fun h=>?_)
 ·cases h 
 ·skip
  refine WL.skip<|WL.skip<|WL.skip<|WL.e e_pick_f<|WL.e e_move<|WL.e e_move<|WL.e e_move<|WL.e (e_lss32)<|WL.e e_pick_f<|WL.e e_assign<|WL.next<|WP.ret ?_
  exact PO.fin Tryz.results243 (rv_tmp rv_nil) hK
theorem Ins32_spec {g:World} {u:Value} (d:Array UInt32) (a b:Nat) (hb:b≤d.size) (ha:a≤d.size) (hn:d.size≤68719476736):Spec Tryz.prog g 237 [u,.int .i64 a,.int .i64 b] [Sl 35 1 u32C u (d).toList] fun K R=>K (.tuple #[]) (Sl 35 1 u32C u (insertionSort lt32 d a b).toList::R):=by
 refine Spec.intro Tryz.func237 rfl Tryz.ntmps237 rfl fun R K hK=>?_
 refine WP.seq<|WP.reg<|WL.e e_move<|WL.e (e_addN (b:=1))<|WL.e e_assign<|WL.next<|WP.block<|WP.loopK (fun (x:Nat × Array UInt32)=>[(6,.int .i64 x.1)]) (fun (x:Nat × Array UInt32)=>Sl 35 1 u32C u (x.2).toList::R) [(0,_),(1,_),(2,_)] (fun (x:Nat × Array UInt32)=>x.2.size=d.size∧a < x.1∧(x.1≤a+1∨x.1≤b)∧insOuter lt32 a b x.1 x.2=insertionSort lt32 d a b) (fun (x:Nat × Array UInt32)=>b - x.1) (a+1,d) (⟨rfl,by simp only;omega,by simp only;omega,rfl⟩) ?_
 rintro ⟨i,d1⟩ ⟨hs,hi1,hi2,he⟩
 simp only at hs hi1 hi2 he
 dsimp only
 refine WP.seq<|WP.seq<|WP.reg<|WL.e e_move<|WL.e e_move<|WL.e e_lss<|WL.next ?_
 refine WP.cond rfl (fun h1=>?_) (fun h1=>?_)
 ·replace h1:i < b:=by rw [decide_eq_true_eq] at h1;omega
  refine WP.skip<|PO.next<|WP.seq<|WP.block<|WP.seq<|WP.reg<|WL.e e_move<|WL.e e_assign<|WL.next<|WP.block<|WP.loopK (fun (x:Nat × Array UInt32)=>[(7,.int .i64 x.1)]) (fun (x:Nat × Array UInt32)=>Sl 35 1 u32C u (x.2).toList::R) [(0,_),(1,_),(2,_),(6,_),(10,_),(11,_),(12,_),(15,_)] (fun (x:Nat × Array UInt32)=>x.2.size=d.size∧a≤x.1∧x.1≤i∧insInner lt32 a x.1 x.2=insInner lt32 a i d1) (fun (x:Nat × Array UInt32)=>x.1) (i,d1) (⟨hs,by simp only;omega,Nat.le_refl _,rfl⟩) ?_
  rintro ⟨j,d2⟩ ⟨hs2,hj1,hj2,he2⟩
  simp only at hs2 hj1 hj2 he2
  dsimp only
  refine WP.seq<|WP.seq<|WP.draws mixedOk 15<|RW.e 0 rfl e_move<|RW.e 1 rfl e_move<|RW.e 2 rfl e_gtr<|RW.e 3 rfl e_move ?_
  refine RW.bool 19 rfl (fun g=>?_) (fun g=>?_)
  ·have hgj:a < j:=by rw [decide_eq_true_eq] at g;omega
   refine RW.e 4 rfl e_move<|RW.e 5 rfl e_move<|RW.e 6 rfl (ea_ia sl33)<|RW.e 7 rfl (ea_load a35)<|RW.e 8 rfl e_move<|RW.e 9 rfl e_move<|RW.e 10 rfl (e_subN (b:=1))<|RW.e 11 rfl (ea_ia sl33)<|RW.e 12 rfl (ea_load a35) ?_
   refine RW.any (is:=[13]) rfl ⟨?_,trivial⟩
   refine RWat.h rfl rfl rfl ?_
   refine (h_call (Less32_spec _ _) k243 ?_)
   refine ⟨trivial,?_⟩
   refine RW.e 14 rfl e_pick_t<|RW.done<|PO.next ?_
   refine WP.cond rfl (fun h3=>?_) (fun h3=>?_)
   ·skip
    refine WP.skip<|PO.next<|WP.seq<|WP.block<|WP.draws mixedOk 18<|RW.e 0 rfl e_move<|RW.e 1 rfl e_move<|RW.e 2 rfl e_move<|RW.e 3 rfl e_move<|RW.e 4 rfl (e_subN (b:=1))<|RW.e 5 rfl e_move<|RW.e 6 rfl e_move<|RW.e 7 rfl (e_subN (b:=1))<|RW.e 8 rfl (ea_ia sl33)<|RW.e 9 rfl (ea_load a35)<|RW.e 10 rfl e_move<|RW.e 11 rfl e_move<|RW.e 12 rfl (ea_ia sl33)<|RW.e 13 rfl (ea_load a35)<|RW.e 14 rfl (ea_ia sl33) ?_
    refine RW.any (is:=[15]) rfl ⟨?_,trivial⟩
    refine RWat.h' rfl rfl rfl ?_
    refine (ha_store s35 ?_)
    refine ⟨⟨⟨_,rfl,.inl ⟨rfl,(e_subN (b:=1))⟩⟩,⟨_,rfl,.inl ⟨rfl,e_move⟩⟩,⟨_,rfl,.inl ⟨rfl,e_move⟩⟩,trivial⟩,?_⟩
    refine RW.e 16 rfl (ea_ia sl33) ?_
    refine RW.any (is:=[17]) rfl ⟨?_,trivial⟩
    refine RWat.h' rfl rfl rfl ?_
    refine (ha_store s35 ?_)
    refine ⟨trivial,?_⟩
    refine RW.done<|PO.blockN<|PO.next<|WP.reg<|WL.e e_move<|WL.e (e_subN (b:=1))<|WL.e e_assign<|WL.nil ?_
    exact PO.againK (j - 1,swp d2 j (j - 1)) ⟨by simp only [swp_size];omega,by simp only;omega,by simp only;omega,by simp only;rw [← he2,ins_step hgj h3]⟩ (by simp only;omega)
   ·skip
    refine WP.exit<|PO.past nofun<|PO.round nofun<|PO.blockX<|PO.blockN<|PO.next<|WP.reg<|WL.e e_move<|WL.e (e_addN (b:=1))<|WL.e e_assign<|WL.nil ?_
    exact PO.againK (i+1,d2) ⟨by simp only;omega,by simp only;omega,by simp only;omega,by simp only;rw [← he,insO_step h1,← he2,ins_stop (fun _=>h3)]⟩ (by simp only;omega)
  ·have hgj:¬ a < j:=by rw [decide_eq_false_iff_not] at g;omega
   refine RW.skip 4 rfl<|RW.skip 5 rfl<|RW.skip 6 rfl<|RW.skip 7 rfl<|RW.skip 8 rfl<|RW.skip 9 rfl<|RW.skip 10 rfl<|RW.skip 11 rfl<|RW.skip 12 rfl<|RW.skip 13 rfl<|RW.e 14 rfl e_pick_f<|RW.done<|PO.next<|WP.cond_f rfl<|WP.exit<|PO.past nofun<|PO.round nofun<|PO.blockX<|PO.blockN<|PO.next<|WP.reg<|WL.e e_move<|WL.e (e_addN (b:=1))<|WL.e e_assign ?_
   refine WL.nil ?_
   exact PO.againK (i+1,d2) ⟨by simp only;omega,by simp only;omega,by simp only;omega,by simp only;rw [← he,insO_step h1,← he2,ins_stop (fun hh=>absurd hh (by omega))]⟩ (by simp only;omega)
 ·replace h1:¬ i < b:=by rw [decide_eq_false_iff_not] at h1;omega
  refine WP.exit<|PO.past nofun<|PO.round nofun<|PO.blockX ?_
  rw [insO_stop h1] at he
  rw [← he] at hK
  exact PO.fin Tryz.results237 rv_nil hK
set_option maxHeartbeats 1000000 in
theorem Sift32_spec {g:World} {u:Value} (d:Array UInt32) (root hi fs:Nat) (hb:fs+hi≤d.size) (hr:root≤d.size) (hn:d.size≤68719476736):Spec Tryz.prog g 288 [u,.int .i64 root,.int .i64 hi,.int .i64 fs] [Sl 35 1 u32C u (d).toList] fun K R=>K (.tuple #[]) (Sl 35 1 u32C u (siftDown lt32 hi fs root d).toList::R):=by
 refine Spec.intro Tryz.func288 rfl Tryz.ntmps288 rfl fun R K hK=>?_
 refine WP.seq<|WP.reg<|WL.e e_move<|WL.e e_assign<|WL.next<|WP.block<|WP.loopK (fun (x:Nat × Array UInt32)=>[(8,.int .i64 x.1)]) (fun (x:Nat × Array UInt32)=>Sl 35 1 u32C u (x.2).toList::R) [(0,_),(2,_),(3,_)] (fun (x:Nat × Array UInt32)=>x.2.size=d.size∧x.1≤d.size∧siftDown lt32 hi fs x.1 x.2=siftDown lt32 hi fs root d) (fun (x:Nat × Array UInt32)=>hi - x.1) (root,d) (⟨rfl,hr,rfl⟩) ?_
 rintro ⟨rt,d1⟩ ⟨hs,hr1,he⟩
 simp only at hs hr1 he
 dsimp only
 refine WP.block<|WP.seq<|WP.reg<|WL.e e_move<|WL.e (e_mulN (a:=2))<|WL.e (e_addN (b:=1))<|WL.e e_assign<|WL.next<|WP.seq<|WP.seq<|WP.reg<|WL.e e_move<|WL.e e_move<|WL.e e_geq<|WL.next ?_
 refine WP.cond rfl (fun h1=>?_) (fun h1=>?_)
 ·replace h1:2 * rt+1≥hi:=by rw [decide_eq_true_eq] at h1;omega
  refine WP.exit<|PO.past nofun<|PO.blockY rfl<|PO.round nofun<|PO.blockX ?_
  rw [sd_stop h1] at he
  rw [← he] at hK
  exact PO.fin Tryz.results288 rv_nil hK
 ·replace h1:¬ (2 * rt+1≥hi):=by rw [decide_eq_false_iff_not] at h1;omega
  refine WP.skip<|PO.next<|WP.seq<|WP.seq<|WP.draws mixedOk 20<|RW.e 0 rfl e_move<|RW.e 1 rfl (e_addN (b:=1))<|RW.e 2 rfl e_move<|RW.e 3 rfl e_lss<|RW.e 4 rfl e_move ?_
  refine RW.bool 21 rfl (fun g=>?_) (fun g=>?_)
  ·replace g:2 * rt+1+1 < hi:=by rw [decide_eq_true_eq] at g;omega
   refine RW.e 5 rfl e_move<|RW.e 6 rfl e_move<|RW.e 7 rfl e_move<|RW.e 8 rfl (e_addN)<|RW.e 9 rfl (ea_ia sl33)<|RW.e 10 rfl (ea_load a35)<|RW.e 11 rfl e_move<|RW.e 12 rfl e_move<|RW.e 13 rfl e_move<|RW.e 14 rfl (e_addN)<|RW.e 15 rfl (e_addN (b:=1))<|RW.e 16 rfl (ea_ia sl33)<|RW.e 17 rfl (ea_load a35) ?_
   refine RW.any (is:=[18]) rfl ⟨?_,trivial⟩
   refine RWat.h rfl rfl rfl ?_
   refine (h_call (Less32_spec _ _) k243 ?_)
   refine ⟨trivial,?_⟩
   refine RW.e 19 rfl e_pick_t<|RW.done<|PO.next ?_
   refine WP.cond rfl (fun h3=>?_) (fun h3=>?_)
   ·have hst:=sd_r h1 g h3
    refine WP.reg<|WL.e e_move<|WL.e (e_addN (b:=1))<|WL.e e_assign<|WL.next<|WP.seq<|WP.seq<|WP.draws mixedOk 14<|RW.e 0 rfl e_move<|RW.e 1 rfl e_move<|RW.e 2 rfl e_move<|RW.e 3 rfl (e_addN)<|RW.e 4 rfl (ea_ia sl33)<|RW.e 5 rfl (ea_load a35)<|RW.e 6 rfl e_move<|RW.e 7 rfl e_move<|RW.e 8 rfl e_move<|RW.e 9 rfl (e_addN)<|RW.e 10 rfl (ea_ia sl33)<|RW.e 11 rfl (ea_load a35) ?_
    refine RW.any (is:=[12]) rfl ⟨?_,trivial⟩
    refine RWat.h rfl rfl rfl ?_
    refine (h_call (Less32_spec _ _) k243 ?_)
    refine ⟨trivial,?_⟩
    refine RW.e 13 rfl e_not<|RW.done<|PO.next ?_
    refine WP.cond rfl (fun h4=>?_) (fun h4=>?_)
    ·replace h4:=nt h4
     refine WP.ret<|PO.past nofun<|PO.blockR<|PO.round nofun<|PO.blockR ?_
     rw [show siftDown lt32 hi fs root d=d1 by rw [← he,hst,if_neg (by rw [h4];simp)]] at hK
     exact PO.fin Tryz.results288 rv_nil hK
    ·replace h4:=nf h4
     refine WP.skip<|PO.next<|WP.seq<|WP.draws mixedOk 24<|RW.e 0 rfl e_move<|RW.e 1 rfl e_move<|RW.e 2 rfl e_move<|RW.e 3 rfl (e_addN)<|RW.e 4 rfl e_move<|RW.e 5 rfl e_move<|RW.e 6 rfl e_move<|RW.e 7 rfl (e_addN)<|RW.e 8 rfl e_move<|RW.e 9 rfl e_move<|RW.e 10 rfl e_move<|RW.e 11 rfl (e_addN)<|RW.e 12 rfl (ea_ia sl33)<|RW.e 13 rfl (ea_load a35)<|RW.e 14 rfl e_move<|RW.e 15 rfl e_move<|RW.e 16 rfl e_move<|RW.e 17 rfl (e_addN)<|RW.e 18 rfl (ea_ia sl33)<|RW.e 19 rfl (ea_load a35) ?_
     refine RW.e 20 rfl (ea_ia sl33) ?_
     refine RW.any (is:=[21]) rfl ⟨?_,trivial⟩
     refine RWat.h' rfl rfl rfl ?_
     refine (ha_store s35 ?_)
     refine ⟨⟨⟨_,rfl,.inl ⟨rfl,(e_addN)⟩⟩,⟨_,rfl,.inl ⟨rfl,e_move⟩⟩,⟨_,rfl,.inl ⟨rfl,e_move⟩⟩,⟨_,rfl,.inl ⟨rfl,e_move⟩⟩,trivial⟩,?_⟩
     refine RW.e 22 rfl (ea_ia sl33) ?_
     refine RW.any (is:=[23]) rfl ⟨?_,trivial⟩
     refine RWat.h' rfl rfl rfl ?_
     refine (ha_store s35 ?_)
     refine ⟨trivial,?_⟩
     refine RW.done<|PO.next<|WP.reg<|WL.e e_move<|WL.e e_assign<|WL.nil<|PO.blockN ?_
     exact PO.againK ((2 * rt+1+1),swp d1 (fs+rt) (fs+(2 * rt+1+1))) ⟨by simp only [swp_size];omega,by simp only;omega,by simp only;rw [← he,hst,if_pos h4]⟩ (by simp only;omega)
   ·have hst:=sd_l h1 (fun _=>h3)
    refine WP.skip<|PO.next<|WP.seq<|WP.seq<|WP.draws mixedOk 14<|RW.e 0 rfl e_move<|RW.e 1 rfl e_move<|RW.e 2 rfl e_move<|RW.e 3 rfl (e_addN)<|RW.e 4 rfl (ea_ia sl33)<|RW.e 5 rfl (ea_load a35)<|RW.e 6 rfl e_move<|RW.e 7 rfl e_move<|RW.e 8 rfl e_move<|RW.e 9 rfl (e_addN)<|RW.e 10 rfl (ea_ia sl33)<|RW.e 11 rfl (ea_load a35) ?_
    refine RW.any (is:=[12]) rfl ⟨?_,trivial⟩
    refine RWat.h rfl rfl rfl ?_
    refine (h_call (Less32_spec _ _) k243 ?_)
    refine ⟨trivial,?_⟩
    refine RW.e 13 rfl e_not<|RW.done<|PO.next ?_
    refine WP.cond rfl (fun h4=>?_) (fun h4=>?_)
    ·replace h4:=nt h4
     refine WP.ret<|PO.past nofun<|PO.blockR<|PO.round nofun<|PO.blockR ?_
     rw [show siftDown lt32 hi fs root d=d1 by rw [← he,hst,if_neg (by rw [h4];simp)]] at hK
     exact PO.fin Tryz.results288 rv_nil hK
    ·replace h4:=nf h4
     refine WP.skip<|PO.next<|WP.seq<|WP.draws mixedOk 24<|RW.e 0 rfl e_move<|RW.e 1 rfl e_move<|RW.e 2 rfl e_move<|RW.e 3 rfl (e_addN)<|RW.e 4 rfl e_move<|RW.e 5 rfl e_move<|RW.e 6 rfl e_move<|RW.e 7 rfl (e_addN)<|RW.e 8 rfl e_move<|RW.e 9 rfl e_move<|RW.e 10 rfl e_move<|RW.e 11 rfl (e_addN)<|RW.e 12 rfl (ea_ia sl33)<|RW.e 13 rfl (ea_load a35)<|RW.e 14 rfl e_move<|RW.e 15 rfl e_move<|RW.e 16 rfl e_move<|RW.e 17 rfl (e_addN)<|RW.e 18 rfl (ea_ia sl33)<|RW.e 19 rfl (ea_load a35) ?_
     refine RW.e 20 rfl (ea_ia sl33) ?_
     refine RW.any (is:=[21]) rfl ⟨?_,trivial⟩
     refine RWat.h' rfl rfl rfl ?_
     refine (ha_store s35 ?_)
     refine ⟨⟨⟨_,rfl,.inl ⟨rfl,(e_addN)⟩⟩,⟨_,rfl,.inl ⟨rfl,e_move⟩⟩,⟨_,rfl,.inl ⟨rfl,e_move⟩⟩,⟨_,rfl,.inl ⟨rfl,e_move⟩⟩,trivial⟩,?_⟩
     refine RW.e 22 rfl (ea_ia sl33) ?_
     refine RW.any (is:=[23]) rfl ⟨?_,trivial⟩
     refine RWat.h' rfl rfl rfl ?_
     refine (ha_store s35 ?_)
     refine ⟨trivial,?_⟩
     refine RW.done<|PO.next<|WP.reg<|WL.e e_move<|WL.e e_assign<|WL.nil<|PO.blockN ?_
     exact PO.againK ((2 * rt+1),swp d1 (fs+rt) (fs+(2 * rt+1))) ⟨by simp only [swp_size];omega,by simp only;omega,by simp only;rw [← he,hst,if_pos h4]⟩ (by simp only;omega)
  ·replace g:¬ (2 * rt+1+1 < hi):=by rw [decide_eq_false_iff_not] at g;omega
   refine RW.skip 5 rfl<|RW.skip 6 rfl<|RW.skip 7 rfl<|RW.skip 8 rfl<|RW.skip 9 rfl<|RW.skip 10 rfl<|RW.skip 11 rfl<|RW.skip 12 rfl<|RW.skip 13 rfl<|RW.skip 14 rfl<|RW.skip 15 rfl<|RW.skip 16 rfl<|RW.skip 17 rfl<|RW.skip 18 rfl<|RW.e 19 rfl e_pick_f<|RW.done<|PO.next<|WP.cond_f rfl<|WP.skip<|PO.next<|WP.seq<|WP.seq<|WP.draws mixedOk 14<|RW.e 0 rfl e_move ?_
   refine RW.e 1 rfl e_move<|RW.e 2 rfl e_move<|RW.e 3 rfl (e_addN)<|RW.e 4 rfl (ea_ia sl33)<|RW.e 5 rfl (ea_load a35)<|RW.e 6 rfl e_move<|RW.e 7 rfl e_move<|RW.e 8 rfl e_move<|RW.e 9 rfl (e_addN)<|RW.e 10 rfl (ea_ia sl33)<|RW.e 11 rfl (ea_load a35) ?_
   refine RW.any (is:=[12]) rfl ⟨?_,trivial⟩
   refine RWat.h rfl rfl rfl ?_
   refine (h_call (Less32_spec _ _) k243 ?_)
   refine ⟨trivial,?_⟩
   refine RW.e 13 rfl e_not<|RW.done<|PO.next ?_
   refine WP.cond rfl (fun h4=>?_) (fun h4=>?_)
   ·have hst:=sd_l (d:=d1) (first:=fs) h1 (fun h=>absurd h g)
    replace h4:=nt h4
    refine WP.ret<|PO.past nofun<|PO.blockR<|PO.round nofun<|PO.blockR ?_
    rw [show siftDown lt32 hi fs root d=d1 by rw [← he,hst,if_neg (by rw [h4];simp)]] at hK
    exact PO.fin Tryz.results288 rv_nil hK
   ·have hst:=sd_l (d:=d1) (first:=fs) h1 (fun h=>absurd h g)
    replace h4:=nf h4
    refine WP.skip<|PO.next<|WP.seq<|WP.draws mixedOk 24<|RW.e 0 rfl e_move<|RW.e 1 rfl e_move<|RW.e 2 rfl e_move<|RW.e 3 rfl (e_addN)<|RW.e 4 rfl e_move<|RW.e 5 rfl e_move<|RW.e 6 rfl e_move<|RW.e 7 rfl (e_addN)<|RW.e 8 rfl e_move<|RW.e 9 rfl e_move<|RW.e 10 rfl e_move<|RW.e 11 rfl (e_addN)<|RW.e 12 rfl (ea_ia sl33)<|RW.e 13 rfl (ea_load a35)<|RW.e 14 rfl e_move<|RW.e 15 rfl e_move<|RW.e 16 rfl e_move<|RW.e 17 rfl (e_addN)<|RW.e 18 rfl (ea_ia sl33)<|RW.e 19 rfl (ea_load a35) ?_
    refine RW.e 20 rfl (ea_ia sl33) ?_
    refine RW.any (is:=[21]) rfl ⟨?_,trivial⟩
    refine RWat.h' rfl rfl rfl ?_
    refine (ha_store s35 ?_)
    refine ⟨⟨⟨_,rfl,.inl ⟨rfl,(e_addN)⟩⟩,⟨_,rfl,.inl ⟨rfl,e_move⟩⟩,⟨_,rfl,.inl ⟨rfl,e_move⟩⟩,⟨_,rfl,.inl ⟨rfl,e_move⟩⟩,trivial⟩,?_⟩
    refine RW.e 22 rfl (ea_ia sl33) ?_
    refine RW.any (is:=[23]) rfl ⟨?_,trivial⟩
    refine RWat.h' rfl rfl rfl ?_
    refine (ha_store s35 ?_)
    refine ⟨trivial,?_⟩
    refine RW.done<|PO.next<|WP.reg<|WL.e e_move<|WL.e e_assign<|WL.nil<|PO.blockN ?_
    exact PO.againK ((2 * rt+1),swp d1 (fs+rt) (fs+(2 * rt+1))) ⟨by simp only [swp_size];omega,by simp only;omega,by simp only;rw [← he,hst,if_pos h4]⟩ (by simp only;omega)
set_option maxHeartbeats 1000000 in
theorem Heap32_spec {g:World} {u:Value} (d:Array UInt32) (a b:Nat) (hab:a < b) (hb:b≤d.size) (hn:d.size≤68719476736):Spec Tryz.prog g 238 [u,.int .i64 a,.int .i64 b] [Sl 35 1 u32C u (d).toList] fun K R=>K (.tuple #[]) (Sl 35 1 u32C u (heapSort lt32 d a b).toList::R):=by
 refine Spec.intro Tryz.func238 rfl Tryz.ntmps238 rfl fun R K hK=>?_
 refine WP.seq<|WP.reg<|WL.e e_move<|WL.e e_assign<|WL.next<|WP.seq<|WP.reg<|WL.e e_assign<|WL.next<|WP.seq<|WP.reg<|WL.e e_move<|WL.e e_move<|WL.e (e_subN)<|WL.e e_assign<|WL.next<|WP.seq<|WP.seq<|WP.reg<|WL.e e_move<|WL.e (e_subN (b:=1))<|WL.e (e_quo (c:=(((b - a - 1) / 2+1:Nat):Int) - 1) rfl rfl (by decide) (by rw [Int.tdiv_eq_ediv_of_nonneg (by omega),w_i64 (by omega) (by omega)];omega))<|WL.e e_assign<|WL.next ?_
 refine WP.block<|WP.loopK (fun (x:Nat × Array UInt32)=>[(9,.int .i64 ((x.1:Int) - 1))]) (fun (x:Nat × Array UInt32)=>Sl 35 1 u32C u (x.2).toList::R) [(0,_),(6,_),(7,_),(8,_)] (fun (x:Nat × Array UInt32)=>x.2.size=d.size∧x.1≤(b - a - 1) / 2+1∧heapBuild lt32 (b - a) a x.1 x.2=heapBuild lt32 (b - a) a ((b - a - 1) / 2+1) d) (fun (x:Nat × Array UInt32)=>x.1) ((b - a - 1) / 2+1,d) (⟨rfl,Nat.le_refl _,rfl⟩) ?_
 rintro ⟨k,d1⟩ ⟨hs,hk,he⟩
 simp only at hs hk he
 dsimp only
 refine WP.seq<|WP.seq<|WP.reg<|WL.e e_move<|WL.e e_geq<|WL.next ?_
 refine WP.cond rfl (fun h1=>?_) (fun h1=>?_)
 ·replace h1:0 < k:=by rw [decide_eq_true_eq] at h1;omega
  rw [show ((k:Int) - 1)=((k - 1:Nat):Int) by omega]
  refine WP.skip<|PO.next<|WP.seq<|WP.block<|WP.reg<|WL.e e_move<|WL.e e_move<|WL.e e_move<|WL.e e_move ?_
  refine WL.h (h_call (Sift32_spec d1 (k - 1) (b - a) a (by omega) (by omega) (by omega)) k288 ?_)
  refine WL.nil<|PO.blockN<|PO.next<|WP.reg<|WL.e e_move<|WL.e (e_sub (c:=((k - 1:Nat):Int) - 1) rfl rfl (w_i64 (by omega) (by omega)))<|WL.e e_assign<|WL.nil ?_
  exact PO.againK (k - 1,siftDown lt32 (b - a) a (k - 1) d1) ⟨by simp only [sdn_size];omega,by simp only;omega,by simp only;rw [← he];obtain ⟨m,rfl⟩:∃ m,k=m+1:=⟨k - 1,by omega⟩;rw [Nat.add_sub_cancel,heapBuild]⟩ (by simp only;omega)
 ·replace h1:k=0:=by rw [decide_eq_false_iff_not] at h1;omega
  subst h1
  obtain ⟨d0,hd0⟩:∃ d0,d0=heapBuild lt32 (b - a) a ((b - a - 1) / 2+1) d:=⟨_,rfl⟩
  rw [← hd0,heapBuild] at he
  subst he
  refine WP.exit<|PO.past nofun<|PO.round nofun<|PO.blockX<|PO.next<|WP.seq<|WP.reg<|WL.e e_move<|WL.e (e_sub (c:=((b - a:Nat):Int) - 1) rfl rfl (w_i64 (by omega) (by omega)))<|WL.e e_assign<|WL.next<|WP.block<|WP.loopK (fun (x:Nat × Array UInt32)=>[(10,.int .i64 ((x.1:Int) - 1))]) (fun (x:Nat × Array UInt32)=>Sl 35 1 u32C u (x.2).toList::R) [(0,_),(6,_),(7,_)] (fun (x:Nat × Array UInt32)=>x.2.size=d.size∧x.1≤b - a∧heapPop lt32 a x.1 x.2=heapPop lt32 a (b - a) d1) (fun (x:Nat × Array UInt32)=>x.1) (b - a,d1) (⟨hs,Nat.le_refl _,rfl⟩) ?_
  rintro ⟨k,d2⟩ ⟨hs2,hk2,he2⟩
  simp only at hs2 hk2 he2
  dsimp only
  refine WP.seq<|WP.seq<|WP.reg<|WL.e e_move<|WL.e e_geq<|WL.next ?_
  refine WP.cond rfl (fun h2=>?_) (fun h2=>?_)
  ·replace h2:0 < k:=by rw [decide_eq_true_eq] at h2;omega
   rw [show ((k:Int) - 1)=((k - 1:Nat):Int) by omega]
   refine WP.skip<|PO.next<|WP.seq<|WP.block<|WP.seq<|WP.draws mixedOk 20<|RW.e 0 rfl e_move<|RW.e 1 rfl e_move<|RW.e 2 rfl e_move<|RW.e 3 rfl e_move<|RW.e 4 rfl e_move<|RW.e 5 rfl (e_addN)<|RW.e 6 rfl e_move<|RW.e 7 rfl e_move<|RW.e 8 rfl e_move<|RW.e 9 rfl (e_addN)<|RW.e 10 rfl (ea_ia sl33)<|RW.e 11 rfl (ea_load a35)<|RW.e 12 rfl e_move<|RW.e 13 rfl e_move<|RW.e 14 rfl (ea_ia sl33)<|RW.e 15 rfl (ea_load a35)<|RW.e 16 rfl (ea_ia sl33) ?_
   refine RW.any (is:=[17]) rfl ⟨?_,trivial⟩
   refine RWat.h' rfl rfl rfl ?_
   refine (ha_store s35 ?_)
   refine ⟨⟨⟨_,rfl,.inl ⟨rfl,(e_addN)⟩⟩,⟨_,rfl,.inl ⟨rfl,e_move⟩⟩,⟨_,rfl,.inl ⟨rfl,e_move⟩⟩,⟨_,rfl,.inl ⟨rfl,e_move⟩⟩,trivial⟩,?_⟩
   refine RW.e 18 rfl (ea_ia sl33) ?_
   refine RW.any (is:=[19]) rfl ⟨?_,trivial⟩
   refine RWat.h' rfl rfl rfl ?_
   refine (ha_store s35 ?_)
   refine ⟨trivial,?_⟩
   refine RW.done<|PO.next<|WP.reg<|WL.e e_move<|WL.e e_move<|WL.e e_move<|WL.e e_move ?_
   refine WL.h (h_call (Sift32_spec (swp d2 a (a+(k - 1))) 0 (k - 1) a (by rw [swp_size];omega) (Nat.zero_le _) (by rw [swp_size];omega)) k288 ?_)
   refine WL.nil<|PO.blockN<|PO.next<|WP.reg<|WL.e e_move<|WL.e (e_sub (c:=((k - 1:Nat):Int) - 1) rfl rfl (w_i64 (by omega) (by omega)))<|WL.e e_assign<|WL.nil ?_
   exact PO.againK (k - 1,siftDown lt32 (k - 1) a 0 (swp d2 a (a+(k - 1)))) ⟨by simp only [sdn_size,swp_size];omega,by simp only;omega,by simp only;rw [← he2];obtain ⟨m,rfl⟩:∃ m,k=m+1:=⟨k - 1,by omega⟩;rw [Nat.add_sub_cancel,heapPop]⟩ (by simp only;omega)
  ·replace h2:k=0:=by rw [decide_eq_false_iff_not] at h2;omega
   subst h2
   rw [heapPop] at he2
   refine WP.exit<|PO.past nofun<|PO.round nofun<|PO.blockX ?_
   rw [show heapSort lt32 d a b=d2 by rw [he2,hd0];rfl] at hK
   exact PO.fin Tryz.results238 rv_nil hK
theorem Rev32_spec {g:World} {u:Value} (d:Array UInt32) (a b:Nat) (hab:a < b) (hb:b≤d.size) (hn:d.size≤68719476736):Spec Tryz.prog g 241 [u,.int .i64 a,.int .i64 b] [Sl 35 1 u32C u (d).toList] fun K R=>K (.tuple #[]) (Sl 35 1 u32C u (reverseRange d a b).toList::R):=by
 refine Spec.intro Tryz.func241 rfl Tryz.ntmps241 rfl fun R K hK=>?_
 refine WP.seq<|WP.reg<|WL.e e_move<|WL.e e_assign<|WL.next<|WP.seq<|WP.reg<|WL.e e_move<|WL.e (e_subN (b:=1))<|WL.e e_assign<|WL.next<|WP.block<|WP.loopK (fun (x:Nat × Nat × Array UInt32)=>[(6,.int .i64 x.1),(7,.int .i64 x.2.1)]) (fun (x:Nat × Nat × Array UInt32)=>Sl 35 1 u32C u (x.2.2).toList::R) [(0,_)] (fun (x:Nat × Nat × Array UInt32)=>x.2.2.size=d.size∧x.1≤b∧x.2.1 < b∧reverseLoop x.1 x.2.1 x.2.2=reverseLoop a (b - 1) d) (fun (x:Nat × Nat × Array UInt32)=>x.2.1+1 - x.1) (a,b - 1,d) (⟨rfl,by simp only;omega,by simp only;omega,rfl⟩) ?_
 rintro ⟨i,j,d1⟩ ⟨hs,hi,hj,he⟩
 simp only at hs hi hj he
 dsimp only
 refine WP.seq<|WP.seq<|WP.reg<|WL.e e_move<|WL.e e_move<|WL.e e_lss<|WL.next ?_
 refine WP.cond rfl (fun h1=>?_) (fun h1=>?_)
 ·replace h1:i < j:=by rw [decide_eq_true_eq] at h1;omega
  refine WP.skip<|PO.next<|WP.block<|WP.seq<|WP.draws mixedOk 16<|RW.e 0 rfl e_move<|RW.e 1 rfl e_move<|RW.e 2 rfl e_move<|RW.e 3 rfl e_move<|RW.e 4 rfl e_move<|RW.e 5 rfl e_move<|RW.e 6 rfl (ea_ia sl33)<|RW.e 7 rfl (ea_load a35)<|RW.e 8 rfl e_move<|RW.e 9 rfl e_move<|RW.e 10 rfl (ea_ia sl33)<|RW.e 11 rfl (ea_load a35)<|RW.e 12 rfl (ea_ia sl33) ?_
  refine RW.any (is:=[13]) rfl ⟨?_,trivial⟩
  refine RWat.h' rfl rfl rfl ?_
  refine (ha_store s35 ?_)
  refine ⟨⟨⟨_,rfl,.inl ⟨rfl,e_move⟩⟩,⟨_,rfl,.inl ⟨rfl,e_move⟩⟩,trivial⟩,?_⟩
  refine RW.e 14 rfl (ea_ia sl33) ?_
  refine RW.any (is:=[15]) rfl ⟨?_,trivial⟩
  refine RWat.h' rfl rfl rfl ?_
  refine (ha_store s35 ?_)
  refine ⟨trivial,?_⟩
  refine RW.done<|PO.next<|WP.seq<|WP.reg<|WL.e e_move<|WL.e (e_addN (b:=1))<|WL.e e_assign<|WL.next<|WP.reg<|WL.e e_move<|WL.e (e_subN (b:=1))<|WL.e e_assign<|WL.nil<|PO.blockN ?_
  exact PO.againK (i+1,j - 1,swp d1 i j) ⟨by simp only [swp_size];omega,by simp only;omega,by simp only;omega,by simp only;rw [← he,rev_step h1]⟩ (by simp only;omega)
 ·replace h1:¬ (i < j):=by rw [decide_eq_false_iff_not] at h1;omega
  refine WP.exit<|PO.past nofun<|PO.round nofun<|PO.blockX ?_
  rw [rev_stop h1] at he
  rw [show reverseRange d a b=d1 from he.symm] at hK
  exact PO.fin Tryz.results241 rv_nil hK
theorem Ord32_spec {g:World} {u:Value} {q:Nat} (d:Array UInt32) (a b sw:Nat) (ha:a < d.size) (hb:b < d.size) (hs:sw≤1000000):Spec Tryz.prog g 325 [u,.int .i64 a,.int .i64 b,.pointer (some ⟨q,0,none⟩)] [Sl 35 1 u32C u (d).toList,cl q 3 [.int .i64 ((sw:Nat):Int)]] fun K R=>K (.tuple #[.int .i64 ((order2 lt32 d a b sw).1:Nat),.int .i64 ((order2 lt32 d a b sw).2.1:Nat)]) (Sl 35 1 u32C u (d).toList::cl q 3 [.int .i64 (((order2 lt32 d a b sw).2.2:Nat):Int)]::R):=by
 refine Spec.intro Tryz.func325 rfl Tryz.ntmps325 rfl fun R K hK=>?_
 refine WP.seq<|WP.reg<|WL.e e_assign<|WL.e e_assign<|WL.next<|WP.seq<|WP.seq<|WP.draws mixedOk 9<|RW.e 0 rfl e_move<|RW.e 1 rfl e_move<|RW.e 2 rfl (ea_ia sl33)<|RW.e 3 rfl (ea_load a35)<|RW.e 4 rfl e_move<|RW.e 5 rfl e_move<|RW.e 6 rfl (ea_ia sl33)<|RW.e 7 rfl (ea_load a35) ?_
 refine RW.any (is:=[8]) rfl ⟨?_,trivial⟩
 refine RWat.h rfl rfl rfl ?_
 refine (h_call (Less32_spec _ _) k243 ?_)
 refine ⟨trivial,?_⟩
 refine RW.done<|PO.next ?_
 refine WP.cond rfl (fun h1=>?_) (fun h1=>?_)
 ·rw [ord_t h1] at hK
  refine WP.seq<|WP.reg<|WL.e e_move<|WL.e e_nil<|WL.e (e_load a3)<|WL.e (e_addN (b:=1))<|WL.e e_nil ?_
  refine WL.h' (h_store s3 ?_)
  refine WL.next<|WP.seq<|WP.reg<|WL.e e_move<|WL.e e_move<|WL.e e_assign<|WL.e e_assign<|WL.next<|WP.ret<|PO.past nofun ?_
  exact PO.fin Tryz.results325 (rv_tmp (rv_tmp rv_nil)) hK
 ·rw [ord_f h1] at hK
  refine WP.skip<|PO.next<|WP.seq<|WP.reg<|WL.e e_move<|WL.e e_move<|WL.e e_assign<|WL.e e_assign<|WL.next<|WP.ret ?_
  exact PO.fin Tryz.results325 (rv_tmp (rv_tmp rv_nil)) hK
theorem Med32_spec {g:World} {u:Value} {q:Nat} (d:Array UInt32) (a b c sw:Nat) (ha:a < d.size) (hb:b < d.size) (hc:c < d.size) (hs:sw≤1000):Spec Tryz.prog g 290 [u,.int .i64 a,.int .i64 b,.int .i64 c,.pointer (some ⟨q,0,none⟩)] [Sl 35 1 u32C u (d).toList,cl q 3 [.int .i64 ((sw:Nat):Int)]] fun K R=>K (.int .i64 ((median lt32 d a b c sw).1:Nat)) (Sl 35 1 u32C u (d).toList::cl q 3 [.int .i64 (((median lt32 d a b c sw).2:Nat):Int)]::R):=by
 refine Spec.intro Tryz.func290 rfl Tryz.ntmps290 rfl fun R K hK=>?_
 refine WP.seq<|WP.reg<|WL.e e_assign<|WL.next<|WP.seq<|WP.reg<|WL.e e_move<|WL.e e_move<|WL.e e_move<|WL.e e_move ?_
 refine WL.h (h_call (Ord32_spec d a b sw ha hb (by omega)) k325 ?_)
 obtain ⟨p1,p2,p3⟩:=ord_lt (d:=d) (sw:=sw) ha hb
 obtain ⟨r1,hr1⟩:∃ r,r=order2 lt32 d a b sw:=⟨_,rfl⟩
 rw [← hr1] at p1 p2 p3 ⊢
 refine WL.e e_move<|WL.e e_extract<|WL.e e_extract<|WL.e e_assign<|WL.e e_assign<|WL.next<|WP.seq<|WP.reg<|WL.e e_move<|WL.e e_move<|WL.e e_move<|WL.e e_move ?_
 refine WL.h (h_call (Ord32_spec d r1.2.1 c r1.2.2 p2 hc (by omega)) k325 ?_)
 obtain ⟨p4,p5,p6⟩:=ord_lt (d:=d) (sw:=r1.2.2) p2 hc
 obtain ⟨r2,hr2⟩:∃ r,r=order2 lt32 d r1.2.1 c r1.2.2:=⟨_,rfl⟩
 rw [← hr2] at p4 p5 p6 ⊢
 refine WL.e e_move<|WL.e e_extract<|WL.e e_extract<|WL.e e_assign<|WL.e e_assign<|WL.next<|WP.seq<|WP.reg<|WL.e e_move<|WL.e e_move<|WL.e e_move<|WL.e e_move ?_
 refine WL.h (h_call (Ord32_spec d r1.1 r2.1 r2.2.2 p1 p4 (by omega)) k325 ?_)
 rw [show median lt32 d a b c sw=((order2 lt32 d r1.1 r2.1 r2.2.2).2.1,(order2 lt32 d r1.1 r2.1 r2.2.2).2.2) by rw [hr2,hr1];rfl] at hK
 refine WL.e e_move<|WL.e e_extract<|WL.e e_extract<|WL.e e_assign<|WL.e e_assign<|WL.next<|WP.seq<|WP.reg<|WL.e e_move<|WL.e e_assign<|WL.next<|WP.ret ?_
 exact PO.fin Tryz.results290 (rv_tmp rv_nil) hK
theorem MedA32_spec {g:World} {u:Value} {q:Nat} (d:Array UInt32) (a sw:Nat) (h1:1≤a) (ha:a+1 < d.size) (hn:d.size≤68719476736) (hs:sw≤1000):Spec Tryz.prog g 289 [u,.int .i64 a,.pointer (some ⟨q,0,none⟩)] [Sl 35 1 u32C u (d).toList,cl q 3 [.int .i64 ((sw:Nat):Int)]] fun K R=>K (.int .i64 ((medianAdjacent lt32 d a sw).1:Nat)) (Sl 35 1 u32C u (d).toList::cl q 3 [.int .i64 (((medianAdjacent lt32 d a sw).2:Nat):Int)]::R):=by
 refine Spec.intro Tryz.func289 rfl Tryz.ntmps289 rfl fun R K hK=>?_
 refine WP.seq<|WP.reg<|WL.e e_assign<|WL.next<|WP.seq<|WP.reg<|WL.e e_move<|WL.e e_move<|WL.e (e_subN (b:=1))<|WL.e e_move<|WL.e e_move<|WL.e (e_addN (b:=1))<|WL.e e_move ?_
 refine WL.h (h_call (Med32_spec d (a - 1) a (a+1) sw (by omega) (by omega) ha hs) k290 ?_)
 refine WL.e e_assign<|WL.next<|WP.ret ?_
 exact PO.fin Tryz.results289 (rv_tmp rv_nil) hK
set_option maxHeartbeats 1000000 in
theorem Piv32_spec {g:World} {u:Value} (d:Array UInt32) (a b:Nat) (hab:a < b) (hb:b≤d.size) (hn:d.size≤68719476736):Spec Tryz.prog g 240 [u,.int .i64 a,.int .i64 b] [Sl 35 1 u32C u (d).toList] fun K R=>K (.tuple #[.int .i64 ((choosePivot lt32 d a b).1:Nat),.int .i64 (hv (choosePivot lt32 d a b).2:Nat)]) (Sl 35 1 u32C u (d).toList::R):=by
 refine Spec.intro Tryz.func240 rfl Tryz.ntmps240 rfl fun R K hK=>?_
 refine WP.seq<|WP.reg<|WL.e e_assign<|WL.e e_assign<|WL.next<|WP.seq<|WP.reg<|WL.e e_move<|WL.e e_move<|WL.e (e_subN)<|WL.e e_assign<|WL.next<|WP.seq<|WP.reg ?_
 refine WL.h (h_alloc z3 fun b1=>?_)
 refine WL.next<|WP.seq<|WP.reg<|WL.e e_move<|WL.e e_move<|WL.e (e_quoN (b:=4))<|WL.e (e_mulN (b:=1))<|WL.e (e_addN)<|WL.e e_assign<|WL.next<|WP.seq<|WP.reg<|WL.e e_move<|WL.e e_move<|WL.e (e_quoN (b:=4))<|WL.e (e_mulN (b:=2))<|WL.e (e_addN)<|WL.e e_assign<|WL.next<|WP.seq<|WP.reg<|WL.e e_move<|WL.e e_move<|WL.e (e_quoN (b:=4)) ?_
 refine WL.e (e_mulN (b:=3))<|WL.e (e_addN)<|WL.e e_assign<|WL.next<|WP.seq<|WP.seq<|WP.reg<|WL.e e_move<|WL.e e_geq<|WL.next ?_
 refine WP.cond rfl (fun h8=>?_) (fun h8=>?_)
 ·replace h8:b - a≥8:=by rw [decide_eq_true_eq] at h8;omega
  refine WP.seq<|WP.seq<|WP.reg<|WL.e e_move<|WL.e e_geq<|WL.next ?_
  refine WP.cond rfl (fun h50=>?_) (fun h50=>?_)
  ·replace h50:b - a≥50:=by rw [decide_eq_true_eq] at h50;omega
   refine WP.seq<|WP.reg<|WL.e e_move<|WL.e e_move ?_
   refine WL.h (h_call (MedA32_spec d (a+(b - a) / 4 * 1) 0 (by omega) (by omega) (by omega) (by omega)) k289 ?_)
   obtain ⟨r1,e1⟩:∃ r,medianAdjacent lt32 d (a+(b - a) / 4 * 1) 0=r:=⟨_,rfl⟩
   obtain ⟨p1,p2⟩:r1.1 < d.size∧r1.2≤3:=by rw [← e1];exact med_lt (by omega) (by omega) (by omega)
   rw [e1]
   refine WL.e e_assign<|WL.next<|WP.seq<|WP.reg<|WL.e e_move<|WL.e e_move ?_
   refine WL.h (h_call (MedA32_spec d (a+(b - a) / 4 * 2) r1.2 (by omega) (by omega) (by omega) (by omega)) k289 ?_)
   obtain ⟨r2,e2⟩:∃ r,medianAdjacent lt32 d (a+(b - a) / 4 * 2) r1.2=r:=⟨_,rfl⟩
   obtain ⟨p3,p4⟩:r2.1 < d.size∧r2.2≤r1.2+3:=by rw [← e2];exact med_lt (by omega) (by omega) (by omega)
   rw [e2]
   refine WL.e e_assign<|WL.next<|WP.reg<|WL.e e_move<|WL.e e_move ?_
   refine WL.h (h_call (MedA32_spec d (a+(b - a) / 4 * 3) r2.2 (by omega) (by omega) (by omega) (by omega)) k289 ?_)
   obtain ⟨r3,e3⟩:∃ r,medianAdjacent lt32 d (a+(b - a) / 4 * 3) r2.2=r:=⟨_,rfl⟩
   obtain ⟨p5,p6⟩:r3.1 < d.size∧r3.2≤r2.2+3:=by rw [← e3];exact med_lt (by omega) (by omega) (by omega)
   rw [e3]
   refine WL.e e_assign<|WL.next<|WP.reg<|WL.e e_move<|WL.e e_move<|WL.e e_move<|WL.e e_move ?_
   refine WL.h (h_call (Med32_spec d r1.1 r2.1 r3.1 r3.2 p1 p3 p5 (by omega)) k290 ?_)
   obtain ⟨r4,e4⟩:∃ r,median lt32 d r1.1 r2.1 r3.1 r3.2=r:=⟨_,rfl⟩
   rw [e4]
   rw [cp3 h8 h50 e1 e2 e3 e4] at hK
   clear e1
   refine WL.e e_assign<|WL.next<|WP.seq<|WP.reg<|WL.e (e_load a3)<|WL.next<|WP.block<|WP.seq<|WP.reg<|WL.e e_eql<|WL.e e_assign<|WL.next ?_
   refine WP.cond rfl (fun e0=>?_) (fun e0=>?_)
   ·replace e0:r4.2=0:=by simpa using e0
    rw [cpH,if_pos e0] at hK
    refine WP.seq<|WP.reg<|WL.e e_move<|WL.e e_assign<|WL.e e_assign<|WL.next<|WP.ret<|PO.blockR ?_
    exact PO.fin Tryz.results240 (rv_tmp (rv_tmp rv_nil)) hK
   ·replace e0:¬ r4.2=0:=by simpa using e0
    refine WP.seq<|WP.reg<|WL.e e_eql<|WL.e e_assign<|WL.next ?_
    refine WP.cond rfl (fun e1=>?_) (fun e1=>?_)
    ·replace e1:r4.2=12:=by have:=eq_of_beq e1;omega
     rw [cpH,if_neg e0,if_pos e1] at hK
     refine WP.seq<|WP.reg<|WL.e e_move<|WL.e e_assign<|WL.e e_assign<|WL.next<|WP.ret<|PO.blockR ?_
     exact PO.fin Tryz.results240 (rv_tmp (rv_tmp rv_nil)) hK
    ·replace e1:¬ r4.2=12:=fun h=>by rw [h] at e1;exact absurd e1 (by decide)
     rw [cpH,if_neg e0,if_neg e1] at hK
     refine WP.seq<|WP.reg<|WL.e e_move<|WL.e e_assign<|WL.e e_assign<|WL.next<|WP.ret<|PO.blockR ?_
     exact PO.fin Tryz.results240 (rv_tmp (rv_tmp rv_nil)) hK
  ·replace h50:¬ (b - a≥50):=by rw [decide_eq_false_iff_not] at h50;omega
   refine WP.skip<|PO.next<|WP.reg<|WL.e e_move<|WL.e e_move<|WL.e e_move<|WL.e e_move ?_
   refine WL.h (h_call (Med32_spec d (a+(b - a) / 4 * 1) (a+(b - a) / 4 * 2) (a+(b - a) / 4 * 3) 0 (by omega) (by omega) (by omega) (by omega)) k290 ?_)
   rw [cp2 h8 h50] at hK
   obtain ⟨r4,e4⟩:∃ r,median lt32 d (a+(b - a) / 4 * 1) (a+(b - a) / 4 * 2) (a+(b - a) / 4 * 3) 0=r:=⟨_,rfl⟩
   rw [e4] at hK ⊢
   refine WL.e e_assign<|WL.next<|WP.seq<|WP.reg<|WL.e (e_load a3)<|WL.next<|WP.block<|WP.seq<|WP.reg<|WL.e e_eql<|WL.e e_assign<|WL.next ?_
   refine WP.cond rfl (fun e0=>?_) (fun e0=>?_)
   ·replace e0:r4.2=0:=by simpa using e0
    rw [cpH,if_pos e0] at hK
    refine WP.seq<|WP.reg<|WL.e e_move<|WL.e e_assign<|WL.e e_assign<|WL.next<|WP.ret<|PO.blockR ?_
    exact PO.fin Tryz.results240 (rv_tmp (rv_tmp rv_nil)) hK
   ·replace e0:¬ r4.2=0:=by simpa using e0
    refine WP.seq<|WP.reg<|WL.e e_eql<|WL.e e_assign<|WL.next ?_
    refine WP.cond rfl (fun e1=>?_) (fun e1=>?_)
    ·replace e1:r4.2=12:=by have:=eq_of_beq e1;omega
     rw [cpH,if_neg e0,if_pos e1] at hK
     refine WP.seq<|WP.reg<|WL.e e_move<|WL.e e_assign<|WL.e e_assign<|WL.next<|WP.ret<|PO.blockR ?_
     exact PO.fin Tryz.results240 (rv_tmp (rv_tmp rv_nil)) hK
    ·replace e1:¬ r4.2=12:=fun h=>by rw [h] at e1;exact absurd e1 (by decide)
     rw [cpH,if_neg e0,if_neg e1] at hK
     refine WP.seq<|WP.reg<|WL.e e_move<|WL.e e_assign<|WL.e e_assign<|WL.next<|WP.ret<|PO.blockR ?_
     exact PO.fin Tryz.results240 (rv_tmp (rv_tmp rv_nil)) hK
 ·replace h8:¬ (b - a≥8):=by rw [decide_eq_false_iff_not] at h8;omega
  refine WP.skip<|PO.next<|WP.seq<|WP.reg<|WL.e (e_load a3)<|WL.next<|WP.block<|WP.seq<|WP.reg<|WL.e e_eql<|WL.e e_assign<|WL.next ?_
  refine WP.cond rfl (fun e0=>?_) (fun e0=>?_)
  ·rw [cp1 h8] at hK
   refine WP.seq<|WP.reg<|WL.e e_move<|WL.e e_assign<|WL.e e_assign<|WL.next<|WP.ret<|PO.blockR ?_
   exact PO.fin Tryz.results240 (rv_tmp (rv_tmp rv_nil)) hK
  ·exact absurd e0 (by decide)
end Go.SL
set_option linter.unusedSectionVars false
namespace Go.SL
open Go
section
variable {P : Program} {r : Option Nat} {g : World} {Γ : Env} {L M : List HP} {Q : Post}
theorem WP.cutR {α:Type} {c d:Code} {n:Nat} {D:List Deferred} {l:List (Nat × Value)} (E:α→List (Nat × Value)) (H:α→List HP) (keep:List (Nat × Value)) (φ:α→Prop) (h:WP P r g c (Exit.then (Meet g n D (fun x=>(E x++keep,H x)) φ) Q) ⟨n,D,l⟩ L) (hd:∀ x,φ x→WP P r g d Q ⟨n,D,E x++keep⟩ (H x))
    (hl:EnvSub keep l:=by repeat first | exact EnvSub.nil | refine EnvSub.cons rfl ?_):WP P r g (.seq c d) Q ⟨n,D,l⟩ L:=WP.cut (fun x=>(E x++keep,H x)) φ h hd
theorem h_makeMapB {κ:Type} [DecidableEq κ] {ek:κ→Value} {dst:Option Tmp} {t:TypeId} {pos:String} {aft:Array Edge} {gd:Option (Nat × Bool)} {T:TypeId} {K:Value→List HP→Prop} (hK:∀ b,K (.map (some b)) (Mp ek (.map (some b)) ([]:List (κ × Value))::L)):HO P r g ⟨dst,.makeMap T none,t,pos,aft,gd⟩ Γ L K:=
  HO.run (by simp) fun a w _ hw=>by
    have h:=hw.push (.map #[] 0)
    obtain ⟨T1,T2,hd',m1,m2,hA1,hA2⟩:=h.heap
    refine ⟨.map (some w.heap.size),_,w.alloc (.map #[] 0),by simp [execOp,Instr.makeMap],hK _,h.os,h.tape,h.output,h.size,T1,T2,hd',m1,m2,⟨w.heap.size,[],0,rfl,hA1,rfl,by simp,by simp⟩,hA2⟩
end
end Go.SL
