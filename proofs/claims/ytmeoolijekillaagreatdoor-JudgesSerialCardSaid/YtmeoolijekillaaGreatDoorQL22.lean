import Derived.Test.YtmeoolijekillaaGreatDoorQL21
set_option linter.unusedSimpArgs false
set_option linter.unusedVariables false
namespace Go.SL.Fc
end Go.SL.Fc
namespace Go.SL
open Go Go.Proofs Fc
open Go.Sort
set_option maxHeartbeats 2000000 in
theorem Part32_spec {g:World} {u:Value} (d:Array UInt32) (a b pv:Nat) (h1:a≤pv) (h2:pv < b) (hb:b≤d.size) (hn:d.size≤68719476736):Spec Tryz.prog g 245 [u,.int .i64 a,.int .i64 b,.int .i64 pv] [Sl 35 1 u32C u (d).toList] fun K R=>K (.tuple #[.int .i64 ((partition lt32 d a b pv).1:Nat),.bool (partition lt32 d a b pv).2.1]) (Sl 35 1 u32C u ((partition lt32 d a b pv).2.2).toList::R):=by
 refine Spec.intro Tryz.func245 rfl Tryz.ntmps245 rfl fun R K hK=>?_
 refine WP.seq<|WP.reg<|WL.e e_assign<|WL.e e_assign<|WL.next<|WP.seq<|WP.draws mixedOk 16<|RW.e 0 rfl e_move<|RW.e 1 rfl e_move<|RW.e 2 rfl e_move<|RW.e 3 rfl e_move<|RW.e 4 rfl e_move<|RW.e 5 rfl e_move<|RW.e 6 rfl (ea_ia sl33)<|RW.e 7 rfl (ea_load a35)<|RW.e 8 rfl e_move<|RW.e 9 rfl e_move<|RW.e 10 rfl (ea_ia sl33)<|RW.e 11 rfl (ea_load a35)<|RW.e 12 rfl (ea_ia sl33) ?_
 refine RW.any (is:=[13]) rfl ⟨?_,trivial⟩
 refine RWat.h' rfl rfl rfl ?_
 refine (ha_store s35 ?_)
 refine ⟨⟨⟨_,rfl,.inl ⟨rfl,e_move⟩⟩,⟨_,rfl,.inl ⟨rfl,e_move⟩⟩,trivial⟩,?_⟩
 refine RW.e 14 rfl (ea_ia sl33) ?_
 refine RW.any (is:=[15]) rfl ⟨?_,trivial⟩
 refine RWat.h' rfl rfl rfl ?_
 refine (ha_store s35 ?_)
 refine ⟨trivial,?_⟩
 refine RW.done<|PO.next<|WP.seq<|WP.reg<|WL.e e_move<|WL.e (e_addN (b:=1))<|WL.e e_move<|WL.e (e_subN (b:=1))<|WL.e e_assign<|WL.e e_assign<|WL.next ?_
 refine WP.cutR (fun (z9:Nat)=>[(10,.int .i64 z9)]) (fun (z9:Nat)=>Sl 35 1 u32C u ((swp d a pv)).toList::R) [(0,_),(1,_),(8,_),(9,_),(11,_)] (fun (z9:Nat)=>a+1≤z9∧z9≤(b - 1)+1∧scanUp (fun x=>lt32 x (swp d a pv)[a]!) (swp d a pv) (b - 1) (a+1)=z9∧(z9≤(b - 1)→(fun x=>lt32 x (swp d a pv)[a]!) (swp d a pv)[z9]! = false)) ?_ ?_
 ·skip
  refine WP.block<|WP.loopK (fun (z9:Nat)=>[(10,.int .i64 z9)]) (fun (z9:Nat)=>Sl 35 1 u32C u ((swp d a pv)).toList::R) [(0,_),(1,_),(8,_),(9,_),(11,_)] (fun (z9:Nat)=>a+1≤z9∧z9≤(b - 1)+1∧scanUp (fun x=>lt32 x (swp d a pv)[a]!) (swp d a pv) (b - 1) z9=scanUp (fun x=>lt32 x (swp d a pv)[a]!) (swp d a pv) (b - 1) (a+1)) (fun (z9:Nat)=>(b - 1)+1 - z9) (a+1) (⟨Nat.le_refl _,by omega,rfl⟩) ?_
  rintro i1 ⟨hi1,hi2,he1⟩
  refine WP.seq<|WP.seq<|WP.draws mixedOk 14<|RW.e 0 rfl e_move<|RW.e 1 rfl e_move<|RW.e 2 rfl e_leq<|RW.e 3 rfl e_move ?_
  refine RW.bool 33 rfl (fun g=>?_) (fun g=>?_)
  ·replace g:i1≤(b - 1):=by rw [decide_eq_true_eq] at g;omega
   refine RW.e 4 rfl e_move<|RW.e 5 rfl e_move<|RW.e 6 rfl (ea_ia sl33)<|RW.e 7 rfl (ea_load a35)<|RW.e 8 rfl e_move<|RW.e 9 rfl e_move<|RW.e 10 rfl (ea_ia sl33)<|RW.e 11 rfl (ea_load a35) ?_
   refine RW.any (is:=[12]) rfl ⟨?_,trivial⟩
   refine RWat.h rfl rfl rfl ?_
   refine (h_call (Less32_spec _ _) k243 ?_)
   refine ⟨trivial,?_⟩
   refine RW.e 13 rfl e_pick_t<|RW.done<|PO.next ?_
   refine WP.cond rfl (fun h3=>?_) (fun h3=>?_)
   ·replace h3:(fun x=>lt32 x (swp d a pv)[a]!) ((swp d a pv))[i1]! = true:=h3
    refine WP.skip<|PO.next<|WP.block<|WP.reg<|WL.e e_move<|WL.e (e_addN (b:=1))<|WL.e e_assign<|WL.nil<|PO.blockN ?_
    exact PO.againK (i1+1) ⟨by omega,by omega,by rw [← he1,up_step g h3]⟩ (by omega)
   ·replace h3:(fun x=>lt32 x (swp d a pv)[a]!) ((swp d a pv))[i1]! = false:=h3
    refine WP.exit<|PO.past nofun<|PO.round nofun<|PO.blockX ?_
    exact PO.meetK i1 ⟨hi1,hi2,by rw [← he1];exact up_stop (fun _=>h3),fun _=>h3⟩
  ·replace g:¬ (i1≤(b - 1)):=by rw [decide_eq_false_iff_not] at g;omega
   refine RW.skip 4 rfl<|RW.skip 5 rfl<|RW.skip 6 rfl<|RW.skip 7 rfl<|RW.skip 8 rfl<|RW.skip 9 rfl<|RW.skip 10 rfl<|RW.skip 11 rfl<|RW.skip 12 rfl<|RW.e 13 rfl e_pick_f<|RW.done<|PO.next<|WP.cond_f rfl<|WP.exit<|PO.past nofun<|PO.round nofun<|PO.blockX ?_
   exact PO.meetK i1 ⟨hi1,hi2,by rw [← he1];exact up_stop (fun h=>absurd h g),fun h=>absurd h g⟩
 ·rintro i1 ⟨i1a,i1b,i1e,i1s⟩
  refine WP.cutR (fun (z9:Nat)=>[(11,.int .i64 z9)]) (fun (z9:Nat)=>Sl 35 1 u32C u ((swp d a pv)).toList::R) [(0,_),(1,_),(8,_),(9,_),(10,_)] (fun (z9:Nat)=>z9≤b - 1∧i1≤z9+1∧scanDown (fun x=>!lt32 x (swp d a pv)[a]!) (swp d a pv) i1 (b - 1)=z9∧(i1≤z9→(fun x=>!lt32 x (swp d a pv)[a]!) (swp d a pv)[z9]! = false)) ?_ ?_
  ·skip
   refine WP.block<|WP.loopK (fun (z9:Nat)=>[(11,.int .i64 z9)]) (fun (z9:Nat)=>Sl 35 1 u32C u ((swp d a pv)).toList::R) [(0,_),(1,_),(8,_),(9,_),(10,_)] (fun (z9:Nat)=>z9≤b - 1∧i1≤z9+1∧scanDown (fun x=>!lt32 x (swp d a pv)[a]!) (swp d a pv) i1 z9=scanDown (fun x=>!lt32 x (swp d a pv)[a]!) (swp d a pv) i1 (b - 1)) (fun (z9:Nat)=>z9) (b - 1) (⟨Nat.le_refl _,by omega,rfl⟩) ?_
   rintro j1 ⟨hj1,hj2,he2⟩
   refine WP.seq<|WP.seq<|WP.draws mixedOk 15<|RW.e 0 rfl e_move<|RW.e 1 rfl e_move<|RW.e 2 rfl e_leq<|RW.e 3 rfl e_move ?_
   refine RW.bool 49 rfl (fun g=>?_) (fun g=>?_)
   ·replace g:i1≤j1:=by rw [decide_eq_true_eq] at g;omega
    refine RW.e 4 rfl e_move<|RW.e 5 rfl e_move<|RW.e 6 rfl (ea_ia sl33)<|RW.e 7 rfl (ea_load a35)<|RW.e 8 rfl e_move<|RW.e 9 rfl e_move<|RW.e 10 rfl (ea_ia sl33)<|RW.e 11 rfl (ea_load a35) ?_
    refine RW.any (is:=[12]) rfl ⟨?_,trivial⟩
    refine RWat.h rfl rfl rfl ?_
    refine (h_call (Less32_spec _ _) k243 ?_)
    refine ⟨trivial,?_⟩
    refine RW.e 13 rfl e_not<|RW.e 14 rfl e_pick_t<|RW.done<|PO.next ?_
    refine WP.cond rfl (fun h3=>?_) (fun h3=>?_)
    ·replace h3:(fun x=>!lt32 x (swp d a pv)[a]!) ((swp d a pv))[j1]! = true:=h3
     refine WP.skip<|PO.next<|WP.block<|WP.reg<|WL.e e_move<|WL.e (e_subN (b:=1))<|WL.e e_assign<|WL.nil<|PO.blockN ?_
     exact PO.againK (j1 - 1) ⟨by omega,by omega,by rw [← he2,down_step (by omega) g h3]⟩ (by omega)
    ·replace h3:(fun x=>!lt32 x (swp d a pv)[a]!) ((swp d a pv))[j1]! = false:=h3
     refine WP.exit<|PO.past nofun<|PO.round nofun<|PO.blockX ?_
     exact PO.meetK j1 ⟨hj1,hj2,by rw [← he2];exact down_stop (fun _=>h3),fun _=>h3⟩
   ·replace g:¬ (i1≤j1):=by rw [decide_eq_false_iff_not] at g;omega
    refine RW.skip 4 rfl<|RW.skip 5 rfl<|RW.skip 6 rfl<|RW.skip 7 rfl<|RW.skip 8 rfl<|RW.skip 9 rfl<|RW.skip 10 rfl<|RW.skip 11 rfl<|RW.skip 12 rfl<|RW.skip 13 rfl<|RW.e 14 rfl e_pick_f<|RW.done<|PO.next<|WP.cond_f rfl<|WP.exit<|PO.past nofun<|PO.round nofun<|PO.blockX ?_
    exact PO.meetK j1 ⟨hj1,hj2,by rw [← he2];exact down_stop (fun h=>absurd h g),fun h=>absurd h g⟩
  ·rintro j1 ⟨j1a,j1b,j1e,j1s⟩
   refine WP.seq<|WP.seq<|WP.reg<|WL.e e_move<|WL.e e_move<|WL.e e_gtr<|WL.next ?_
   refine WP.cond rfl (fun h5=>?_) (fun h5=>?_)
   ·replace h5:i1 > j1:=by rw [decide_eq_true_eq] at h5;omega
    refine WP.seq<|WP.draws mixedOk 16<|RW.e 0 rfl e_move<|RW.e 1 rfl e_move<|RW.e 2 rfl e_move<|RW.e 3 rfl e_move<|RW.e 4 rfl e_move<|RW.e 5 rfl e_move<|RW.e 6 rfl (ea_ia sl33)<|RW.e 7 rfl (ea_load a35)<|RW.e 8 rfl e_move<|RW.e 9 rfl e_move<|RW.e 10 rfl (ea_ia sl33)<|RW.e 11 rfl (ea_load a35)<|RW.e 12 rfl (ea_ia sl33) ?_
    refine RW.any (is:=[13]) rfl ⟨?_,trivial⟩
    refine RWat.h' rfl rfl rfl ?_
    refine (ha_store s35 ?_)
    refine ⟨⟨⟨_,rfl,.inl ⟨rfl,e_move⟩⟩,⟨_,rfl,.inl ⟨rfl,e_move⟩⟩,trivial⟩,?_⟩
    refine RW.e 14 rfl (ea_ia sl33) ?_
    refine RW.any (is:=[15]) rfl ⟨?_,trivial⟩
    refine RWat.h' rfl rfl rfl ?_
    refine (ha_store s35 ?_)
    refine ⟨trivial,?_⟩
    refine RW.done<|PO.next<|WP.seq<|WP.reg<|WL.e e_move<|WL.e e_assign<|WL.e e_assign<|WL.next<|WP.ret<|PO.past nofun ?_
    rw [partition_t rfl i1e j1e h5] at hK
    exact PO.fin Tryz.results245 (rv_tmp (rv_tmp rv_nil)) hK
   ·replace h5:¬ (i1 > j1):=by rw [decide_eq_false_iff_not] at h5;omega
    refine WP.skip<|PO.next<|WP.seq<|WP.draws mixedOk 16<|RW.e 0 rfl e_move<|RW.e 1 rfl e_move<|RW.e 2 rfl e_move<|RW.e 3 rfl e_move<|RW.e 4 rfl e_move<|RW.e 5 rfl e_move<|RW.e 6 rfl (ea_ia sl33)<|RW.e 7 rfl (ea_load a35)<|RW.e 8 rfl e_move<|RW.e 9 rfl e_move<|RW.e 10 rfl (ea_ia sl33)<|RW.e 11 rfl (ea_load a35)<|RW.e 12 rfl (ea_ia sl33) ?_
    refine RW.any (is:=[13]) rfl ⟨?_,trivial⟩
    refine RWat.h' rfl rfl rfl ?_
    refine (ha_store s35 ?_)
    refine ⟨⟨⟨_,rfl,.inl ⟨rfl,e_move⟩⟩,⟨_,rfl,.inl ⟨rfl,e_move⟩⟩,trivial⟩,?_⟩
    refine RW.e 14 rfl (ea_ia sl33) ?_
    refine RW.any (is:=[15]) rfl ⟨?_,trivial⟩
    refine RWat.h' rfl rfl rfl ?_
    refine (ha_store s35 ?_)
    refine ⟨trivial,?_⟩
    refine RW.done<|PO.next<|WP.seq<|WP.reg<|WL.e e_move<|WL.e (e_addN (b:=1))<|WL.e e_assign<|WL.next<|WP.seq<|WP.reg<|WL.e e_move<|WL.e (e_subN (b:=1))<|WL.e e_assign<|WL.next<|WP.seq<|WP.block ?_
    have hij:i1 < j1:=by
     rcases Nat.lt_or_ge i1 j1 with h | h
     ·exact h
     ·obtain rfl:i1=j1:=by omega
      have e1:=i1s (by omega)
      have e2:=nf (j1s (Nat.le_refl _))
      simp only at e1 e2
      rw [e1] at e2;cases e2
    refine WP.loopK (fun (x:Nat × Nat × Array UInt32)=>[(10,.int .i64 x.1),(11,.int .i64 x.2.1)]) (fun (x:Nat × Nat × Array UInt32)=>Sl 35 1 u32C u (x.2.2).toList::R) [(0,_),(1,_),(8,_),(9,_)] (fun (x:Nat × Nat × Array UInt32)=>x.2.2.size=d.size∧a+1≤x.1∧x.1≤x.2.1+1∧x.2.1 < b∧partLoop lt32 a x.1 x.2.1 x.2.2=partLoop lt32 a (i1+1) (j1 - 1) (swp (swp d a pv) i1 j1)) (fun (x:Nat × Nat × Array UInt32)=>x.2.1+1 - x.1) (i1+1,j1 - 1,swp (swp d a pv) i1 j1) (⟨by simp only [swp_size],by simp only;omega,by simp only;omega,by simp only;omega,rfl⟩) ?_
    rintro ⟨i,j,d1⟩ ⟨hs1,hl1,hl2,hl3,hl4⟩
    simp only at hs1 hl1 hl2 hl3 hl4
    dsimp only
    refine WP.block ?_
    refine WP.cutR (fun (z9:Nat)=>[(10,.int .i64 z9)]) (fun (z9:Nat)=>Sl 35 1 u32C u (d1).toList::R) [(0,_),(1,_),(8,_),(9,_),(11,_)] (fun (z9:Nat)=>i≤z9∧z9≤j+1∧scanUp (fun x=>lt32 x d1[a]!) d1 j (i)=z9∧(z9≤j→(fun x=>lt32 x d1[a]!) d1[z9]! = false)) ?_ ?_
    ·skip
     refine WP.block<|WP.loopK (fun (z9:Nat)=>[(10,.int .i64 z9)]) (fun (z9:Nat)=>Sl 35 1 u32C u (d1).toList::R) [(0,_),(1,_),(8,_),(9,_),(11,_)] (fun (z9:Nat)=>i≤z9∧z9≤j+1∧scanUp (fun x=>lt32 x d1[a]!) d1 j z9=scanUp (fun x=>lt32 x d1[a]!) d1 j (i)) (fun (z9:Nat)=>j+1 - z9) (i) (⟨Nat.le_refl _,by omega,rfl⟩) ?_
     rintro i2 ⟨hi1,hi2,he1⟩
     refine WP.seq<|WP.seq<|WP.draws mixedOk 14<|RW.e 0 rfl e_move<|RW.e 1 rfl e_move<|RW.e 2 rfl e_leq<|RW.e 3 rfl e_move ?_
     refine RW.bool 102 rfl (fun g=>?_) (fun g=>?_)
     ·replace g:i2≤j:=by rw [decide_eq_true_eq] at g;omega
      refine RW.e 4 rfl e_move<|RW.e 5 rfl e_move<|RW.e 6 rfl (ea_ia sl33)<|RW.e 7 rfl (ea_load a35)<|RW.e 8 rfl e_move<|RW.e 9 rfl e_move<|RW.e 10 rfl (ea_ia sl33)<|RW.e 11 rfl (ea_load a35) ?_
      refine RW.any (is:=[12]) rfl ⟨?_,trivial⟩
      refine RWat.h rfl rfl rfl ?_
      refine (h_call (Less32_spec _ _) k243 ?_)
      refine ⟨trivial,?_⟩
      refine RW.e 13 rfl e_pick_t<|RW.done<|PO.next ?_
      refine WP.cond rfl (fun h3=>?_) (fun h3=>?_)
      ·replace h3:(fun x=>lt32 x d1[a]!) (d1)[i2]! = true:=h3
       refine WP.skip<|PO.next<|WP.block<|WP.reg<|WL.e e_move<|WL.e (e_addN (b:=1))<|WL.e e_assign<|WL.nil<|PO.blockN ?_
       exact PO.againK (i2+1) ⟨by omega,by omega,by rw [← he1,up_step g h3]⟩ (by omega)
      ·replace h3:(fun x=>lt32 x d1[a]!) (d1)[i2]! = false:=h3
       refine WP.exit<|PO.past nofun<|PO.round nofun<|PO.blockX ?_
       exact PO.meetK i2 ⟨hi1,hi2,by rw [← he1];exact up_stop (fun _=>h3),fun _=>h3⟩
     ·replace g:¬ (i2≤j):=by rw [decide_eq_false_iff_not] at g;omega
      refine RW.skip 4 rfl<|RW.skip 5 rfl<|RW.skip 6 rfl<|RW.skip 7 rfl<|RW.skip 8 rfl<|RW.skip 9 rfl<|RW.skip 10 rfl<|RW.skip 11 rfl<|RW.skip 12 rfl<|RW.e 13 rfl e_pick_f<|RW.done<|PO.next<|WP.cond_f rfl<|WP.exit<|PO.past nofun<|PO.round nofun<|PO.blockX ?_
      exact PO.meetK i2 ⟨hi1,hi2,by rw [← he1];exact up_stop (fun h=>absurd h g),fun h=>absurd h g⟩
    ·rintro i2 ⟨i2a,i2b,i2e,i2s⟩
     refine WP.cutR (fun (z9:Nat)=>[(11,.int .i64 z9)]) (fun (z9:Nat)=>Sl 35 1 u32C u (d1).toList::R) [(0,_),(1,_),(8,_),(9,_),(10,_)] (fun (z9:Nat)=>z9≤j∧i2≤z9+1∧scanDown (fun x=>!lt32 x d1[a]!) d1 i2 (j)=z9∧(i2≤z9→(fun x=>!lt32 x d1[a]!) d1[z9]! = false)) ?_ ?_
     ·skip
      refine WP.block<|WP.loopK (fun (z9:Nat)=>[(11,.int .i64 z9)]) (fun (z9:Nat)=>Sl 35 1 u32C u (d1).toList::R) [(0,_),(1,_),(8,_),(9,_),(10,_)] (fun (z9:Nat)=>z9≤j∧i2≤z9+1∧scanDown (fun x=>!lt32 x d1[a]!) d1 i2 z9=scanDown (fun x=>!lt32 x d1[a]!) d1 i2 (j)) (fun (z9:Nat)=>z9) (j) (⟨Nat.le_refl _,by omega,rfl⟩) ?_
      rintro j2 ⟨hj1,hj2,he2⟩
      refine WP.seq<|WP.seq<|WP.draws mixedOk 15<|RW.e 0 rfl e_move<|RW.e 1 rfl e_move<|RW.e 2 rfl e_leq<|RW.e 3 rfl e_move ?_
      refine RW.bool 118 rfl (fun g=>?_) (fun g=>?_)
      ·replace g:i2≤j2:=by rw [decide_eq_true_eq] at g;omega
       refine RW.e 4 rfl e_move<|RW.e 5 rfl e_move<|RW.e 6 rfl (ea_ia sl33)<|RW.e 7 rfl (ea_load a35)<|RW.e 8 rfl e_move<|RW.e 9 rfl e_move<|RW.e 10 rfl (ea_ia sl33)<|RW.e 11 rfl (ea_load a35) ?_
       refine RW.any (is:=[12]) rfl ⟨?_,trivial⟩
       refine RWat.h rfl rfl rfl ?_
       refine (h_call (Less32_spec _ _) k243 ?_)
       refine ⟨trivial,?_⟩
       refine RW.e 13 rfl e_not<|RW.e 14 rfl e_pick_t<|RW.done<|PO.next ?_
       refine WP.cond rfl (fun h3=>?_) (fun h3=>?_)
       ·replace h3:(fun x=>!lt32 x d1[a]!) (d1)[j2]! = true:=h3
        refine WP.skip<|PO.next<|WP.block<|WP.reg<|WL.e e_move<|WL.e (e_subN (b:=1))<|WL.e e_assign<|WL.nil<|PO.blockN ?_
        exact PO.againK (j2 - 1) ⟨by omega,by omega,by rw [← he2,down_step (by omega) g h3]⟩ (by omega)
       ·replace h3:(fun x=>!lt32 x d1[a]!) (d1)[j2]! = false:=h3
        refine WP.exit<|PO.past nofun<|PO.round nofun<|PO.blockX ?_
        exact PO.meetK j2 ⟨hj1,hj2,by rw [← he2];exact down_stop (fun _=>h3),fun _=>h3⟩
      ·replace g:¬ (i2≤j2):=by rw [decide_eq_false_iff_not] at g;omega
       refine RW.skip 4 rfl<|RW.skip 5 rfl<|RW.skip 6 rfl<|RW.skip 7 rfl<|RW.skip 8 rfl<|RW.skip 9 rfl<|RW.skip 10 rfl<|RW.skip 11 rfl<|RW.skip 12 rfl<|RW.skip 13 rfl<|RW.e 14 rfl e_pick_f<|RW.done<|PO.next<|WP.cond_f rfl<|WP.exit<|PO.past nofun<|PO.round nofun<|PO.blockX ?_
       exact PO.meetK j2 ⟨hj1,hj2,by rw [← he2];exact down_stop (fun h=>absurd h g),fun h=>absurd h g⟩
     ·rintro j2 ⟨j2a,j2b,j2e,j2s⟩
      refine WP.seq<|WP.seq<|WP.reg<|WL.e e_move<|WL.e e_move<|WL.e e_gtr<|WL.next ?_
      refine WP.cond rfl (fun h6=>?_) (fun h6=>?_)
      ·replace h6:i2 > j2:=by rw [decide_eq_true_eq] at h6;omega
       refine WP.exit<|PO.past nofun<|PO.blockY rfl<|PO.round nofun<|PO.blockX<|PO.next<|WP.seq<|WP.draws mixedOk 16<|RW.e 0 rfl e_move<|RW.e 1 rfl e_move<|RW.e 2 rfl e_move<|RW.e 3 rfl e_move<|RW.e 4 rfl e_move<|RW.e 5 rfl e_move<|RW.e 6 rfl (ea_ia sl33)<|RW.e 7 rfl (ea_load a35)<|RW.e 8 rfl e_move<|RW.e 9 rfl e_move<|RW.e 10 rfl (ea_ia sl33)<|RW.e 11 rfl (ea_load a35)<|RW.e 12 rfl (ea_ia sl33) ?_
       refine RW.any (is:=[13]) rfl ⟨?_,trivial⟩
       refine RWat.h' rfl rfl rfl ?_
       refine (ha_store s35 ?_)
       refine ⟨⟨⟨_,rfl,.inl ⟨rfl,e_move⟩⟩,⟨_,rfl,.inl ⟨rfl,e_move⟩⟩,trivial⟩,?_⟩
       refine RW.e 14 rfl (ea_ia sl33) ?_
       refine RW.any (is:=[15]) rfl ⟨?_,trivial⟩
       refine RWat.h' rfl rfl rfl ?_
       refine (ha_store s35 ?_)
       refine ⟨trivial,?_⟩
       refine RW.done<|PO.next<|WP.seq<|WP.reg<|WL.e e_move<|WL.e e_assign<|WL.e e_assign<|WL.next<|WP.ret ?_
       rw [partition_f rfl i1e j1e h5 (hl4.symm.trans (part_stop i2e j2e h6))] at hK
       exact PO.fin Tryz.results245 (rv_tmp (rv_tmp rv_nil)) hK
      ·replace h6:¬ (i2 > j2):=by rw [decide_eq_false_iff_not] at h6;omega
       refine WP.skip<|PO.next<|WP.seq<|WP.draws mixedOk 16<|RW.e 0 rfl e_move<|RW.e 1 rfl e_move<|RW.e 2 rfl e_move<|RW.e 3 rfl e_move<|RW.e 4 rfl e_move<|RW.e 5 rfl e_move<|RW.e 6 rfl (ea_ia sl33)<|RW.e 7 rfl (ea_load a35)<|RW.e 8 rfl e_move<|RW.e 9 rfl e_move<|RW.e 10 rfl (ea_ia sl33)<|RW.e 11 rfl (ea_load a35)<|RW.e 12 rfl (ea_ia sl33) ?_
       refine RW.any (is:=[13]) rfl ⟨?_,trivial⟩
       refine RWat.h' rfl rfl rfl ?_
       refine (ha_store s35 ?_)
       refine ⟨⟨⟨_,rfl,.inl ⟨rfl,e_move⟩⟩,⟨_,rfl,.inl ⟨rfl,e_move⟩⟩,trivial⟩,?_⟩
       refine RW.e 14 rfl (ea_ia sl33) ?_
       refine RW.any (is:=[15]) rfl ⟨?_,trivial⟩
       refine RWat.h' rfl rfl rfl ?_
       refine (ha_store s35 ?_)
       refine ⟨trivial,?_⟩
       refine RW.done<|PO.next<|WP.seq<|WP.reg<|WL.e e_move<|WL.e (e_addN (b:=1))<|WL.e e_assign<|WL.next<|WP.reg<|WL.e e_move<|WL.e (e_subN (b:=1))<|WL.e e_assign<|WL.nil<|PO.blockN ?_
       have hij2:i2 < j2:=by
        rcases Nat.lt_or_ge i2 j2 with h | h
        ·exact h
        ·obtain rfl:i2=j2:=by omega
         have e1:=i2s (by omega)
         have e2:=nf (j2s (Nat.le_refl _))
         simp only at e1 e2
         rw [e1] at e2;cases e2
       exact PO.againK (i2+1,j2 - 1,swp d1 i2 j2) ⟨by simp only [swp_size];omega,by simp only;omega,by simp only;omega,by simp only;omega,by simp only;rw [← hl4,part_step i2e j2e h6 (by omega)]⟩ (by simp only;omega)
set_option maxHeartbeats 2000000 in
theorem PartE32_spec {g:World} {u:Value} (d:Array UInt32) (a b pv:Nat) (h1:a≤pv) (h2:pv < b) (hb:b≤d.size) (hn:d.size≤68719476736):Spec Tryz.prog g 244 [u,.int .i64 a,.int .i64 b,.int .i64 pv] [Sl 35 1 u32C u (d).toList] fun K R=>K (.int .i64 ((partitionEqual lt32 d a b pv).1:Nat)) (Sl 35 1 u32C u ((partitionEqual lt32 d a b pv).2).toList::R):=by
 refine Spec.intro Tryz.func244 rfl Tryz.ntmps244 rfl fun R K hK=>?_
 refine WP.seq<|WP.reg<|WL.e e_assign<|WL.next<|WP.seq<|WP.draws mixedOk 16<|RW.e 0 rfl e_move<|RW.e 1 rfl e_move<|RW.e 2 rfl e_move<|RW.e 3 rfl e_move<|RW.e 4 rfl e_move<|RW.e 5 rfl e_move<|RW.e 6 rfl (ea_ia sl33)<|RW.e 7 rfl (ea_load a35)<|RW.e 8 rfl e_move<|RW.e 9 rfl e_move<|RW.e 10 rfl (ea_ia sl33)<|RW.e 11 rfl (ea_load a35)<|RW.e 12 rfl (ea_ia sl33) ?_
 refine RW.any (is:=[13]) rfl ⟨?_,trivial⟩
 refine RWat.h' rfl rfl rfl ?_
 refine (ha_store s35 ?_)
 refine ⟨⟨⟨_,rfl,.inl ⟨rfl,e_move⟩⟩,⟨_,rfl,.inl ⟨rfl,e_move⟩⟩,trivial⟩,?_⟩
 refine RW.e 14 rfl (ea_ia sl33) ?_
 refine RW.any (is:=[15]) rfl ⟨?_,trivial⟩
 refine RWat.h' rfl rfl rfl ?_
 refine (ha_store s35 ?_)
 refine ⟨trivial,?_⟩
 refine RW.done<|PO.next<|WP.seq<|WP.reg<|WL.e e_move<|WL.e (e_addN (b:=1))<|WL.e e_move<|WL.e (e_subN (b:=1))<|WL.e e_assign<|WL.e e_assign<|WL.next<|WP.seq<|WP.block<|WP.loopK (fun (x:Nat × Nat × Array UInt32)=>[(9,.int .i64 x.1),(10,.int .i64 x.2.1)]) (fun (x:Nat × Nat × Array UInt32)=>Sl 35 1 u32C u (x.2.2).toList::R) [(0,_),(1,_),(8,_)] (fun (x:Nat × Nat × Array UInt32)=>x.2.2.size=d.size∧a+1≤x.1∧x.1≤x.2.1+1∧x.2.1 < b∧partEqLoop lt32 a x.1 x.2.1 x.2.2=partitionEqual lt32 d a b pv) (fun (x:Nat × Nat × Array UInt32)=>x.2.1+1 - x.1) (a+1,b - 1,swp d a pv) (⟨by simp only [swp_size],by simp only;omega,by simp only;omega,by simp only;omega,rfl⟩) ?_
 rintro ⟨i,j,d1⟩ ⟨hs1,hl1,hl2,hl3,hl4⟩
 simp only at hs1 hl1 hl2 hl3 hl4
 dsimp only
 refine WP.block ?_
 refine WP.cutR (fun (z9:Nat)=>[(9,.int .i64 z9)]) (fun (z9:Nat)=>Sl 35 1 u32C u (d1).toList::R) [(0,_),(1,_),(8,_),(10,_)] (fun (z9:Nat)=>i≤z9∧z9≤j+1∧scanUp (fun x=>!lt32 d1[a]! x) d1 j (i)=z9∧(z9≤j→(fun x=>!lt32 d1[a]! x) d1[z9]! = false)) ?_ ?_
 ·skip
  refine WP.block<|WP.loopK (fun (z9:Nat)=>[(9,.int .i64 z9)]) (fun (z9:Nat)=>Sl 35 1 u32C u (d1).toList::R) [(0,_),(1,_),(8,_),(10,_)] (fun (z9:Nat)=>i≤z9∧z9≤j+1∧scanUp (fun x=>!lt32 d1[a]! x) d1 j z9=scanUp (fun x=>!lt32 d1[a]! x) d1 j (i)) (fun (z9:Nat)=>j+1 - z9) (i) (⟨Nat.le_refl _,by omega,rfl⟩) ?_
  rintro i2 ⟨hi1,hi2,he1⟩
  refine WP.seq<|WP.seq<|WP.draws mixedOk 15<|RW.e 0 rfl e_move<|RW.e 1 rfl e_move<|RW.e 2 rfl e_leq<|RW.e 3 rfl e_move ?_
  refine RW.bool 32 rfl (fun g=>?_) (fun g=>?_)
  ·replace g:i2≤j:=by rw [decide_eq_true_eq] at g;omega
   refine RW.e 4 rfl e_move<|RW.e 5 rfl e_move<|RW.e 6 rfl (ea_ia sl33)<|RW.e 7 rfl (ea_load a35)<|RW.e 8 rfl e_move<|RW.e 9 rfl e_move<|RW.e 10 rfl (ea_ia sl33)<|RW.e 11 rfl (ea_load a35) ?_
   refine RW.any (is:=[12]) rfl ⟨?_,trivial⟩
   refine RWat.h rfl rfl rfl ?_
   refine (h_call (Less32_spec _ _) k243 ?_)
   refine ⟨trivial,?_⟩
   refine RW.e 13 rfl e_not<|RW.e 14 rfl e_pick_t<|RW.done<|PO.next ?_
   refine WP.cond rfl (fun h3=>?_) (fun h3=>?_)
   ·replace h3:(fun x=>!lt32 d1[a]! x) (d1)[i2]! = true:=h3
    refine WP.skip<|PO.next<|WP.block<|WP.reg<|WL.e e_move<|WL.e (e_addN (b:=1))<|WL.e e_assign<|WL.nil<|PO.blockN ?_
    exact PO.againK (i2+1) ⟨by omega,by omega,by rw [← he1,up_step g h3]⟩ (by omega)
   ·replace h3:(fun x=>!lt32 d1[a]! x) (d1)[i2]! = false:=h3
    refine WP.exit<|PO.past nofun<|PO.round nofun<|PO.blockX ?_
    exact PO.meetK i2 ⟨hi1,hi2,by rw [← he1];exact up_stop (fun _=>h3),fun _=>h3⟩
  ·replace g:¬ (i2≤j):=by rw [decide_eq_false_iff_not] at g;omega
   refine RW.skip 4 rfl<|RW.skip 5 rfl<|RW.skip 6 rfl<|RW.skip 7 rfl<|RW.skip 8 rfl<|RW.skip 9 rfl<|RW.skip 10 rfl<|RW.skip 11 rfl<|RW.skip 12 rfl<|RW.skip 13 rfl<|RW.e 14 rfl e_pick_f<|RW.done<|PO.next<|WP.cond_f rfl<|WP.exit<|PO.past nofun<|PO.round nofun<|PO.blockX ?_
   exact PO.meetK i2 ⟨hi1,hi2,by rw [← he1];exact up_stop (fun h=>absurd h g),fun h=>absurd h g⟩
 ·rintro i2 ⟨i2a,i2b,i2e,i2s⟩
  refine WP.cutR (fun (z9:Nat)=>[(10,.int .i64 z9)]) (fun (z9:Nat)=>Sl 35 1 u32C u (d1).toList::R) [(0,_),(1,_),(8,_),(9,_)] (fun (z9:Nat)=>z9≤j∧i2≤z9+1∧scanDown (fun x=>lt32 d1[a]! x) d1 i2 (j)=z9∧(i2≤z9→(fun x=>lt32 d1[a]! x) d1[z9]! = false)) ?_ ?_
  ·skip
   refine WP.block<|WP.loopK (fun (z9:Nat)=>[(10,.int .i64 z9)]) (fun (z9:Nat)=>Sl 35 1 u32C u (d1).toList::R) [(0,_),(1,_),(8,_),(9,_)] (fun (z9:Nat)=>z9≤j∧i2≤z9+1∧scanDown (fun x=>lt32 d1[a]! x) d1 i2 z9=scanDown (fun x=>lt32 d1[a]! x) d1 i2 (j)) (fun (z9:Nat)=>z9) (j) (⟨Nat.le_refl _,by omega,rfl⟩) ?_
   rintro j2 ⟨hj1,hj2,he2⟩
   refine WP.seq<|WP.seq<|WP.draws mixedOk 14<|RW.e 0 rfl e_move<|RW.e 1 rfl e_move<|RW.e 2 rfl e_leq<|RW.e 3 rfl e_move ?_
   refine RW.bool 49 rfl (fun g=>?_) (fun g=>?_)
   ·replace g:i2≤j2:=by rw [decide_eq_true_eq] at g;omega
    refine RW.e 4 rfl e_move<|RW.e 5 rfl e_move<|RW.e 6 rfl (ea_ia sl33)<|RW.e 7 rfl (ea_load a35)<|RW.e 8 rfl e_move<|RW.e 9 rfl e_move<|RW.e 10 rfl (ea_ia sl33)<|RW.e 11 rfl (ea_load a35) ?_
    refine RW.any (is:=[12]) rfl ⟨?_,trivial⟩
    refine RWat.h rfl rfl rfl ?_
    refine (h_call (Less32_spec _ _) k243 ?_)
    refine ⟨trivial,?_⟩
    refine RW.e 13 rfl e_pick_t<|RW.done<|PO.next ?_
    refine WP.cond rfl (fun h3=>?_) (fun h3=>?_)
    ·replace h3:(fun x=>lt32 d1[a]! x) (d1)[j2]! = true:=h3
     refine WP.skip<|PO.next<|WP.block<|WP.reg<|WL.e e_move<|WL.e (e_subN (b:=1))<|WL.e e_assign<|WL.nil<|PO.blockN ?_
     exact PO.againK (j2 - 1) ⟨by omega,by omega,by rw [← he2,down_step (by omega) g h3]⟩ (by omega)
    ·replace h3:(fun x=>lt32 d1[a]! x) (d1)[j2]! = false:=h3
     refine WP.exit<|PO.past nofun<|PO.round nofun<|PO.blockX ?_
     exact PO.meetK j2 ⟨hj1,hj2,by rw [← he2];exact down_stop (fun _=>h3),fun _=>h3⟩
   ·replace g:¬ (i2≤j2):=by rw [decide_eq_false_iff_not] at g;omega
    refine RW.skip 4 rfl<|RW.skip 5 rfl<|RW.skip 6 rfl<|RW.skip 7 rfl<|RW.skip 8 rfl<|RW.skip 9 rfl<|RW.skip 10 rfl<|RW.skip 11 rfl<|RW.skip 12 rfl<|RW.e 13 rfl e_pick_f<|RW.done<|PO.next<|WP.cond_f rfl<|WP.exit<|PO.past nofun<|PO.round nofun<|PO.blockX ?_
    exact PO.meetK j2 ⟨hj1,hj2,by rw [← he2];exact down_stop (fun h=>absurd h g),fun h=>absurd h g⟩
  ·rintro j2 ⟨j2a,j2b,j2e,j2s⟩
   refine WP.seq<|WP.seq<|WP.reg<|WL.e e_move<|WL.e e_move<|WL.e e_gtr<|WL.next ?_
   refine WP.cond rfl (fun h6=>?_) (fun h6=>?_)
   ·replace h6:i2 > j2:=by rw [decide_eq_true_eq] at h6;omega
    refine WP.exit<|PO.past nofun<|PO.blockY rfl<|PO.round nofun<|PO.blockX<|PO.next<|WP.seq<|WP.reg<|WL.e e_move<|WL.e e_assign<|WL.next<|WP.ret ?_
    rw [hl4.symm.trans (parte_stop i2e j2e h6)] at hK
    exact PO.fin Tryz.results244 (rv_tmp rv_nil) hK
   ·replace h6:¬ (i2 > j2):=by rw [decide_eq_false_iff_not] at h6;omega
    refine WP.skip<|PO.next<|WP.seq<|WP.draws mixedOk 16<|RW.e 0 rfl e_move<|RW.e 1 rfl e_move<|RW.e 2 rfl e_move<|RW.e 3 rfl e_move<|RW.e 4 rfl e_move<|RW.e 5 rfl e_move<|RW.e 6 rfl (ea_ia sl33)<|RW.e 7 rfl (ea_load a35)<|RW.e 8 rfl e_move<|RW.e 9 rfl e_move<|RW.e 10 rfl (ea_ia sl33)<|RW.e 11 rfl (ea_load a35)<|RW.e 12 rfl (ea_ia sl33) ?_
    refine RW.any (is:=[13]) rfl ⟨?_,trivial⟩
    refine RWat.h' rfl rfl rfl ?_
    refine (ha_store s35 ?_)
    refine ⟨⟨⟨_,rfl,.inl ⟨rfl,e_move⟩⟩,⟨_,rfl,.inl ⟨rfl,e_move⟩⟩,trivial⟩,?_⟩
    refine RW.e 14 rfl (ea_ia sl33) ?_
    refine RW.any (is:=[15]) rfl ⟨?_,trivial⟩
    refine RWat.h' rfl rfl rfl ?_
    refine (ha_store s35 ?_)
    refine ⟨trivial,?_⟩
    refine RW.done<|PO.next<|WP.seq<|WP.reg<|WL.e e_move<|WL.e (e_addN (b:=1))<|WL.e e_assign<|WL.next<|WP.reg<|WL.e e_move<|WL.e (e_subN (b:=1))<|WL.e e_assign<|WL.nil<|PO.blockN ?_
    have hij2:i2 < j2:=by
     rcases Nat.lt_or_ge i2 j2 with h | h
     ·exact h
     ·obtain rfl:i2=j2:=by omega
      have e1:=nf (i2s (by omega))
      have e2:=j2s (Nat.le_refl _)
      simp only at e1 e2
      rw [e1] at e2;cases e2
    exact PO.againK (i2+1,j2 - 1,swp d1 i2 j2) ⟨by simp only [swp_size];omega,by simp only;omega,by simp only;omega,by simp only;omega,by simp only;rw [← hl4,parte_step i2e j2e h6 (by omega)]⟩ (by simp only;omega)
set_option maxHeartbeats 2000000 in
theorem PIns32_spec {g:World} {u:Value} (d:Array UInt32) (a b:Nat) (hab:a < b) (hb:b≤d.size) (hn:d.size≤68719476736):Spec Tryz.prog g 242 [u,.int .i64 a,.int .i64 b] [Sl 35 1 u32C u (d).toList] fun K R=>K (.bool (partialInsertionSort lt32 d a b).2) (Sl 35 1 u32C u ((partialInsertionSort lt32 d a b).1).toList::R):=by
 refine Spec.intro Tryz.func242 rfl Tryz.ntmps242 rfl fun R K hK=>?_
 refine WP.seq<|WP.reg<|WL.e e_assign<|WL.next<|WP.seq<|WP.reg<|WL.e e_move<|WL.e (e_addN (b:=1))<|WL.e e_assign<|WL.next<|WP.seq<|WP.seq<|WP.reg<|WL.e e_assign<|WL.next<|WP.block<|WP.loopK (fun (x:Nat × Nat × Array UInt32)=>[(8,.int .i64 ((5 - x.1:Nat):Int)),(7,.int .i64 x.2.1)]) (fun (x:Nat × Nat × Array UInt32)=>Sl 35 1 u32C u (x.2.2).toList::R) [(0,_),(1,_),(2,_)] (fun (x:Nat × Nat × Array UInt32)=>x.2.2.size=d.size∧x.1≤5∧a+1≤x.2.1∧x.2.1≤b∧partialIns lt32 a b x.1 x.2.1 x.2.2=partialInsertionSort lt32 d a b) (fun (x:Nat × Nat × Array UInt32)=>x.1) (5,a+1,d) (⟨rfl,Nat.le_refl _,by simp only;omega,by simp only;omega,rfl⟩) ?_
 rintro ⟨s,i,d1⟩ ⟨hs1,hl0,hl1,hl2,he⟩
 simp only at hs1 hl0 hl1 hl2 he
 dsimp only
 refine WP.seq<|WP.seq<|WP.reg<|WL.e e_move<|WL.e e_lss<|WL.next ?_
 refine WP.cond rfl (fun h1=>?_) (fun h1=>?_)
 ·replace h1:0 < s:=by rw [decide_eq_true_eq] at h1;omega
  refine WP.skip<|PO.next<|WP.seq<|WP.block ?_
  refine WP.cutR (fun (z9:Nat)=>[(7,.int .i64 z9)]) (fun (z9:Nat)=>Sl 35 1 u32C u (d1).toList::R) [(0,_),(1,_),(2,_),(8,_),(13,_),(14,_)] (fun (z9:Nat)=>i≤z9∧z9≤b∧scanSorted lt32 d1 b i=z9) ?_ ?_
  ·skip
   refine WP.block<|WP.loopK (fun (z9:Nat)=>[(7,.int .i64 z9)]) (fun (z9:Nat)=>Sl 35 1 u32C u (d1).toList::R) [(0,_),(1,_),(2,_),(8,_),(13,_),(14,_)] (fun (z9:Nat)=>i≤z9∧z9≤b∧scanSorted lt32 d1 b z9=scanSorted lt32 d1 b i) (fun (z9:Nat)=>b - z9) i (⟨Nat.le_refl _,hl2,rfl⟩) ?_
   rintro i2 ⟨hi1,hi2,he1⟩
   refine WP.seq<|WP.seq<|WP.draws mixedOk 16<|RW.e 0 rfl e_move<|RW.e 1 rfl e_move<|RW.e 2 rfl e_lss<|RW.e 3 rfl e_move ?_
   refine RW.bool 20 rfl (fun g=>?_) (fun g=>?_)
   ·replace g:i2 < b:=by rw [decide_eq_true_eq] at g;omega
    refine RW.e 4 rfl e_move<|RW.e 5 rfl e_move<|RW.e 6 rfl (ea_ia sl33)<|RW.e 7 rfl (ea_load a35)<|RW.e 8 rfl e_move<|RW.e 9 rfl e_move<|RW.e 10 rfl (e_subN (b:=1))<|RW.e 11 rfl (ea_ia sl33)<|RW.e 12 rfl (ea_load a35) ?_
    refine RW.any (is:=[13]) rfl ⟨?_,trivial⟩
    refine RWat.h rfl rfl rfl ?_
    refine (h_call (Less32_spec _ _) k243 ?_)
    refine ⟨trivial,?_⟩
    refine RW.e 14 rfl e_not<|RW.e 15 rfl e_pick_t<|RW.done<|PO.next ?_
    refine WP.cond rfl (fun h3=>?_) (fun h3=>?_)
    ·skip
     refine WP.skip<|PO.next<|WP.block<|WP.reg<|WL.e e_move<|WL.e (e_addN (b:=1))<|WL.e e_assign<|WL.nil<|PO.blockN ?_
     exact PO.againK (i2+1) ⟨by omega,by omega,by rw [← he1,sorted_step g (nt h3)]⟩ (by omega)
    ·skip
     refine WP.exit<|PO.past nofun<|PO.round nofun<|PO.blockX ?_
     exact PO.meetK i2 ⟨hi1,hi2,by rw [← he1];exact sorted_stop (fun _=>nf h3)⟩
   ·replace g:¬ (i2 < b):=by rw [decide_eq_false_iff_not] at g;omega
    refine RW.skip 4 rfl<|RW.skip 5 rfl<|RW.skip 6 rfl<|RW.skip 7 rfl<|RW.skip 8 rfl<|RW.skip 9 rfl<|RW.skip 10 rfl<|RW.skip 11 rfl<|RW.skip 12 rfl<|RW.skip 13 rfl<|RW.skip 14 rfl<|RW.e 15 rfl e_pick_f<|RW.done<|PO.next<|WP.cond_f rfl<|WP.exit<|PO.past nofun<|PO.round nofun<|PO.blockX ?_
    exact PO.meetK i2 ⟨hi1,hi2,by rw [← he1];exact sorted_stop (fun h=>absurd h g)⟩
  ·rintro i2 ⟨ia,ib,ie⟩
   refine WP.seq<|WP.seq<|WP.reg<|WL.e e_move<|WL.e e_move<|WL.e e_eql<|WL.next ?_
   refine WP.cond rfl (fun h5=>?_) (fun h5=>?_)
   ·replace h5:i2=b:=by have:=eq_of_beq h5;omega
    obtain ⟨s9,rfl⟩:∃ k,s=k+1:=⟨s - 1,by omega⟩
    rw [pins_t ie h5] at he
    rw [← he] at hK
    refine WP.seq<|WP.reg<|WL.e e_assign<|WL.next<|WP.ret<|PO.past nofun<|PO.blockR<|PO.past nofun<|PO.round nofun<|PO.blockR<|PO.past nofun ?_
    exact PO.fin Tryz.results242 (rv_tmp rv_nil) hK
   ·replace h5:¬ i2=b:=fun h=>by rw [h] at h5;simp at h5
    refine WP.skip<|PO.next<|WP.seq<|WP.seq<|WP.reg<|WL.e e_move<|WL.e e_move<|WL.e (e_subN)<|WL.e e_lss<|WL.next ?_
    refine WP.cond rfl (fun h6=>?_) (fun h6=>?_)
    ·replace h6:b - a < 50:=by rw [decide_eq_true_eq] at h6;omega
     obtain ⟨s9,rfl⟩:∃ k,s=k+1:=⟨s - 1,by omega⟩
     rw [pins_f ie h5 h6] at he
     rw [← he] at hK
     refine WP.seq<|WP.reg<|WL.e e_assign<|WL.next<|WP.ret<|PO.past nofun<|PO.blockR<|PO.past nofun<|PO.round nofun<|PO.blockR<|PO.past nofun ?_
     exact PO.fin Tryz.results242 (rv_tmp rv_nil) hK
    ·replace h6:¬ b - a < 50:=by rw [decide_eq_false_iff_not] at h6;omega
     refine WP.skip<|PO.next<|WP.seq<|WP.draws mixedOk 18<|RW.e 0 rfl e_move<|RW.e 1 rfl e_move<|RW.e 2 rfl e_move<|RW.e 3 rfl e_move<|RW.e 4 rfl (e_subN (b:=1))<|RW.e 5 rfl e_move<|RW.e 6 rfl e_move<|RW.e 7 rfl (e_subN (b:=1))<|RW.e 8 rfl (ea_ia sl33)<|RW.e 9 rfl (ea_load a35)<|RW.e 10 rfl e_move<|RW.e 11 rfl e_move<|RW.e 12 rfl (ea_ia sl33)<|RW.e 13 rfl (ea_load a35)<|RW.e 14 rfl (ea_ia sl33) ?_
     refine RW.any (is:=[15]) rfl ⟨?_,trivial⟩
     refine RWat.h' rfl rfl rfl ?_
     refine (ha_store s35 ?_)
     refine ⟨⟨⟨_,rfl,.inl ⟨rfl,(e_subN (b:=1))⟩⟩,⟨_,rfl,.inl ⟨rfl,e_move⟩⟩,⟨_,rfl,.inl ⟨rfl,e_move⟩⟩,trivial⟩,?_⟩
     refine RW.e 16 rfl (ea_ia sl33) ?_
     refine RW.any (is:=[17]) rfl ⟨?_,trivial⟩
     refine RWat.h' rfl rfl rfl ?_
     refine (ha_store s35 ?_)
     refine ⟨trivial,?_⟩
     refine RW.done<|PO.next ?_
     refine WP.cutR (fun (z:Array UInt32)=>[]) (fun (z:Array UInt32)=>Sl 35 1 u32C u (z).toList::R) [(0,_),(1,_),(2,_),(7,_),(8,_),(13,_),(14,_),(35,_),(36,_),(37,_),(38,_),(39,_),(40,_),(41,_),(42,_),(43,_),(44,_),(45,_),(46,_),(47,_),(48,_),(49,_),(50,_),(51,_),(52,_),(53,_),(54,_),(55,_),(56,_),(57,_)] (fun (z:Array UInt32)=>z.size=d.size∧(if i2 - a≥2 then shiftDown lt32 (i2 - 1) (swp d1 i2 (i2 - 1)) else (swp d1 i2 (i2 - 1)))=z) ?_ ?_
     ·skip
      refine WP.seq<|WP.reg<|WL.e e_move<|WL.e e_move<|WL.e (e_subN)<|WL.e e_geq<|WL.next ?_
      refine WP.cond rfl (fun h7=>?_) (fun h7=>?_)
      ·replace h7:i2 - a≥2:=by rw [decide_eq_true_eq] at h7;omega
       refine WP.seq<|WP.reg<|WL.e e_move<|WL.e (e_subN (b:=1))<|WL.e e_assign<|WL.next<|WP.block<|WP.loopK (fun (x:Nat × Array UInt32)=>[(9,.int .i64 x.1)]) (fun (x:Nat × Array UInt32)=>Sl 35 1 u32C u (x.2).toList::R) [(0,_),(1,_),(2,_),(7,_),(8,_),(13,_),(14,_),(35,_),(36,_),(37,_),(38,_),(39,_),(40,_),(41,_),(42,_),(43,_),(44,_),(45,_),(46,_),(47,_),(48,_),(49,_),(50,_),(51,_),(52,_),(53,_),(54,_),(55,_),(56,_),(57,_),(58,_),(59,_),(60,_),(61,_),(62,_),(63,_)] (fun (x:Nat × Array UInt32)=>x.2.size=d.size∧x.1≤i2 - 1∧shiftDown lt32 x.1 x.2=shiftDown lt32 (i2 - 1) (swp d1 i2 (i2 - 1))) (fun (x:Nat × Array UInt32)=>x.1) (i2 - 1,(swp d1 i2 (i2 - 1))) (⟨by simp only [swp_size];omega,Nat.le_refl _,rfl⟩) ?_
       rintro ⟨j,d4⟩ ⟨hs4,hj1,hj3⟩
       simp only at hs4 hj1 hj3
       dsimp only
       refine WP.seq<|WP.seq<|WP.reg<|WL.e e_move<|WL.e e_geq<|WL.next ?_
       refine WP.cond rfl (fun g2=>?_) (fun g2=>?_)
       ·replace g2:j≥1:=by rw [decide_eq_true_eq] at g2;omega
        refine WP.skip<|PO.next<|WP.seq<|WP.block<|WP.seq<|WP.seq<|WP.draws mixedOk 11<|RW.e 0 rfl e_move<|RW.e 1 rfl e_move<|RW.e 2 rfl (ea_ia sl33)<|RW.e 3 rfl (ea_load a35)<|RW.e 4 rfl e_move<|RW.e 5 rfl e_move<|RW.e 6 rfl (e_subN (b:=1))<|RW.e 7 rfl (ea_ia sl33)<|RW.e 8 rfl (ea_load a35) ?_
        refine RW.any (is:=[9]) rfl ⟨?_,trivial⟩
        refine RWat.h rfl rfl rfl ?_
        refine (h_call (Less32_spec _ _) k243 ?_)
        refine ⟨trivial,?_⟩
        refine RW.e 10 rfl e_not<|RW.done<|PO.next ?_
        refine WP.cond rfl (fun h9=>?_) (fun h9=>?_)
        ·skip
         refine WP.exit<|PO.past nofun<|PO.blockY rfl<|PO.past nofun<|PO.round nofun<|PO.blockX ?_
         exact PO.meetK d4 ⟨hs4,by rw [if_pos h7,← hj3,sdown_stop (fun _=>nt h9)]⟩
        ·skip
         refine WP.skip<|PO.next<|WP.draws mixedOk 18<|RW.e 0 rfl e_move<|RW.e 1 rfl e_move<|RW.e 2 rfl e_move<|RW.e 3 rfl e_move<|RW.e 4 rfl (e_subN (b:=1))<|RW.e 5 rfl e_move<|RW.e 6 rfl e_move<|RW.e 7 rfl (e_subN (b:=1))<|RW.e 8 rfl (ea_ia sl33)<|RW.e 9 rfl (ea_load a35)<|RW.e 10 rfl e_move<|RW.e 11 rfl e_move<|RW.e 12 rfl (ea_ia sl33)<|RW.e 13 rfl (ea_load a35)<|RW.e 14 rfl (ea_ia sl33) ?_
         refine RW.any (is:=[15]) rfl ⟨?_,trivial⟩
         refine RWat.h' rfl rfl rfl ?_
         refine (ha_store s35 ?_)
         refine ⟨⟨⟨_,rfl,.inl ⟨rfl,(e_subN (b:=1))⟩⟩,⟨_,rfl,.inl ⟨rfl,e_move⟩⟩,⟨_,rfl,.inl ⟨rfl,e_move⟩⟩,trivial⟩,?_⟩
         refine RW.e 16 rfl (ea_ia sl33) ?_
         refine RW.any (is:=[17]) rfl ⟨?_,trivial⟩
         refine RWat.h' rfl rfl rfl ?_
         refine (ha_store s35 ?_)
         refine ⟨trivial,?_⟩
         refine RW.done<|PO.blockN<|PO.next<|WP.reg<|WL.e e_move<|WL.e (e_subN (b:=1))<|WL.e e_assign<|WL.nil ?_
         exact PO.againK (j - 1,swp d4 j (j - 1)) ⟨by simp only [swp_size];omega,by simp only;omega,by simp only;rw [← hj3,sdown_step g2 (nf h9)]⟩ (by simp only;omega)
       ·replace g2:¬ (j≥1):=by rw [decide_eq_false_iff_not] at g2;omega
        refine WP.exit<|PO.past nofun<|PO.round nofun<|PO.blockX ?_
        exact PO.meetK d4 ⟨hs4,by rw [if_pos h7,← hj3,sdown_stop (fun h=>absurd h g2)]⟩
      ·replace h7:¬ (i2 - a≥2):=by rw [decide_eq_false_iff_not] at h7;omega
       refine WP.skip ?_
       exact PO.meetK (swp d1 i2 (i2 - 1)) ⟨by simp only [swp_size];omega,by rw [if_neg h7]⟩
     ·rintro d2 ⟨hs2,e2⟩
      refine WP.seq<|WP.reg<|WL.e e_move<|WL.e e_move<|WL.e (e_subN)<|WL.e e_geq<|WL.next ?_
      refine WP.cond rfl (fun h8=>?_) (fun h8=>?_)
      ·replace h8:b - i2≥2:=by rw [decide_eq_true_eq] at h8;omega
       refine WP.seq<|WP.reg<|WL.e e_move<|WL.e (e_addN (b:=1))<|WL.e e_assign<|WL.next<|WP.block<|WP.loopK (fun (x:Nat × Array UInt32)=>[(10,.int .i64 x.1)]) (fun (x:Nat × Array UInt32)=>Sl 35 1 u32C u (x.2).toList::R) [(0,_),(1,_),(2,_),(7,_),(8,_),(13,_),(14,_),(35,_),(36,_),(37,_),(38,_),(39,_),(40,_),(41,_),(42,_),(43,_),(44,_),(45,_),(46,_),(47,_),(48,_),(49,_),(50,_),(51,_),(52,_),(53,_),(54,_),(55,_),(56,_),(57,_),(95,_),(96,_),(97,_),(98,_),(99,_),(100,_)] (fun (x:Nat × Array UInt32)=>x.2.size=d.size∧i2+1≤x.1∧x.1≤b∧shiftUp lt32 b x.1 x.2=shiftUp lt32 b (i2+1) d2) (fun (x:Nat × Array UInt32)=>b - x.1) (i2+1,d2) (⟨hs2,Nat.le_refl _,by simp only;omega,rfl⟩) ?_
       rintro ⟨k,d3⟩ ⟨hs3,hk1,hk2,hk3⟩
       simp only at hs3 hk1 hk2 hk3
       dsimp only
       refine WP.seq<|WP.seq<|WP.reg<|WL.e e_move<|WL.e e_move<|WL.e e_lss<|WL.next ?_
       refine WP.cond rfl (fun g2=>?_) (fun g2=>?_)
       ·replace g2:k < b:=by rw [decide_eq_true_eq] at g2;omega
        refine WP.skip<|PO.next<|WP.seq<|WP.block<|WP.seq<|WP.seq<|WP.draws mixedOk 11<|RW.e 0 rfl e_move<|RW.e 1 rfl e_move<|RW.e 2 rfl (ea_ia sl33)<|RW.e 3 rfl (ea_load a35)<|RW.e 4 rfl e_move<|RW.e 5 rfl e_move<|RW.e 6 rfl (e_subN (b:=1))<|RW.e 7 rfl (ea_ia sl33)<|RW.e 8 rfl (ea_load a35) ?_
        refine RW.any (is:=[9]) rfl ⟨?_,trivial⟩
        refine RWat.h rfl rfl rfl ?_
        refine (h_call (Less32_spec _ _) k243 ?_)
        refine ⟨trivial,?_⟩
        refine RW.e 10 rfl e_not<|RW.done<|PO.next ?_
        refine WP.cond rfl (fun h9=>?_) (fun h9=>?_)
        ·skip
         refine WP.exit<|PO.past nofun<|PO.blockY rfl<|PO.past nofun<|PO.round nofun<|PO.blockX<|PO.blockN<|PO.next<|WP.reg<|WL.e e_move<|WL.e (e_add (c:=((5 - (s - 1):Nat):Int)) rfl rfl (by rw [w_i64 (by omega) (by omega)];omega))<|WL.e e_assign<|WL.nil ?_
         exact PO.againK (s - 1,i2,d3) ⟨by simp only;omega,by simp only;omega,by simp only;omega,by simp only;omega,by simp only;obtain ⟨s9,rfl⟩:∃ k,s=k+1:=⟨s - 1,by omega⟩;rw [Nat.add_sub_cancel,← he,pins_s ie h5 h6 e2 (by rw [if_pos h8,← hk3,sup_stop (fun _=>nt h9)])]⟩ (by simp only;omega)
        ·skip
         refine WP.skip<|PO.next<|WP.draws mixedOk 18<|RW.e 0 rfl e_move<|RW.e 1 rfl e_move<|RW.e 2 rfl e_move<|RW.e 3 rfl e_move<|RW.e 4 rfl (e_subN (b:=1))<|RW.e 5 rfl e_move<|RW.e 6 rfl e_move<|RW.e 7 rfl (e_subN (b:=1))<|RW.e 8 rfl (ea_ia sl33)<|RW.e 9 rfl (ea_load a35)<|RW.e 10 rfl e_move<|RW.e 11 rfl e_move<|RW.e 12 rfl (ea_ia sl33)<|RW.e 13 rfl (ea_load a35)<|RW.e 14 rfl (ea_ia sl33) ?_
         refine RW.any (is:=[15]) rfl ⟨?_,trivial⟩
         refine RWat.h' rfl rfl rfl ?_
         refine (ha_store s35 ?_)
         refine ⟨⟨⟨_,rfl,.inl ⟨rfl,(e_subN (b:=1))⟩⟩,⟨_,rfl,.inl ⟨rfl,e_move⟩⟩,⟨_,rfl,.inl ⟨rfl,e_move⟩⟩,trivial⟩,?_⟩
         refine RW.e 16 rfl (ea_ia sl33) ?_
         refine RW.any (is:=[17]) rfl ⟨?_,trivial⟩
         refine RWat.h' rfl rfl rfl ?_
         refine (ha_store s35 ?_)
         refine ⟨trivial,?_⟩
         refine RW.done<|PO.blockN<|PO.next<|WP.reg<|WL.e e_move<|WL.e (e_addN (b:=1))<|WL.e e_assign<|WL.nil ?_
         exact PO.againK (k+1,swp d3 k (k - 1)) ⟨by simp only [swp_size];omega,by simp only;omega,by simp only;omega,by simp only;rw [← hk3,sup_step g2 (nf h9)]⟩ (by simp only;omega)
       ·replace g2:¬ (k < b):=by rw [decide_eq_false_iff_not] at g2;omega
        refine WP.exit<|PO.past nofun<|PO.round nofun<|PO.blockX<|PO.blockN<|PO.next<|WP.reg<|WL.e e_move<|WL.e (e_add (c:=((5 - (s - 1):Nat):Int)) rfl rfl (by rw [w_i64 (by omega) (by omega)];omega))<|WL.e e_assign<|WL.nil ?_
        exact PO.againK (s - 1,i2,d3) ⟨by simp only;omega,by simp only;omega,by simp only;omega,by simp only;omega,by simp only;obtain ⟨s9,rfl⟩:∃ k,s=k+1:=⟨s - 1,by omega⟩;rw [Nat.add_sub_cancel,← he,pins_s ie h5 h6 e2 (by rw [if_pos h8,← hk3,sup_stop (fun h=>absurd h g2)])]⟩ (by simp only;omega)
      ·replace h8:¬ (b - i2≥2):=by rw [decide_eq_false_iff_not] at h8;omega
       refine WP.skip<|PO.blockN<|PO.next<|WP.reg<|WL.e e_move<|WL.e (e_add (c:=((5 - (s - 1):Nat):Int)) rfl rfl (by rw [w_i64 (by omega) (by omega)];omega))<|WL.e e_assign<|WL.nil ?_
       exact PO.againK (s - 1,i2,d2) ⟨by simp only;omega,by simp only;omega,by simp only;omega,by simp only;omega,by simp only;obtain ⟨s9,rfl⟩:∃ k,s=k+1:=⟨s - 1,by omega⟩;rw [Nat.add_sub_cancel,← he,pins_s ie h5 h6 e2 (by rw [if_neg h8])]⟩ (by simp only;omega)
 ·replace h1:¬ (0 < s):=by rw [decide_eq_false_iff_not] at h1;omega
  refine WP.exit<|PO.past nofun<|PO.round nofun<|PO.blockX<|PO.next<|WP.seq<|WP.reg<|WL.e e_assign<|WL.next<|WP.ret ?_
  obtain rfl:s=0:=by omega
  rw [← he] at hK
  exact PO.fin Tryz.results242 (rv_tmp rv_nil) hK
end Go.SL
namespace Go.SL.Fc
open Go Go.Proofs Go.SL
theorem a283:aggOf Tryz.prog 283=some none:=by kernel_rfl
theorem k129:callable Tryz.prog 129=true:=by kernel_rfl
theorem k179:callable Tryz.prog 179=true:=by kernel_rfl
theorem k181:callable Tryz.prog 181=true:=by kernel_rfl
theorem k182:callable Tryz.prog 182=true:=by kernel_rfl
theorem k237:callable Tryz.prog 237=true:=by kernel_rfl
theorem k238:callable Tryz.prog 238=true:=by kernel_rfl
theorem k239:callable Tryz.prog 239=true:=by kernel_rfl
theorem k240:callable Tryz.prog 240=true:=by kernel_rfl
theorem k241:callable Tryz.prog 241=true:=by kernel_rfl
theorem k242:callable Tryz.prog 242=true:=by kernel_rfl
theorem k244:callable Tryz.prog 244=true:=by kernel_rfl
theorem k245:callable Tryz.prog 245=true:=by kernel_rfl
theorem k80:callable Tryz.prog 80=true:=by kernel_rfl
theorem s283:szOf Tryz.prog 283=some 1:=by kernel_rfl
theorem z283:zeroOf Tryz.prog 283=some [.int .u64 0]:=by kernel_rfl
end Go.SL.Fc
namespace Go.SL
open Go Go.Proofs Fc
open Go.Sort
theorem L64_spec {g:World} (x:Nat) (hx:x < 18446744073709551616):Spec Tryz.prog g 129 [.int .u64 x] [] fun K R=>K (.int .i64 (bitsLen x:Nat)) R:=by
 refine Spec.intro Tryz.func129 rfl Tryz.ntmps129 rfl fun R K hK=>?_
 have hb:bitsLen x=0+bitsLen x:=by omega
 have hl:=hx
 have hn:=hx
 refine WP.seq<|WP.reg<|WL.e e_assign<|WL.next ?_
 refine WP.cutR (fun (z:Nat × Nat)=>[(0,.int .u64 z.1),(2,.int .i64 z.2)]) (fun (z:Nat × Nat)=>R) [] (fun (z:Nat × Nat)=>bitsLen x=z.2+bitsLen z.1∧z.1 < 4294967296∧z.2≤32) ?_ ?_
 ·skip
  refine WP.seq<|WP.reg<|WL.e e_move<|WL.e e_geq<|WL.next ?_
  refine WP.cond rfl (fun h1=>?_) (fun h1=>?_)
  ·replace h1:4294967296≤x:=by rw [decide_eq_true_eq] at h1;omega
   refine WP.seq<|WP.reg<|WL.e e_move<|WL.e (e_shr (c:=((x / 4294967296:Nat):Int)) rfl rfl (by decide) (by decide) (by simp))<|WL.e e_assign<|WL.next<|WP.reg<|WL.e e_assign<|WL.nil ?_
   exact PO.meetK (x / 4294967296,32) ⟨by simp only;rw [hb,bitsLen_shr 32 x h1];rw [show (2:Nat) ^ 32=4294967296 from rfl];omega,by simp only;omega,by simp only;omega⟩
  ·replace h1:¬ (4294967296≤x):=by rw [decide_eq_false_iff_not] at h1;omega
   refine WP.skip ?_
   exact PO.meetK (x,0) ⟨hb,by simp only;omega,by simp only;omega⟩
 ·clear hb hl hn
  rintro ⟨x1,n1⟩ ⟨hb,hl,hn⟩
  simp only at hb hl hn
  dsimp only
  refine WP.cutR (fun (z:Nat × Nat)=>[(0,.int .u64 z.1),(2,.int .i64 z.2)]) (fun (z:Nat × Nat)=>R) [] (fun (z:Nat × Nat)=>bitsLen x=z.2+bitsLen z.1∧z.1 < 65536∧z.2≤48) ?_ ?_
  ·skip
   refine WP.seq<|WP.reg<|WL.e e_move<|WL.e e_geq<|WL.next ?_
   refine WP.cond rfl (fun h1=>?_) (fun h1=>?_)
   ·replace h1:65536≤x1:=by rw [decide_eq_true_eq] at h1;omega
    refine WP.seq<|WP.reg<|WL.e e_move<|WL.e (e_shr (c:=((x1 / 65536:Nat):Int)) rfl rfl (by decide) (by decide) (by simp))<|WL.e e_assign<|WL.next<|WP.reg<|WL.e e_move<|WL.e (e_addN (b:=16))<|WL.e e_assign<|WL.nil ?_
    exact PO.meetK (x1 / 65536,n1+16) ⟨by simp only;rw [hb,bitsLen_shr 16 x1 h1];rw [show (2:Nat) ^ 16=65536 from rfl];omega,by simp only;omega,by simp only;omega⟩
   ·replace h1:¬ (65536≤x1):=by rw [decide_eq_false_iff_not] at h1;omega
    refine WP.skip ?_
    exact PO.meetK (x1,n1) ⟨hb,by simp only;omega,by simp only;omega⟩
  ·clear hb hl hn
   rintro ⟨x2,n2⟩ ⟨hb,hl,hn⟩
   simp only at hb hl hn
   dsimp only
   refine WP.cutR (fun (z:Nat × Nat)=>[(0,.int .u64 z.1),(2,.int .i64 z.2)]) (fun (z:Nat × Nat)=>R) [] (fun (z:Nat × Nat)=>bitsLen x=z.2+bitsLen z.1∧z.1 < 256∧z.2≤56) ?_ ?_
   ·skip
    refine WP.seq<|WP.reg<|WL.e e_move<|WL.e e_geq<|WL.next ?_
    refine WP.cond rfl (fun h1=>?_) (fun h1=>?_)
    ·replace h1:256≤x2:=by rw [decide_eq_true_eq] at h1;omega
     refine WP.seq<|WP.reg<|WL.e e_move<|WL.e (e_shr (c:=((x2 / 256:Nat):Int)) rfl rfl (by decide) (by decide) (by simp))<|WL.e e_assign<|WL.next<|WP.reg<|WL.e e_move<|WL.e (e_addN (b:=8))<|WL.e e_assign<|WL.nil ?_
     exact PO.meetK (x2 / 256,n2+8) ⟨by simp only;rw [hb,bitsLen_shr 8 x2 h1];rw [show (2:Nat) ^ 8=256 from rfl];omega,by simp only;omega,by simp only;omega⟩
    ·replace h1:¬ (256≤x2):=by rw [decide_eq_false_iff_not] at h1;omega
     refine WP.skip ?_
     exact PO.meetK (x2,n2) ⟨hb,by simp only;omega,by simp only;omega⟩
   ·clear hb hl hn
    rintro ⟨x3,n3⟩ ⟨hb,hl,hn⟩
    simp only at hb hl hn
    dsimp only
    refine WP.seq<|WP.reg<|WL.e e_move<|WL.e e_move<|WL.e (e_conv (c:=((x3:Nat):Int)) (by rw [Tryz.underlying193];rfl) Tryz.underlying5 rfl (by rw [wu8,UInt8.toNat_ofNat'];congr 1;omega))<|WL.e (e_idxS (n:=x3) (b:=UInt8.ofNat (bitsLen x3)) Tryz.underlying9 (hb:=tab_all _ (by kernel_rfl) hl))<|WL.e (e_conv (c:=((bitsLen x3:Nat):Int)) (by rw [Tryz.underlying5];rfl) Tryz.underlying3 rfl (by have h9:bitsLen x3≤8:=bitsLen_lt (k:=8) hl;rw [UInt8.toNat_ofNat',Nat.mod_eq_of_lt (by omega)];exact w_i64 (by omega) (by omega)))<|WL.e (e_addN (h:=by have h9:bitsLen x3≤8:=bitsLen_lt (k:=8) hl;omega))<|WL.e e_assign<|WL.next<|WP.ret ?_
    rw [show bitsLen x=n3+bitsLen x3 from hb] at hK
    exact PO.fin Tryz.results129 (rv_tmp rv_nil) hK
theorem L_spec {g:World} (x:Nat) (hx:x < 18446744073709551616):Spec Tryz.prog g 80 [.int .u64 x] [] fun K R=>K (.int .i64 (bitsLen x:Nat)) R:=by
 refine Spec.intro Tryz.func80 rfl Tryz.ntmps80 rfl fun R K hK=>?_
 refine WP.seq<|WP.reg<|WL.e e_assign<|WL.next<|WP.seq<|WP.cond_f rfl<|WP.skip<|PO.next<|WP.seq<|WP.reg<|WL.e e_move ?_
 refine WL.h (h_call (L64_spec x hx) k129 ?_)
 refine WL.e e_assign<|WL.next<|WP.ret ?_
 exact PO.fin Tryz.results80 (rv_tmp rv_nil) hK
theorem NP2_spec {g:World} (x:Nat) (hx:x≤68719476736):Spec Tryz.prog g 181 [.int .i64 x] [] fun K R=>K (.int .u64 ((2 ^ bitsLen x:Nat):Int)) R:=by
 refine Spec.intro Tryz.func181 rfl Tryz.ntmps181 rfl fun R K hK=>?_
 refine WP.seq<|WP.reg<|WL.e e_assign<|WL.next<|WP.seq<|WP.reg<|WL.e e_move<|WL.e (e_conv (c:=((x:Nat):Int)) (by rw [Tryz.underlying3];rfl) Tryz.underlying148 rfl (by rw [wu64,UInt64.toNat_ofNat'];congr 1;omega)) ?_
 refine WL.h (h_call (L_spec x (by omega)) k80 ?_)
 refine WL.e (e_shl (c:=((2 ^ bitsLen x:Nat):Int)) rfl rfl (by omega) (by have h9:bitsLen x≤37:=bitsLen_lt (k:=37) (by omega);simp only [IntKind.bits];omega) (by have h9:bitsLen x≤37:=bitsLen_lt (k:=37) (by omega);have h10:2 ^ bitsLen x≤2 ^ 37:=Nat.pow_le_pow_right (by decide) h9;rw [Int.one_mul,Int.toNat_natCast,show ((2:Int) ^ bitsLen x)=((2 ^ bitsLen x:Nat):Int) by simp,wu64,UInt64.toNat_ofNat',Nat.mod_eq_of_lt (by omega)]))<|WL.e e_assign<|WL.next<|WP.ret ?_
 exact PO.fin Tryz.results181 (rv_tmp rv_nil) hK
theorem Xor_spec {g:World} {q:Nat} (r:UInt64):Spec Tryz.prog g 182 [.pointer (some ⟨q,0,none⟩)] [cl q 283 [.int .u64 (r).toNat]] fun K R=>K (.int .u64 (xorNext r).toNat) (cl q 283 [.int .u64 (xorNext r).toNat]::R):=by
 refine Spec.intro Tryz.func182 rfl Tryz.ntmps182 rfl fun R K hK=>?_
 refine WP.seq<|WP.reg<|WL.e e_assign<|WL.next<|WP.seq<|WP.draws mixedOk 10<|RW.e 0 rfl e_move<|RW.e 1 rfl e_nil<|RW.e 2 rfl (e_load a283)<|RW.e 3 rfl e_move<|RW.e 4 rfl e_nil<|RW.e 5 rfl (e_load a283)<|RW.e 6 rfl (e_shl64 (m:=13) (by decide))<|RW.e 7 rfl e_xor64<|RW.e 8 rfl e_nil ?_
 refine RW.any (is:=[9]) rfl ⟨?_,trivial⟩
 refine RWat.h' rfl rfl rfl ?_
 refine (h_store s283 ?_)
 refine ⟨trivial,?_⟩
 refine RW.done<|PO.next<|WP.seq<|WP.draws mixedOk 10<|RW.e 0 rfl e_move<|RW.e 1 rfl e_nil<|RW.e 2 rfl (e_load a283)<|RW.e 3 rfl e_move<|RW.e 4 rfl e_nil<|RW.e 5 rfl (e_load a283)<|RW.e 6 rfl (e_shr64 (m:=7) (by decide))<|RW.e 7 rfl e_xor64<|RW.e 8 rfl e_nil ?_
 refine RW.any (is:=[9]) rfl ⟨?_,trivial⟩
 refine RWat.h' rfl rfl rfl ?_
 refine (h_store s283 ?_)
 refine ⟨trivial,?_⟩
 refine RW.done<|PO.next<|WP.seq<|WP.draws mixedOk 10<|RW.e 0 rfl e_move<|RW.e 1 rfl e_nil<|RW.e 2 rfl (e_load a283)<|RW.e 3 rfl e_move<|RW.e 4 rfl e_nil<|RW.e 5 rfl (e_load a283)<|RW.e 6 rfl (e_shl64 (m:=17) (by decide))<|RW.e 7 rfl e_xor64<|RW.e 8 rfl e_nil ?_
 refine RW.any (is:=[9]) rfl ⟨?_,trivial⟩
 refine RWat.h' rfl rfl rfl ?_
 refine (h_store s283 ?_)
 refine ⟨trivial,?_⟩
 refine RW.done<|PO.next<|WP.seq<|WP.reg<|WL.e e_move<|WL.e e_nil<|WL.e (e_load a283)<|WL.e e_assign<|WL.next<|WP.ret ?_
 exact PO.fin Tryz.results182 (rv_tmp rv_nil) hK
set_option maxHeartbeats 2000000 in
theorem Brk32_spec {g:World} {u:Value} (d:Array UInt32) (a b:Nat) (hab:a < b) (hb:b≤d.size) (hn:d.size≤68719476736):Spec Tryz.prog g 239 [u,.int .i64 a,.int .i64 b] [Sl 35 1 u32C u (d).toList] fun K R=>K (.tuple #[]) (Sl 35 1 u32C u (breakPatterns d a b).toList::R):=by
 refine Spec.intro Tryz.func239 rfl Tryz.ntmps239 rfl fun R K hK=>?_
 refine WP.seq<|WP.reg<|WL.e e_move<|WL.e e_move<|WL.e (e_subN)<|WL.e e_assign<|WL.next<|WP.seq<|WP.reg<|WL.e e_move<|WL.e e_geq<|WL.next ?_
 refine WP.cond rfl (fun h1=>?_) (fun h1=>?_)
 ·replace h1:b - a≥8:=by rw [decide_eq_true_eq] at h1;omega
  have hp:=bitsLen_pow (x:=b - a) (by omega)
  refine WP.seq<|WP.reg<|WL.e e_move<|WL.e (e_conv (c:=((UInt64.ofNat (b - a)).toNat:Int)) (by rw [Tryz.underlying3];rfl) Tryz.underlying283 rfl (wu64 _)) ?_
  refine WL.h (h_alloc z283 fun b1=>?_)
  refine WL.h' (h_store s283 ?_)
  refine WL.next<|WP.seq<|WP.reg<|WL.e e_move ?_
  refine WL.h (h_call (NP2_spec (b - a) (by omega)) k181 ?_)
  refine WL.e e_assign<|WL.next<|WP.seq<|WP.reg<|WL.e e_move<|WL.e e_move<|WL.e (e_quoN (b:=4))<|WL.e (e_mulN (b:=2))<|WL.e (e_addN)<|WL.e (e_subN (b:=1))<|WL.e e_assign<|WL.next<|WP.block<|WP.loopK (fun (x:Nat × UInt64 × Array UInt32)=>[(9,.int .i64 (((a+(b - a) / 4 * 2 - 1)+x.1:Nat):Int))]) (fun (x:Nat × UInt64 × Array UInt32)=>Sl 35 1 u32C u (x.2.2).toList::cl b1 283 [.int .u64 x.2.1.toNat]::R) [(0,_),(1,_),(6,_),(7,_),(8,_)] (fun (x:Nat × UInt64 × Array UInt32)=>x.2.2.size=d.size∧x.1≤3∧x.2=brk a (b - a) (2 ^ bitsLen (b - a)) (UInt64.ofNat (b - a),d) (a+(b - a) / 4 * 2 - 1) x.1) (fun (x:Nat × UInt64 × Array UInt32)=>3 - x.1) (0,UInt64.ofNat (b - a),d) (⟨rfl,Nat.zero_le _,rfl⟩) ?_
  rintro ⟨k,s1,d1⟩ ⟨hs1,hk,he⟩
  simp only at hs1 hk he
  dsimp only
  refine WP.seq<|WP.seq<|WP.reg<|WL.e e_move<|WL.e e_move<|WL.e e_move<|WL.e (e_quoN (b:=4))<|WL.e (e_mulN (b:=2))<|WL.e (e_addN)<|WL.e (e_addN (b:=1))<|WL.e e_leq<|WL.next ?_
  refine WP.cond rfl (fun h2=>?_) (fun h2=>?_)
  ·replace h2:k < 3:=by rw [decide_eq_true_eq] at h2;omega
   refine WP.skip<|PO.next<|WP.seq<|WP.block<|WP.seq<|WP.reg ?_
   refine WL.h (h_call (Xor_spec s1) k182 ?_)
   obtain ⟨ot,hot⟩:∃ o,(xorNext s1).toNat &&& ((2 ^ bitsLen (b - a)) - 1)=o:=⟨_,rfl⟩
   have hol:ot≤(2 ^ bitsLen (b - a)) - 1:=by rw [← hot];exact Nat.and_le_right
   refine WL.e e_move<|WL.e (e_sub (c:=(((2 ^ bitsLen (b - a)) - 1:Nat):Int)) rfl rfl (by have h0:0 < (2 ^ bitsLen (b - a)):=Nat.two_pow_pos _;rw [show (((2 ^ bitsLen (b - a)):Nat):Int) - 1=(((2 ^ bitsLen (b - a)) - 1:Nat):Int) by omega,wu64,UInt64.toNat_ofNat',Nat.mod_eq_of_lt (by omega)]))<|WL.e (e_and64 (m:=(2 ^ bitsLen (b - a)) - 1) (by omega))<|WL.e (e_conv (c:=((ot:Nat):Int)) (by rw [Tryz.underlying148];rfl) Tryz.underlying3 rfl (by rw [hot];exact w_i64 (by omega) (by omega)))<|WL.e e_assign<|WL.next<|WP.seq<|WP.seq<|WP.reg<|WL.e e_move<|WL.e e_move<|WL.e e_geq<|WL.next ?_
   refine WP.cond rfl (fun h3=>?_) (fun h3=>?_)
   ·replace h3:ot≥b - a:=by rw [decide_eq_true_eq] at h3;omega
    refine WP.reg<|WL.e e_move<|WL.e e_move<|WL.e (e_subN)<|WL.e e_assign<|WL.next<|WP.draws mixedOk 20<|RW.e 0 rfl e_move<|RW.e 1 rfl e_move<|RW.e 2 rfl e_move<|RW.e 3 rfl e_move<|RW.e 4 rfl e_move<|RW.e 5 rfl (e_addN)<|RW.e 6 rfl e_move<|RW.e 7 rfl e_move<|RW.e 8 rfl e_move<|RW.e 9 rfl (e_addN)<|RW.e 10 rfl (ea_ia sl33)<|RW.e 11 rfl (ea_load a35)<|RW.e 12 rfl e_move<|RW.e 13 rfl e_move<|RW.e 14 rfl (ea_ia sl33)<|RW.e 15 rfl (ea_load a35)<|RW.e 16 rfl (ea_ia sl33) ?_
    refine RW.any (is:=[17]) rfl ⟨?_,trivial⟩
    refine RWat.h' rfl rfl rfl ?_
    refine (ha_store s35 ?_)
    refine ⟨⟨⟨_,rfl,.inl ⟨rfl,(e_addN)⟩⟩,⟨_,rfl,.inl ⟨rfl,e_move⟩⟩,⟨_,rfl,.inl ⟨rfl,e_move⟩⟩,⟨_,rfl,.inl ⟨rfl,e_move⟩⟩,trivial⟩,?_⟩
    refine RW.e 18 rfl (ea_ia sl33) ?_
    refine RW.any (is:=[19]) rfl ⟨?_,trivial⟩
    refine RWat.h' rfl rfl rfl ?_
    refine (ha_store s35 ?_)
    refine ⟨trivial,?_⟩
    refine RW.done<|PO.blockN<|PO.next<|WP.reg<|WL.e e_move<|WL.e (e_addN (a:=(a+(b - a) / 4 * 2 - 1)+k) (b:=1))<|WL.e e_assign<|WL.nil ?_
    exact PO.againK (k+1,xorNext s1,swp d1 ((a+(b - a) / 4 * 2 - 1)+k) (a+(ot - (b - a)))) ⟨by simp only [swp_size];omega,by simp only;omega,by simp only;show _=breakStep _ _ _ (brk a (b - a) (2 ^ bitsLen (b - a)) (UInt64.ofNat (b - a),d) (a+(b - a) / 4 * 2 - 1) k) _;rw [← he];simp only [breakStep];rw [show (xorNext s1).toNat &&& ((2 ^ bitsLen (b - a)) - 1)=ot from hot,if_pos h3]⟩ (by simp only;omega)
   ·replace h3:¬ (ot≥b - a):=by rw [decide_eq_false_iff_not] at h3;omega
    refine WP.skip<|PO.next<|WP.draws mixedOk 20<|RW.e 0 rfl e_move<|RW.e 1 rfl e_move<|RW.e 2 rfl e_move<|RW.e 3 rfl e_move<|RW.e 4 rfl e_move<|RW.e 5 rfl (e_addN)<|RW.e 6 rfl e_move<|RW.e 7 rfl e_move<|RW.e 8 rfl e_move<|RW.e 9 rfl (e_addN)<|RW.e 10 rfl (ea_ia sl33)<|RW.e 11 rfl (ea_load a35)<|RW.e 12 rfl e_move<|RW.e 13 rfl e_move<|RW.e 14 rfl (ea_ia sl33)<|RW.e 15 rfl (ea_load a35)<|RW.e 16 rfl (ea_ia sl33) ?_
    refine RW.any (is:=[17]) rfl ⟨?_,trivial⟩
    refine RWat.h' rfl rfl rfl ?_
    refine (ha_store s35 ?_)
    refine ⟨⟨⟨_,rfl,.inl ⟨rfl,(e_addN)⟩⟩,⟨_,rfl,.inl ⟨rfl,e_move⟩⟩,⟨_,rfl,.inl ⟨rfl,e_move⟩⟩,⟨_,rfl,.inl ⟨rfl,e_move⟩⟩,trivial⟩,?_⟩
    refine RW.e 18 rfl (ea_ia sl33) ?_
    refine RW.any (is:=[19]) rfl ⟨?_,trivial⟩
    refine RWat.h' rfl rfl rfl ?_
    refine (ha_store s35 ?_)
    refine ⟨trivial,?_⟩
    refine RW.done<|PO.blockN<|PO.next<|WP.reg<|WL.e e_move<|WL.e (e_addN (b:=1))<|WL.e e_assign<|WL.nil ?_
    exact PO.againK (k+1,xorNext s1,swp d1 ((a+(b - a) / 4 * 2 - 1)+k) (a+(ot))) ⟨by simp only [swp_size];omega,by simp only;omega,by simp only;show _=breakStep _ _ _ (brk a (b - a) (2 ^ bitsLen (b - a)) (UInt64.ofNat (b - a),d) (a+(b - a) / 4 * 2 - 1) k) _;rw [← he];simp only [breakStep];rw [show (xorNext s1).toNat &&& ((2 ^ bitsLen (b - a)) - 1)=ot from hot,if_neg h3]⟩ (by simp only;omega)
  ·obtain rfl:k=3:=by rw [decide_eq_false_iff_not] at h2;omega
   rw [brk_eq h1,← he] at hK
   refine WP.exit<|PO.past nofun<|PO.round nofun<|PO.blockX ?_
   exact PO.fin Tryz.results239 rv_nil hK
 ·replace h1:¬ b - a≥8:=by rw [decide_eq_false_iff_not] at h1;omega
  rw [brk_no h1] at hK
  refine WP.skip ?_
  exact PO.fin Tryz.results239 rv_nil hK
set_option maxHeartbeats 4000000 in
theorem Pdq32r_spec {g:World} {u:Value} (m:Nat):∀ (d:Array UInt32) (a b limit:Nat),b - a≤m→a≤b→b≤d.size→d.size≤68719476736→limit≤1000→Below lt32 a b d→Spec Tryz.prog g 179 [u,.int .i64 a,.int .i64 b,.int .i64 limit] [Sl 35 1 u32C u (d).toList] fun K R=>∀ d',PermIn a b d d'→SortedIn lt32 a b d'→K (.tuple #[]) (Sl 35 1 u32C u (d').toList::R):=by
 refine Nat.strongRecOn m (fun m ih=>?_)
 intro d a b limit hm hab hb hn hlim hbel
 refine Spec.intro Tryz.func179 rfl Tryz.ntmps179 rfl fun R K hK=>?_
 refine WP.seq<|WP.reg<|WL.e e_assign<|WL.next<|WP.seq<|WP.reg<|WL.e e_assign<|WL.next<|WP.block<|WP.loopK (fun (x:Nat × Nat × Nat × Bool × Bool × Array UInt32)=>[(1,.int .i64 x.1),(2,.int .i64 x.2.1),(3,.int .i64 x.2.2.1),(8,.bool x.2.2.2.1),(9,.bool x.2.2.2.2.1)]) (fun (x:Nat × Nat × Nat × Bool × Bool × Array UInt32)=>Sl 35 1 u32C u (x.2.2.2.2.2).toList::R) [(0,_)] (fun (x:Nat × Nat × Nat × Bool × Bool × Array UInt32)=>x.1≤x.2.1∧x.2.1≤d.size∧x.2.2.2.2.2.size=d.size∧x.2.2.1≤limit∧x.2.1 - x.1≤m∧Below lt32 x.1 x.2.1 x.2.2.2.2.2∧∀ R',PermIn x.1 x.2.1 x.2.2.2.2.2 R'→SortedIn lt32 x.1 x.2.1 R'→PermIn a b d R'∧SortedIn lt32 a b R') (fun (x:Nat × Nat × Nat × Bool × Bool × Array UInt32)=>x.2.1 - x.1) (a,b,limit,true,true,d) (⟨hab,hb,rfl,Nat.le_refl _,hm,hbel,fun R h1 h2=>⟨h1,h2⟩⟩) ?_
 rintro ⟨a1,b1,l1,wb,wp,d1⟩ ⟨hab1,hb1,hs1,hl1,hm1,hbe1,hC⟩
 simp only at hab1 hb1 hs1 hl1 hm1 hbe1 hC
 dsimp only
 refine WP.block<|WP.seq<|WP.reg<|WL.e e_move<|WL.e e_move<|WL.e (e_subN)<|WL.e e_assign<|WL.next<|WP.seq<|WP.seq<|WP.reg<|WL.e e_move<|WL.e e_leq<|WL.next ?_
 refine WP.cond rfl (fun h1=>?_) (fun h1=>?_)
 ·replace h1:b1 - a1≤12:=by rw [decide_eq_true_eq] at h1;omega
  refine WP.seq<|WP.reg<|WL.e e_move<|WL.e e_move<|WL.e e_move ?_
  refine WL.h (h_call (Ins32_spec d1 a1 b1 (by omega) (by omega) (by omega)) k237 ?_)
  obtain ⟨k1,k2⟩:=insertionSort_holds swo32 d1 a1 b1 hab1 (by omega)
  refine WL.next<|WP.ret<|PO.past nofun<|PO.blockR<|PO.round nofun<|PO.blockR ?_
  exact PO.fin Tryz.results179 rv_nil (hK _ (hC _ k1 k2).1 (hC _ k1 k2).2)
 ·replace h1:¬ (b1 - a1≤12):=by rw [decide_eq_false_iff_not] at h1;omega
  refine WP.skip<|PO.next<|WP.seq<|WP.seq<|WP.reg<|WL.e e_move<|WL.e e_eql<|WL.next ?_
  refine WP.cond rfl (fun h2=>?_) (fun h2=>?_)
  ·skip
   refine WP.seq<|WP.reg<|WL.e e_move<|WL.e e_move<|WL.e e_move ?_
   refine WL.h (h_call (Heap32_spec d1 a1 b1 (by omega) (by omega) (by omega)) k238 ?_)
   obtain ⟨k1,k2⟩:=heapSort_holds swo32 d1 a1 b1 hab1 (by omega)
   refine WL.next<|WP.ret<|PO.past nofun<|PO.blockR<|PO.round nofun<|PO.blockR ?_
   exact PO.fin Tryz.results179 rv_nil (hK _ (hC _ k1 k2).1 (hC _ k1 k2).2)
  ·skip
   refine WP.skip<|PO.next ?_
   refine WP.cutR (fun (z:Nat × Array UInt32)=>[(3,.int .i64 z.1)]) (fun (z:Nat × Array UInt32)=>Sl 35 1 u32C u (z.2).toList::R) [(0,_),(1,_),(2,_),(8,_),(9,_),(10,_),(19,_),(20,_),(21,_),(22,_),(23,_),(28,_),(29,_)] (fun (z:Nat × Array UInt32)=>z.1≤limit∧PermIn a1 b1 d1 z.2) ?_ ?_
   ·skip
    refine WP.seq<|WP.reg<|WL.e e_move<|WL.e e_not<|WL.next ?_
    refine WP.cond rfl (fun h3=>?_) (fun h3=>?_)
    ·replace h2:¬ l1=0:=fun h=>by rw [h] at h2;exact absurd h2 (by decide)
     refine WP.seq<|WP.reg<|WL.e e_move<|WL.e e_move<|WL.e e_move ?_
     refine WL.h (h_call (Brk32_spec d1 a1 b1 (by omega) (by omega) (by omega)) k239 ?_)
     refine WL.next<|WP.reg<|WL.e e_move<|WL.e (e_subN (b:=1))<|WL.e e_assign<|WL.nil ?_
     exact PO.meetK (l1 - 1,breakPatterns d1 a1 b1) ⟨by simp only;omega,breakPatterns_holds d1 a1 b1 hab1 (by omega)⟩
    ·skip
     refine WP.skip ?_
     exact PO.meetK (l1,d1) ⟨hl1,permIn_refl _ _ _⟩
   ·rintro ⟨l2,d2⟩ ⟨hl2,p12⟩
    simp only at hl2 p12
    dsimp only
    have hs2:d2.size=d1.size:=p12.1
    refine WP.seq<|WP.reg<|WL.e e_move<|WL.e e_move<|WL.e e_move ?_
    refine WL.h (h_call (Piv32_spec d2 a1 b1 (by omega) (by omega) (by omega)) k240 ?_)
    obtain ⟨hv1,hv2⟩:=choosePivot_holds lt32 d2 a1 b1 (by omega)
    generalize (choosePivot lt32 d2 a1 b1).1=p at hv1 hv2 ⊢
    generalize hv (choosePivot lt32 d2 a1 b1).2=hn1
    refine WL.e e_move<|WL.e e_extract<|WL.e e_extract<|WL.e e_assign<|WL.e e_assign<|WL.next ?_
    refine WP.cutR (fun (z:Nat × Nat × Array UInt32)=>[(11,.int .i64 z.1),(12,.int .i64 z.2.1)]) (fun (z:Nat × Nat × Array UInt32)=>Sl 35 1 u32C u (z.2.2).toList::R) [(0,_),(1,_),(2,_),(3,_),(8,_),(9,_),(10,_),(19,_),(20,_),(21,_),(22,_),(23,_),(28,_),(29,_),(42,_),(43,_),(44,_),(45,_),(46,_),(47,_),(48,_)] (fun (z:Nat × Nat × Array UInt32)=>a1≤z.1∧z.1 < b1∧PermIn a1 b1 d2 z.2.2) ?_ ?_
    ·skip
     refine WP.seq<|WP.reg<|WL.e e_move<|WL.e e_eql<|WL.next ?_
     refine WP.cond rfl (fun h4=>?_) (fun h4=>?_)
     ·skip
      refine WP.seq<|WP.reg<|WL.e e_move<|WL.e e_move<|WL.e e_move ?_
      refine WL.h (h_call (Rev32_spec d2 a1 b1 (by omega) (by omega) (by omega)) k241 ?_)
      refine WL.next<|WP.seq<|WP.reg<|WL.e e_move<|WL.e (e_subN (b:=1))<|WL.e e_move<|WL.e e_move<|WL.e (e_subN)<|WL.e (e_subN)<|WL.e e_assign<|WL.next<|WP.reg<|WL.e e_assign<|WL.nil ?_
      exact PO.meetK (b1 - 1 - (p - a1),1,reverseRange d2 a1 b1) ⟨by simp only;omega,by simp only;omega,reverseRange_holds d2 a1 b1 hab1 (by omega)⟩
     ·skip
      refine WP.skip ?_
      exact PO.meetK (p,hn1,d2) ⟨hv1,hv2,permIn_refl _ _ _⟩
    ·rintro ⟨p3,hn3,d3⟩ ⟨hp1,hp2,p23⟩
     simp only at hp1 hp2 p23
     dsimp only
     have hs3:d3.size=d2.size:=p23.1
     have B3:Below lt32 a1 b1 d3:=(hbe1.perm (by omega) p12).perm (by omega) p23
     refine WP.cutR (fun (z:Array UInt32)=>[]) (fun (z:Array UInt32)=>Sl 35 1 u32C u (z).toList::R) [(0,_),(1,_),(2,_),(3,_),(8,_),(9,_),(10,_),(11,_),(12,_),(19,_),(20,_),(21,_),(22,_),(23,_),(28,_),(29,_),(42,_),(43,_),(44,_),(45,_),(46,_),(47,_),(48,_)] (fun (z:Array UInt32)=>PermIn a1 b1 d3 z) ?_ ?_
     ·skip
      refine WP.seq<|WP.reg<|WL.e e_move<|WL.e e_move ?_
      refine WL.bool 62 rfl (fun w1=>?_) (fun w1=>?_)
      ·skip
       refine WL.e e_move<|WL.e e_pick_t<|WL.e e_move ?_
       refine WL.bool 65 rfl (fun w2=>?_) (fun w2=>?_)
       ·skip
        refine WL.e e_move<|WL.e e_eql<|WL.e e_pick_t<|WL.next ?_
        refine WP.cond rfl (fun h6=>?_) (fun h6=>?_)
        ·skip
         refine WP.seq<|WP.reg<|WL.e e_move<|WL.e e_move<|WL.e e_move ?_
         refine WL.h (h_call (PIns32_spec d3 a1 b1 (by omega) (by omega) (by omega)) k242 ?_)
         obtain ⟨k1,k2⟩:=partialInsertionSort_holds swo32 d3 a1 b1 (by omega) (by omega) B3
         refine WL.next ?_
         refine WP.cond rfl (fun h7=>?_) (fun h7=>?_)
         ·skip
          refine WP.ret<|PO.round nofun<|PO.blockR<|PO.round nofun<|PO.blockR ?_
          exact PO.fin Tryz.results179 rv_nil (hK _ (hC _ (permIn_trans _ _ _ _ _ p12 (permIn_trans _ _ _ _ _ p23 k1)) (k2 h7)).1 (hC _ (permIn_trans _ _ _ _ _ p12 (permIn_trans _ _ _ _ _ p23 k1)) (k2 h7)).2)
         ·skip
          refine WP.skip ?_
          exact PO.meetK _ k1
        ·skip
         refine WP.skip ?_
         exact PO.meetK d3 (permIn_refl _ _ _)
       ·skip
        refine WL.skip<|WL.skip<|WL.e e_pick_f<|WL.next<|WP.cond_f rfl<|WP.skip ?_
        exact PO.meetK d3 (permIn_refl _ _ _)
      ·skip
       refine WL.skip<|WL.e e_pick_f<|WL.e e_move<|WL.skip<|WL.skip<|WL.e e_pick_f<|WL.next<|WP.cond_f rfl<|WP.skip ?_
       exact PO.meetK d3 (permIn_refl _ _ _)
     ·rintro d4 p34
      have hs4:d4.size=d3.size:=p34.1
      have B4:Below lt32 a1 b1 d4:=B3.perm (by omega) p34
      refine WP.cutR (fun (_:Unit)=>[(1,.int .i64 a1)]) (fun (_:Unit)=>Sl 35 1 u32C u (d4).toList::R) [(0,_),(2,_),(3,_),(8,_),(9,_),(10,_),(11,_),(12,_),(19,_),(20,_),(21,_),(22,_),(23,_),(28,_),(29,_),(42,_),(43,_),(44,_),(45,_),(46,_),(47,_),(48,_)] (fun (_:Unit)=>True) ?_ ?_
      ·skip
       refine WP.seq<|WP.draws mixedOk 15<|RW.e 0 rfl e_move<|RW.e 1 rfl e_gtr<|RW.e 2 rfl e_move ?_
       refine RW.bool 75 rfl (fun g=>?_) (fun g=>?_)
       ·replace g:a1 > 0:=by rw [decide_eq_true_eq] at g;omega
        refine RW.e 3 rfl e_move<|RW.e 4 rfl e_move<|RW.e 5 rfl (e_subN (b:=1))<|RW.e 6 rfl (ea_ia sl33)<|RW.e 7 rfl (ea_load a35)<|RW.e 8 rfl e_move<|RW.e 9 rfl e_move<|RW.e 10 rfl (ea_ia sl33)<|RW.e 11 rfl (ea_load a35) ?_
        refine RW.any (is:=[12]) rfl ⟨?_,trivial⟩
        refine RWat.h rfl rfl rfl ?_
        refine (h_call (Less32_spec _ _) k243 ?_)
        refine ⟨trivial,?_⟩
        refine RW.e 13 rfl e_not<|RW.e 14 rfl e_pick_t<|RW.done<|PO.next ?_
        refine WP.cond rfl (fun h8=>?_) (fun h8=>?_)
        ·replace h8:=nt h8
         refine WP.seq<|WP.reg<|WL.e e_move<|WL.e e_move<|WL.e e_move<|WL.e e_move ?_
         refine WL.h (h_call (PartE32_spec d4 a1 b1 p3 hp1 hp2 (by omega) (by omega)) k244 ?_)
         rcases he:partitionEqual lt32 d4 a1 b1 p3 with ⟨mid,d5⟩
         obtain ⟨q1,q2,q3,q4,q5⟩:=round_eq swo32 (partitionEqual_holds lt32) g hp1 hp2 (by omega) B4 h8 he
         dsimp only
         refine WL.e e_assign<|WL.next<|WP.seq<|WP.reg<|WL.e e_move<|WL.e e_assign<|WL.next<|WP.exit<|PO.round nofun<|PO.blockX ?_
         exact PO.againK (mid,b1,l2,wb,wp,d5) ⟨by simp only;omega,by simp only;omega,by simp only;omega,by simp only;omega,by simp only;omega,q4,fun R' h1 h2=>hC R' (permIn_trans _ _ _ _ _ (permIn_trans _ _ _ _ _ p12 (permIn_trans _ _ _ _ _ p23 p34)) (q5 R' h1 h2).1) (q5 R' h1 h2).2⟩ (by simp only;omega)
        ·skip
         refine WP.skip ?_
         exact PO.meetK () trivial
       ·skip
        refine RW.skip 3 rfl<|RW.skip 4 rfl<|RW.skip 5 rfl<|RW.skip 6 rfl<|RW.skip 7 rfl<|RW.skip 8 rfl<|RW.skip 9 rfl<|RW.skip 10 rfl<|RW.skip 11 rfl<|RW.skip 12 rfl<|RW.skip 13 rfl<|RW.e 14 rfl e_pick_f<|RW.done<|PO.next<|WP.cond_f rfl<|WP.skip ?_
        exact PO.meetK () trivial
      ·intro _ _
       refine WP.seq<|WP.reg<|WL.e e_move<|WL.e e_move<|WL.e e_move<|WL.e e_move ?_
       refine WL.h (h_call (Part32_spec d4 a1 b1 p3 hp1 hp2 (by omega) (by omega)) k245 ?_)
       rcases he:partition lt32 d4 a1 b1 p3 with ⟨mid,alr,d5⟩
       obtain ⟨q1,q2,q3,q4,q5,q6,q7⟩:=round_part swo32 (partition_holds lt32) hp1 hp2 (by omega) B4 he
       dsimp only
       refine WL.e e_move<|WL.e e_extract<|WL.e e_extract<|WL.e e_assign<|WL.e e_assign<|WL.next<|WP.seq<|WP.reg<|WL.e e_move<|WL.e e_assign<|WL.next<|WP.seq<|WP.reg<|WL.e e_move<|WL.e e_move<|WL.e (e_subN)<|WL.e e_move<|WL.e e_move<|WL.e (e_subN)<|WL.e e_assign<|WL.e e_assign<|WL.next<|WP.seq<|WP.reg ?_
       refine WL.e e_move<|WL.e (e_quoN (b:=8))<|WL.e e_assign<|WL.next<|WP.seq<|WP.reg<|WL.e e_move<|WL.e e_move<|WL.e e_lss<|WL.next ?_
       refine WP.cond rfl (fun h9=>?_) (fun h9=>?_)
       ·replace h9:mid - a1 < b1 - mid:=by rw [decide_eq_true_eq] at h9;omega
        refine WP.seq<|WP.reg<|WL.e e_move<|WL.e e_move<|WL.e e_geq<|WL.e e_assign<|WL.next<|WP.seq<|WP.reg<|WL.e e_move<|WL.e e_move<|WL.e e_move<|WL.e e_move ?_
        refine WL.h (h_call (ih (mid - a1) (by omega) d5 a1 mid l2 (Nat.le_refl _) (by omega) (by omega) (by omega) (by omega) q4) k179 ?_)
        intro d6 r1 r2
        have hs6:d6.size=d5.size:=r1.1
        refine WL.next<|WP.reg<|WL.e e_move<|WL.e (e_addN (b:=1))<|WL.e e_assign<|WL.nil<|PO.blockN ?_
        exact PO.againK ((mid+1),b1,l2,(decide (((mid - a1:Nat):Int)≥(((b1 - a1) / 8:Nat):Int))),alr,d6) ⟨by simp only;omega,by simp only;omega,by simp only;omega,by simp only;omega,by simp only;omega,(q6 d6 r1 r2).1,fun R' h1 h2=>hC R' (permIn_trans _ _ _ _ _ (permIn_trans _ _ _ _ _ p12 (permIn_trans _ _ _ _ _ p23 p34)) ((q6 d6 r1 r2).2 R' h1 h2).1) ((q6 d6 r1 r2).2 R' h1 h2).2⟩ (by simp only;omega)
       ·replace h9:¬ (mid - a1 < b1 - mid):=by rw [decide_eq_false_iff_not] at h9;omega
        refine WP.seq<|WP.reg<|WL.e e_move<|WL.e e_move<|WL.e e_geq<|WL.e e_assign<|WL.next<|WP.seq<|WP.reg<|WL.e e_move<|WL.e e_move<|WL.e (e_addN (b:=1))<|WL.e e_move<|WL.e e_move ?_
        refine WL.h (h_call (ih (b1 - (mid+1)) (by omega) d5 (mid+1) b1 l2 (Nat.le_refl _) (by omega) (by omega) (by omega) (by omega) q5) k179 ?_)
        intro d6 r1 r2
        have hs6:d6.size=d5.size:=r1.1
        refine WL.next<|WP.reg<|WL.e e_move<|WL.e e_assign<|WL.nil<|PO.blockN ?_
        exact PO.againK (a1,mid,l2,(decide (((b1 - mid:Nat):Int)≥(((b1 - a1) / 8:Nat):Int))),alr,d6) ⟨by simp only;omega,by simp only;omega,by simp only;omega,by simp only;omega,by simp only;omega,(q7 d6 r1 r2).1,fun R' h1 h2=>hC R' (permIn_trans _ _ _ _ _ (permIn_trans _ _ _ _ _ p12 (permIn_trans _ _ _ _ _ p23 p34)) ((q7 d6 r1 r2).2 R' h1 h2).1) ((q7 d6 r1 r2).2 R' h1 h2).2⟩ (by simp only;omega)
theorem Sort32_spec {g:World} {u:Value} (xs:List UInt32) (hn:xs.length≤68719476736):Spec Tryz.prog g 117 [u] [Sl 35 1 u32C u xs] fun K R=>∀ ys,ys.Perm xs→(ys.Pairwise fun x y=>x≤y)→K (.tuple #[]) (Sl 35 1 u32C u ys::R):=by
 refine Spec.intro Tryz.func117 rfl Tryz.ntmps117 rfl fun R K hK=>?_
 refine WP.seq<|WP.reg<|WL.e e_move<|WL.e (el_len (xs:=xs) (enc:=u32C) sl33 sl_rl)<|WL.e e_assign<|WL.next<|WP.reg<|WL.e e_move<|WL.e e_move<|WL.e e_move<|WL.e (e_conv (c:=((xs.length:Nat):Int)) (by rw [Tryz.underlying3];rfl) Tryz.underlying148 rfl (by rw [wu64,UInt64.toNat_ofNat'];congr 1;omega)) ?_
 refine WL.h (h_call (L_spec xs.length (by omega)) k80 ?_)
 refine WL.h (h_call (Pdq32r_spec xs.length xs.toArray 0 xs.length (bitsLen xs.length) (by omega) (Nat.zero_le _) (by simp) (by simpa using hn) (by have:=bitsLen_lt (k:=37) (x:=xs.length) (by omega);omega) (Or.inl rfl)) k179 ?_)
 intro d' p1 p2
 obtain ⟨p3,p4⟩:=sort_done p1 p2
 refine WL.nil ?_
 exact PO.fin Tryz.results117 rv_nil (hK _ p3 p4)
end Go.SL
namespace Go.SL.VO
open Go Go.Proofs Go.SL
end Go.SL.VO
namespace Go.SL
open Go Go.Proofs VO
def idC (t:TxT):List Value:=u32C t.id
theorem idE:EncOk 1 idC:=⟨fun _=>rfl,fun _=>rfl⟩
end Go.SL
