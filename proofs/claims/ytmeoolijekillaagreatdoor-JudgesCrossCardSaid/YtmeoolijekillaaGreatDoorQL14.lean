import Derived.Test.YtmeoolijekillaaGreatDoorQL13
set_option linter.unusedSimpArgs false
set_option linter.unusedVariables false
namespace Go.SL.Fc
end Go.SL.Fc
namespace Go.SL
open Go Go.Proofs Fc
open Go.Sort
set_option maxHeartbeats 2000000 in
theorem Part32_spec {g:World} {u:Value} (d:Array UInt32) (a b pv:Nat) (h1:a≤pv) (h2:pv < b) (hb:b≤d.size) (hn:d.size≤68719476736):Spec Tryz.prog g 245 [u,.int .i64 a,.int .i64 b,.int .i64 pv] [Sl 35 1 u32C u (d).toList] fun K R=>K (.tuple #[.int .i64 ((partition lt32 d a b pv).1:Nat),.bool (partition lt32 d a b pv).2.1]) (Sl 35 1 u32C u ((partition lt32 d a b pv).2.2).toList::R):=by
 refine Spec.intro Tryz.func245 rfl Tryz.ntmps245 rfl fun R K hK=>?_
 refine WP.seq<|WP.reg<|WL.e e_assign<|WL.e e_assign<|WL.next<|WP.seq<|WP.draws mixedOk 16<|RW.e 0 rfl e_move<|RW.e 1 rfl e_move<|RW.e 2 rfl e_move<|RW.e 3 rfl e_move<|RW.e 4 rfl e_move<|RW.e 5 rfl e_move<|RW.e 6 rfl (ea_ia sl33)<|RW.e 7 rfl (ea_load a35)<|RW.e 8 rfl e_move<|RW.e 9 rfl e_move<|RW.e 10 rfl (ea_ia sl33)<|RW.e 11 rfl (ea_load a35)<|RW.e 12 rfl (ea_ia sl33) ?_
 refine RW.any (is:=[13]) rfl ⟨?_,trivial⟩
 refine RWat.h' rfl rfl rfl ?_
 refine (ha_store s35 ?_)
 refine ⟨⟨⟨_,rfl,.inl ⟨rfl,e_move⟩⟩,⟨_,rfl,.inl ⟨rfl,e_move⟩⟩,trivial⟩,?_⟩
 refine RW.e 14 rfl (ea_ia sl33) ?_
 refine RW.any (is:=[15]) rfl ⟨?_,trivial⟩
 refine RWat.h' rfl rfl rfl ?_
 refine (ha_store s35 ?_)
 refine ⟨trivial,?_⟩
 refine RW.done<|PO.next<|WP.seq<|WP.reg<|WL.e e_move<|WL.e (e_addN (b:=1))<|WL.e e_move<|WL.e (e_subN (b:=1))<|WL.e e_assign<|WL.e e_assign<|WL.next ?_
 refine WP.cutR (fun (z9:Nat)=>[(10,.int .i64 z9)]) (fun (z9:Nat)=>Sl 35 1 u32C u ((swp d a pv)).toList::R) [(0,_),(1,_),(8,_),(9,_),(11,_)] (fun (z9:Nat)=>a+1≤z9∧z9≤(b - 1)+1∧scanUp (fun x=>lt32 x (swp d a pv)[a]!) (swp d a pv) (b - 1) (a+1)=z9∧(z9≤(b - 1)→(fun x=>lt32 x (swp d a pv)[a]!) (swp d a pv)[z9]! = false)) ?_ ?_
 ·skip
  refine WP.block<|WP.loopK (fun (z9:Nat)=>[(10,.int .i64 z9)]) (fun (z9:Nat)=>Sl 35 1 u32C u ((swp d a pv)).toList::R) [(0,_),(1,_),(8,_),(9,_),(11,_)] (fun (z9:Nat)=>a+1≤z9∧z9≤(b - 1)+1∧scanUp (fun x=>lt32 x (swp d a pv)[a]!) (swp d a pv) (b - 1) z9=scanUp (fun x=>lt32 x (swp d a pv)[a]!) (swp d a pv) (b - 1) (a+1)) (fun (z9:Nat)=>(b - 1)+1 - z9) (a+1) (⟨Nat.le_refl _,by omega,rfl⟩) ?_
  rintro i1 ⟨hi1,hi2,he1⟩
  refine WP.seq<|WP.seq<|WP.draws mixedOk 14<|RW.e 0 rfl e_move<|RW.e 1 rfl e_move<|RW.e 2 rfl e_leq<|RW.e 3 rfl e_move ?_
  refine RW.bool 33 rfl (fun g=>?_) (fun g=>?_)
  ·replace g:i1≤(b - 1):=by rw [decide_eq_true_eq] at g;omega
   refine RW.e 4 rfl e_move<|RW.e 5 rfl e_move<|RW.e 6 rfl (ea_ia sl33)<|RW.e 7 rfl (ea_load a35)<|RW.e 8 rfl e_move<|RW.e 9 rfl e_move<|RW.e 10 rfl (ea_ia sl33)<|RW.e 11 rfl (ea_load a35) ?_
   refine RW.any (is:=[12]) rfl ⟨?_,trivial⟩
   refine RWat.h rfl rfl rfl ?_
   refine (h_call (Less32_spec _ _) k243 ?_)
   refine ⟨trivial,?_⟩
   refine RW.e 13 rfl e_pick_t<|RW.done<|PO.next ?_
   refine WP.cond rfl (fun h3=>?_) (fun h3=>?_)
   ·replace h3:(fun x=>lt32 x (swp d a pv)[a]!) ((swp d a pv))[i1]! = true:=h3
    refine WP.skip<|PO.next<|WP.block<|WP.reg<|WL.e e_move<|WL.e (e_addN (b:=1))<|WL.e e_assign<|WL.nil<|PO.blockN ?_
    exact PO.againK (i1+1) ⟨by omega,by omega,by rw [← he1,up_step g h3]⟩ (by omega)
   ·replace h3:(fun x=>lt32 x (swp d a pv)[a]!) ((swp d a pv))[i1]! = false:=h3
    refine WP.exit<|PO.past nofun<|PO.round nofun<|PO.blockX ?_
    exact PO.meetK i1 ⟨hi1,hi2,by rw [← he1];exact up_stop (fun _=>h3),fun _=>h3⟩
  ·replace g:¬ (i1≤(b - 1)):=by rw [decide_eq_false_iff_not] at g;omega
   refine RW.skip 4 rfl<|RW.skip 5 rfl<|RW.skip 6 rfl<|RW.skip 7 rfl<|RW.skip 8 rfl<|RW.skip 9 rfl<|RW.skip 10 rfl<|RW.skip 11 rfl<|RW.skip 12 rfl<|RW.e 13 rfl e_pick_f<|RW.done<|PO.next<|WP.cond_f rfl<|WP.exit<|PO.past nofun<|PO.round nofun<|PO.blockX ?_
   exact PO.meetK i1 ⟨hi1,hi2,by rw [← he1];exact up_stop (fun h=>absurd h g),fun h=>absurd h g⟩
 ·rintro i1 ⟨i1a,i1b,i1e,i1s⟩
  refine WP.cutR (fun (z9:Nat)=>[(11,.int .i64 z9)]) (fun (z9:Nat)=>Sl 35 1 u32C u ((swp d a pv)).toList::R) [(0,_),(1,_),(8,_),(9,_),(10,_)] (fun (z9:Nat)=>z9≤b - 1∧i1≤z9+1∧scanDown (fun x=>!lt32 x (swp d a pv)[a]!) (swp d a pv) i1 (b - 1)=z9∧(i1≤z9→(fun x=>!lt32 x (swp d a pv)[a]!) (swp d a pv)[z9]! = false)) ?_ ?_
  ·skip
   refine WP.block<|WP.loopK (fun (z9:Nat)=>[(11,.int .i64 z9)]) (fun (z9:Nat)=>Sl 35 1 u32C u ((swp d a pv)).toList::R) [(0,_),(1,_),(8,_),(9,_),(10,_)] (fun (z9:Nat)=>z9≤b - 1∧i1≤z9+1∧scanDown (fun x=>!lt32 x (swp d a pv)[a]!) (swp d a pv) i1 z9=scanDown (fun x=>!lt32 x (swp d a pv)[a]!) (swp d a pv) i1 (b - 1)) (fun (z9:Nat)=>z9) (b - 1) (⟨Nat.le_refl _,by omega,rfl⟩) ?_
   rintro j1 ⟨hj1,hj2,he2⟩
   refine WP.seq<|WP.seq<|WP.draws mixedOk 15<|RW.e 0 rfl e_move<|RW.e 1 rfl e_move<|RW.e 2 rfl e_leq<|RW.e 3 rfl e_move ?_
   refine RW.bool 49 rfl (fun g=>?_) (fun g=>?_)
   ·replace g:i1≤j1:=by rw [decide_eq_true_eq] at g;omega
    refine RW.e 4 rfl e_move<|RW.e 5 rfl e_move<|RW.e 6 rfl (ea_ia sl33)<|RW.e 7 rfl (ea_load a35)<|RW.e 8 rfl e_move<|RW.e 9 rfl e_move<|RW.e 10 rfl (ea_ia sl33)<|RW.e 11 rfl (ea_load a35) ?_
    refine RW.any (is:=[12]) rfl ⟨?_,trivial⟩
    refine RWat.h rfl rfl rfl ?_
    refine (h_call (Less32_spec _ _) k243 ?_)
    refine ⟨trivial,?_⟩
    refine RW.e 13 rfl e_not<|RW.e 14 rfl e_pick_t<|RW.done<|PO.next ?_
    refine WP.cond rfl (fun h3=>?_) (fun h3=>?_)
    ·replace h3:(fun x=>!lt32 x (swp d a pv)[a]!) ((swp d a pv))[j1]! = true:=h3
     refine WP.skip<|PO.next<|WP.block<|WP.reg<|WL.e e_move<|WL.e (e_subN (b:=1))<|WL.e e_assign<|WL.nil<|PO.blockN ?_
     exact PO.againK (j1 - 1) ⟨by omega,by omega,by rw [← he2,down_step (by omega) g h3]⟩ (by omega)
    ·replace h3:(fun x=>!lt32 x (swp d a pv)[a]!) ((swp d a pv))[j1]! = false:=h3
     refine WP.exit<|PO.past nofun<|PO.round nofun<|PO.blockX ?_
     exact PO.meetK j1 ⟨hj1,hj2,by rw [← he2];exact down_stop (fun _=>h3),fun _=>h3⟩
   ·replace g:¬ (i1≤j1):=by rw [decide_eq_false_iff_not] at g;omega
    refine RW.skip 4 rfl<|RW.skip 5 rfl<|RW.skip 6 rfl<|RW.skip 7 rfl<|RW.skip 8 rfl<|RW.skip 9 rfl<|RW.skip 10 rfl<|RW.skip 11 rfl<|RW.skip 12 rfl<|RW.skip 13 rfl<|RW.e 14 rfl e_pick_f<|RW.done<|PO.next<|WP.cond_f rfl<|WP.exit<|PO.past nofun<|PO.round nofun<|PO.blockX ?_
    exact PO.meetK j1 ⟨hj1,hj2,by rw [← he2];exact down_stop (fun h=>absurd h g),fun h=>absurd h g⟩
  ·rintro j1 ⟨j1a,j1b,j1e,j1s⟩
   refine WP.seq<|WP.seq<|WP.reg<|WL.e e_move<|WL.e e_move<|WL.e e_gtr<|WL.next ?_
   refine WP.cond rfl (fun h5=>?_) (fun h5=>?_)
   ·replace h5:i1 > j1:=by rw [decide_eq_true_eq] at h5;omega
    refine WP.seq<|WP.draws mixedOk 16<|RW.e 0 rfl e_move<|RW.e 1 rfl e_move<|RW.e 2 rfl e_move<|RW.e 3 rfl e_move<|RW.e 4 rfl e_move<|RW.e 5 rfl e_move<|RW.e 6 rfl (ea_ia sl33)<|RW.e 7 rfl (ea_load a35)<|RW.e 8 rfl e_move<|RW.e 9 rfl e_move<|RW.e 10 rfl (ea_ia sl33)<|RW.e 11 rfl (ea_load a35)<|RW.e 12 rfl (ea_ia sl33) ?_
    refine RW.any (is:=[13]) rfl ⟨?_,trivial⟩
    refine RWat.h' rfl rfl rfl ?_
    refine (ha_store s35 ?_)
    refine ⟨⟨⟨_,rfl,.inl ⟨rfl,e_move⟩⟩,⟨_,rfl,.inl ⟨rfl,e_move⟩⟩,trivial⟩,?_⟩
    refine RW.e 14 rfl (ea_ia sl33) ?_
    refine RW.any (is:=[15]) rfl ⟨?_,trivial⟩
    refine RWat.h' rfl rfl rfl ?_
    refine (ha_store s35 ?_)
    refine ⟨trivial,?_⟩
    refine RW.done<|PO.next<|WP.seq<|WP.reg<|WL.e e_move<|WL.e e_assign<|WL.e e_assign<|WL.next<|WP.ret<|PO.past nofun ?_
    rw [partition_t rfl i1e j1e h5] at hK
    exact PO.fin Tryz.results245 (rv_tmp (rv_tmp rv_nil)) hK
   ·replace h5:¬ (i1 > j1):=by rw [decide_eq_false_iff_not] at h5;omega
    refine WP.skip<|PO.next<|WP.seq<|WP.draws mixedOk 16<|RW.e 0 rfl e_move<|RW.e 1 rfl e_move<|RW.e 2 rfl e_move<|RW.e 3 rfl e_move<|RW.e 4 rfl e_move<|RW.e 5 rfl e_move<|RW.e 6 rfl (ea_ia sl33)<|RW.e 7 rfl (ea_load a35)<|RW.e 8 rfl e_move<|RW.e 9 rfl e_move<|RW.e 10 rfl (ea_ia sl33)<|RW.e 11 rfl (ea_load a35)<|RW.e 12 rfl (ea_ia sl33) ?_
    refine RW.any (is:=[13]) rfl ⟨?_,trivial⟩
    refine RWat.h' rfl rfl rfl ?_
    refine (ha_store s35 ?_)
    refine ⟨⟨⟨_,rfl,.inl ⟨rfl,e_move⟩⟩,⟨_,rfl,.inl ⟨rfl,e_move⟩⟩,trivial⟩,?_⟩
    refine RW.e 14 rfl (ea_ia sl33) ?_
    refine RW.any (is:=[15]) rfl ⟨?_,trivial⟩
    refine RWat.h' rfl rfl rfl ?_
    refine (ha_store s35 ?_)
    refine ⟨trivial,?_⟩
    refine RW.done<|PO.next<|WP.seq<|WP.reg<|WL.e e_move<|WL.e (e_addN (b:=1))<|WL.e e_assign<|WL.next<|WP.seq<|WP.reg<|WL.e e_move<|WL.e (e_subN (b:=1))<|WL.e e_assign<|WL.next<|WP.seq<|WP.block ?_
    have hij:i1 < j1:=by
     rcases Nat.lt_or_ge i1 j1 with h | h
     ·exact h
     ·obtain rfl:i1=j1:=by omega
      have e1:=i1s (by omega)
      have e2:=nf (j1s (Nat.le_refl _))
      simp only at e1 e2
      rw [e1] at e2;cases e2
    refine WP.loopK (fun (x:Nat × Nat × Array UInt32)=>[(10,.int .i64 x.1),(11,.int .i64 x.2.1)]) (fun (x:Nat × Nat × Array UInt32)=>Sl 35 1 u32C u (x.2.2).toList::R) [(0,_),(1,_),(8,_),(9,_)] (fun (x:Nat × Nat × Array UInt32)=>x.2.2.size=d.size∧a+1≤x.1∧x.1≤x.2.1+1∧x.2.1 < b∧partLoop lt32 a x.1 x.2.1 x.2.2=partLoop lt32 a (i1+1) (j1 - 1) (swp (swp d a pv) i1 j1)) (fun (x:Nat × Nat × Array UInt32)=>x.2.1+1 - x.1) (i1+1,j1 - 1,swp (swp d a pv) i1 j1) (⟨by simp only [swp_size],by simp only;omega,by simp only;omega,by simp only;omega,rfl⟩) ?_
    rintro ⟨i,j,d1⟩ ⟨hs1,hl1,hl2,hl3,hl4⟩
    simp only at hs1 hl1 hl2 hl3 hl4
    dsimp only
    refine WP.block ?_
    refine WP.cutR (fun (z9:Nat)=>[(10,.int .i64 z9)]) (fun (z9:Nat)=>Sl 35 1 u32C u (d1).toList::R) [(0,_),(1,_),(8,_),(9,_),(11,_)] (fun (z9:Nat)=>i≤z9∧z9≤j+1∧scanUp (fun x=>lt32 x d1[a]!) d1 j (i)=z9∧(z9≤j→(fun x=>lt32 x d1[a]!) d1[z9]! = false)) ?_ ?_
    ·skip
     refine WP.block<|WP.loopK (fun (z9:Nat)=>[(10,.int .i64 z9)]) (fun (z9:Nat)=>Sl 35 1 u32C u (d1).toList::R) [(0,_),(1,_),(8,_),(9,_),(11,_)] (fun (z9:Nat)=>i≤z9∧z9≤j+1∧scanUp (fun x=>lt32 x d1[a]!) d1 j z9=scanUp (fun x=>lt32 x d1[a]!) d1 j (i)) (fun (z9:Nat)=>j+1 - z9) (i) (⟨Nat.le_refl _,by omega,rfl⟩) ?_
     rintro i2 ⟨hi1,hi2,he1⟩
     refine WP.seq<|WP.seq<|WP.draws mixedOk 14<|RW.e 0 rfl e_move<|RW.e 1 rfl e_move<|RW.e 2 rfl e_leq<|RW.e 3 rfl e_move ?_
     refine RW.bool 102 rfl (fun g=>?_) (fun g=>?_)
     ·replace g:i2≤j:=by rw [decide_eq_true_eq] at g;omega
      refine RW.e 4 rfl e_move<|RW.e 5 rfl e_move<|RW.e 6 rfl (ea_ia sl33)<|RW.e 7 rfl (ea_load a35)<|RW.e 8 rfl e_move<|RW.e 9 rfl e_move<|RW.e 10 rfl (ea_ia sl33)<|RW.e 11 rfl (ea_load a35) ?_
      refine RW.any (is:=[12]) rfl ⟨?_,trivial⟩
      refine RWat.h rfl rfl rfl ?_
      refine (h_call (Less32_spec _ _) k243 ?_)
      refine ⟨trivial,?_⟩
      refine RW.e 13 rfl e_pick_t<|RW.done<|PO.next ?_
      refine WP.cond rfl (fun h3=>?_) (fun h3=>?_)
      ·replace h3:(fun x=>lt32 x d1[a]!) (d1)[i2]! = true:=h3
       refine WP.skip<|PO.next<|WP.block<|WP.reg<|WL.e e_move<|WL.e (e_addN (b:=1))<|WL.e e_assign<|WL.nil<|PO.blockN ?_
       exact PO.againK (i2+1) ⟨by omega,by omega,by rw [← he1,up_step g h3]⟩ (by omega)
      ·replace h3:(fun x=>lt32 x d1[a]!) (d1)[i2]! = false:=h3
       refine WP.exit<|PO.past nofun<|PO.round nofun<|PO.blockX ?_
       exact PO.meetK i2 ⟨hi1,hi2,by rw [← he1];exact up_stop (fun _=>h3),fun _=>h3⟩
     ·replace g:¬ (i2≤j):=by rw [decide_eq_false_iff_not] at g;omega
      refine RW.skip 4 rfl<|RW.skip 5 rfl<|RW.skip 6 rfl<|RW.skip 7 rfl<|RW.skip 8 rfl<|RW.skip 9 rfl<|RW.skip 10 rfl<|RW.skip 11 rfl<|RW.skip 12 rfl<|RW.e 13 rfl e_pick_f<|RW.done<|PO.next<|WP.cond_f rfl<|WP.exit<|PO.past nofun<|PO.round nofun<|PO.blockX ?_
      exact PO.meetK i2 ⟨hi1,hi2,by rw [← he1];exact up_stop (fun h=>absurd h g),fun h=>absurd h g⟩
    ·rintro i2 ⟨i2a,i2b,i2e,i2s⟩
     refine WP.cutR (fun (z9:Nat)=>[(11,.int .i64 z9)]) (fun (z9:Nat)=>Sl 35 1 u32C u (d1).toList::R) [(0,_),(1,_),(8,_),(9,_),(10,_)] (fun (z9:Nat)=>z9≤j∧i2≤z9+1∧scanDown (fun x=>!lt32 x d1[a]!) d1 i2 (j)=z9∧(i2≤z9→(fun x=>!lt32 x d1[a]!) d1[z9]! = false)) ?_ ?_
     ·skip
      refine WP.block<|WP.loopK (fun (z9:Nat)=>[(11,.int .i64 z9)]) (fun (z9:Nat)=>Sl 35 1 u32C u (d1).toList::R) [(0,_),(1,_),(8,_),(9,_),(10,_)] (fun (z9:Nat)=>z9≤j∧i2≤z9+1∧scanDown (fun x=>!lt32 x d1[a]!) d1 i2 z9=scanDown (fun x=>!lt32 x d1[a]!) d1 i2 (j)) (fun (z9:Nat)=>z9) (j) (⟨Nat.le_refl _,by omega,rfl⟩) ?_
      rintro j2 ⟨hj1,hj2,he2⟩
      refine WP.seq<|WP.seq<|WP.draws mixedOk 15<|RW.e 0 rfl e_move<|RW.e 1 rfl e_move<|RW.e 2 rfl e_leq<|RW.e 3 rfl e_move ?_
      refine RW.bool 118 rfl (fun g=>?_) (fun g=>?_)
      ·replace g:i2≤j2:=by rw [decide_eq_true_eq] at g;omega
       refine RW.e 4 rfl e_move<|RW.e 5 rfl e_move<|RW.e 6 rfl (ea_ia sl33)<|RW.e 7 rfl (ea_load a35)<|RW.e 8 rfl e_move<|RW.e 9 rfl e_move<|RW.e 10 rfl (ea_ia sl33)<|RW.e 11 rfl (ea_load a35) ?_
       refine RW.any (is:=[12]) rfl ⟨?_,trivial⟩
       refine RWat.h rfl rfl rfl ?_
       refine (h_call (Less32_spec _ _) k243 ?_)
       refine ⟨trivial,?_⟩
       refine RW.e 13 rfl e_not<|RW.e 14 rfl e_pick_t<|RW.done<|PO.next ?_
       refine WP.cond rfl (fun h3=>?_) (fun h3=>?_)
       ·replace h3:(fun x=>!lt32 x d1[a]!) (d1)[j2]! = true:=h3
        refine WP.skip<|PO.next<|WP.block<|WP.reg<|WL.e e_move<|WL.e (e_subN (b:=1))<|WL.e e_assign<|WL.nil<|PO.blockN ?_
        exact PO.againK (j2 - 1) ⟨by omega,by omega,by rw [← he2,down_step (by omega) g h3]⟩ (by omega)
       ·replace h3:(fun x=>!lt32 x d1[a]!) (d1)[j2]! = false:=h3
        refine WP.exit<|PO.past nofun<|PO.round nofun<|PO.blockX ?_
        exact PO.meetK j2 ⟨hj1,hj2,by rw [← he2];exact down_stop (fun _=>h3),fun _=>h3⟩
      ·replace g:¬ (i2≤j2):=by rw [decide_eq_false_iff_not] at g;omega
       refine RW.skip 4 rfl<|RW.skip 5 rfl<|RW.skip 6 rfl<|RW.skip 7 rfl<|RW.skip 8 rfl<|RW.skip 9 rfl<|RW.skip 10 rfl<|RW.skip 11 rfl<|RW.skip 12 rfl<|RW.skip 13 rfl<|RW.e 14 rfl e_pick_f<|RW.done<|PO.next<|WP.cond_f rfl<|WP.exit<|PO.past nofun<|PO.round nofun<|PO.blockX ?_
       exact PO.meetK j2 ⟨hj1,hj2,by rw [← he2];exact down_stop (fun h=>absurd h g),fun h=>absurd h g⟩
     ·rintro j2 ⟨j2a,j2b,j2e,j2s⟩
      refine WP.seq<|WP.seq<|WP.reg<|WL.e e_move<|WL.e e_move<|WL.e e_gtr<|WL.next ?_
      refine WP.cond rfl (fun h6=>?_) (fun h6=>?_)
      ·replace h6:i2 > j2:=by rw [decide_eq_true_eq] at h6;omega
       refine WP.exit<|PO.past nofun<|PO.blockY rfl<|PO.round nofun<|PO.blockX<|PO.next<|WP.seq<|WP.draws mixedOk 16<|RW.e 0 rfl e_move<|RW.e 1 rfl e_move<|RW.e 2 rfl e_move<|RW.e 3 rfl e_move<|RW.e 4 rfl e_move<|RW.e 5 rfl e_move<|RW.e 6 rfl (ea_ia sl33)<|RW.e 7 rfl (ea_load a35)<|RW.e 8 rfl e_move<|RW.e 9 rfl e_move<|RW.e 10 rfl (ea_ia sl33)<|RW.e 11 rfl (ea_load a35)<|RW.e 12 rfl (ea_ia sl33) ?_
       refine RW.any (is:=[13]) rfl ⟨?_,trivial⟩
       refine RWat.h' rfl rfl rfl ?_
       refine (ha_store s35 ?_)
       refine ⟨⟨⟨_,rfl,.inl ⟨rfl,e_move⟩⟩,⟨_,rfl,.inl ⟨rfl,e_move⟩⟩,trivial⟩,?_⟩
       refine RW.e 14 rfl (ea_ia sl33) ?_
       refine RW.any (is:=[15]) rfl ⟨?_,trivial⟩
       refine RWat.h' rfl rfl rfl ?_
       refine (ha_store s35 ?_)
       refine ⟨trivial,?_⟩
       refine RW.done<|PO.next<|WP.seq<|WP.reg<|WL.e e_move<|WL.e e_assign<|WL.e e_assign<|WL.next<|WP.ret ?_
       rw [partition_f rfl i1e j1e h5 (hl4.symm.trans (part_stop i2e j2e h6))] at hK
       exact PO.fin Tryz.results245 (rv_tmp (rv_tmp rv_nil)) hK
      ·replace h6:¬ (i2 > j2):=by rw [decide_eq_false_iff_not] at h6;omega
       refine WP.skip<|PO.next<|WP.seq<|WP.draws mixedOk 16<|RW.e 0 rfl e_move<|RW.e 1 rfl e_move<|RW.e 2 rfl e_move<|RW.e 3 rfl e_move<|RW.e 4 rfl e_move<|RW.e 5 rfl e_move<|RW.e 6 rfl (ea_ia sl33)<|RW.e 7 rfl (ea_load a35)<|RW.e 8 rfl e_move<|RW.e 9 rfl e_move<|RW.e 10 rfl (ea_ia sl33)<|RW.e 11 rfl (ea_load a35)<|RW.e 12 rfl (ea_ia sl33) ?_
       refine RW.any (is:=[13]) rfl ⟨?_,trivial⟩
       refine RWat.h' rfl rfl rfl ?_
       refine (ha_store s35 ?_)
       refine ⟨⟨⟨_,rfl,.inl ⟨rfl,e_move⟩⟩,⟨_,rfl,.inl ⟨rfl,e_move⟩⟩,trivial⟩,?_⟩
       refine RW.e 14 rfl (ea_ia sl33) ?_
       refine RW.any (is:=[15]) rfl ⟨?_,trivial⟩
       refine RWat.h' rfl rfl rfl ?_
       refine (ha_store s35 ?_)
       refine ⟨trivial,?_⟩
       refine RW.done<|PO.next<|WP.seq<|WP.reg<|WL.e e_move<|WL.e (e_addN (b:=1))<|WL.e e_assign<|WL.next<|WP.reg<|WL.e e_move<|WL.e (e_subN (b:=1))<|WL.e e_assign<|WL.nil<|PO.blockN ?_
       have hij2:i2 < j2:=by
        rcases Nat.lt_or_ge i2 j2 with h | h
        ·exact h
        ·obtain rfl:i2=j2:=by omega
         have e1:=i2s (by omega)
         have e2:=nf (j2s (Nat.le_refl _))
         simp only at e1 e2
         rw [e1] at e2;cases e2
       exact PO.againK (i2+1,j2 - 1,swp d1 i2 j2) ⟨by simp only [swp_size];omega,by simp only;omega,by simp only;omega,by simp only;omega,by simp only;rw [← hl4,part_step i2e j2e h6 (by omega)]⟩ (by simp only;omega)
set_option maxHeartbeats 2000000 in
theorem PartE32_spec {g:World} {u:Value} (d:Array UInt32) (a b pv:Nat) (h1:a≤pv) (h2:pv < b) (hb:b≤d.size) (hn:d.size≤68719476736):Spec Tryz.prog g 244 [u,.int .i64 a,.int .i64 b,.int .i64 pv] [Sl 35 1 u32C u (d).toList] fun K R=>K (.int .i64 ((partitionEqual lt32 d a b pv).1:Nat)) (Sl 35 1 u32C u ((partitionEqual lt32 d a b pv).2).toList::R):=by
 refine Spec.intro Tryz.func244 rfl Tryz.ntmps244 rfl fun R K hK=>?_
 refine WP.seq<|WP.reg<|WL.e e_assign<|WL.next<|WP.seq<|WP.draws mixedOk 16<|RW.e 0 rfl e_move<|RW.e 1 rfl e_move<|RW.e 2 rfl e_move<|RW.e 3 rfl e_move<|RW.e 4 rfl e_move<|RW.e 5 rfl e_move<|RW.e 6 rfl (ea_ia sl33)<|RW.e 7 rfl (ea_load a35)<|RW.e 8 rfl e_move<|RW.e 9 rfl e_move<|RW.e 10 rfl (ea_ia sl33)<|RW.e 11 rfl (ea_load a35)<|RW.e 12 rfl (ea_ia sl33) ?_
 refine RW.any (is:=[13]) rfl ⟨?_,trivial⟩
 refine RWat.h' rfl rfl rfl ?_
 refine (ha_store s35 ?_)
 refine ⟨⟨⟨_,rfl,.inl ⟨rfl,e_move⟩⟩,⟨_,rfl,.inl ⟨rfl,e_move⟩⟩,trivial⟩,?_⟩
 refine RW.e 14 rfl (ea_ia sl33) ?_
 refine RW.any (is:=[15]) rfl ⟨?_,trivial⟩
 refine RWat.h' rfl rfl rfl ?_
 refine (ha_store s35 ?_)
 refine ⟨trivial,?_⟩
 refine RW.done<|PO.next<|WP.seq<|WP.reg<|WL.e e_move<|WL.e (e_addN (b:=1))<|WL.e e_move<|WL.e (e_subN (b:=1))<|WL.e e_assign<|WL.e e_assign<|WL.next<|WP.seq<|WP.block<|WP.loopK (fun (x:Nat × Nat × Array UInt32)=>[(9,.int .i64 x.1),(10,.int .i64 x.2.1)]) (fun (x:Nat × Nat × Array UInt32)=>Sl 35 1 u32C u (x.2.2).toList::R) [(0,_),(1,_),(8,_)] (fun (x:Nat × Nat × Array UInt32)=>x.2.2.size=d.size∧a+1≤x.1∧x.1≤x.2.1+1∧x.2.1 < b∧partEqLoop lt32 a x.1 x.2.1 x.2.2=partitionEqual lt32 d a b pv) (fun (x:Nat × Nat × Array UInt32)=>x.2.1+1 - x.1) (a+1,b - 1,swp d a pv) (⟨by simp only [swp_size],by simp only;omega,by simp only;omega,by simp only;omega,rfl⟩) ?_
 rintro ⟨i,j,d1⟩ ⟨hs1,hl1,hl2,hl3,hl4⟩
 simp only at hs1 hl1 hl2 hl3 hl4
 dsimp only
 refine WP.block ?_
 refine WP.cutR (fun (z9:Nat)=>[(9,.int .i64 z9)]) (fun (z9:Nat)=>Sl 35 1 u32C u (d1).toList::R) [(0,_),(1,_),(8,_),(10,_)] (fun (z9:Nat)=>i≤z9∧z9≤j+1∧scanUp (fun x=>!lt32 d1[a]! x) d1 j (i)=z9∧(z9≤j→(fun x=>!lt32 d1[a]! x) d1[z9]! = false)) ?_ ?_
 ·skip
  refine WP.block<|WP.loopK (fun (z9:Nat)=>[(9,.int .i64 z9)]) (fun (z9:Nat)=>Sl 35 1 u32C u (d1).toList::R) [(0,_),(1,_),(8,_),(10,_)] (fun (z9:Nat)=>i≤z9∧z9≤j+1∧scanUp (fun x=>!lt32 d1[a]! x) d1 j z9=scanUp (fun x=>!lt32 d1[a]! x) d1 j (i)) (fun (z9:Nat)=>j+1 - z9) (i) (⟨Nat.le_refl _,by omega,rfl⟩) ?_
  rintro i2 ⟨hi1,hi2,he1⟩
  refine WP.seq<|WP.seq<|WP.draws mixedOk 15<|RW.e 0 rfl e_move<|RW.e 1 rfl e_move<|RW.e 2 rfl e_leq<|RW.e 3 rfl e_move ?_
  refine RW.bool 32 rfl (fun g=>?_) (fun g=>?_)
  ·replace g:i2≤j:=by rw [decide_eq_true_eq] at g;omega
   refine RW.e 4 rfl e_move<|RW.e 5 rfl e_move<|RW.e 6 rfl (ea_ia sl33)<|RW.e 7 rfl (ea_load a35)<|RW.e 8 rfl e_move<|RW.e 9 rfl e_move<|RW.e 10 rfl (ea_ia sl33)<|RW.e 11 rfl (ea_load a35) ?_
   refine RW.any (is:=[12]) rfl ⟨?_,trivial⟩
   refine RWat.h rfl rfl rfl ?_
   refine (h_call (Less32_spec _ _) k243 ?_)
   refine ⟨trivial,?_⟩
   refine RW.e 13 rfl e_not<|RW.e 14 rfl e_pick_t<|RW.done<|PO.next ?_
   refine WP.cond rfl (fun h3=>?_) (fun h3=>?_)
   ·replace h3:(fun x=>!lt32 d1[a]! x) (d1)[i2]! = true:=h3
    refine WP.skip<|PO.next<|WP.block<|WP.reg<|WL.e e_move<|WL.e (e_addN (b:=1))<|WL.e e_assign<|WL.nil<|PO.blockN ?_
    exact PO.againK (i2+1) ⟨by omega,by omega,by rw [← he1,up_step g h3]⟩ (by omega)
   ·replace h3:(fun x=>!lt32 d1[a]! x) (d1)[i2]! = false:=h3
    refine WP.exit<|PO.past nofun<|PO.round nofun<|PO.blockX ?_
    exact PO.meetK i2 ⟨hi1,hi2,by rw [← he1];exact up_stop (fun _=>h3),fun _=>h3⟩
  ·replace g:¬ (i2≤j):=by rw [decide_eq_false_iff_not] at g;omega
   refine RW.skip 4 rfl<|RW.skip 5 rfl<|RW.skip 6 rfl<|RW.skip 7 rfl<|RW.skip 8 rfl<|RW.skip 9 rfl<|RW.skip 10 rfl<|RW.skip 11 rfl<|RW.skip 12 rfl<|RW.skip 13 rfl<|RW.e 14 rfl e_pick_f<|RW.done<|PO.next<|WP.cond_f rfl<|WP.exit<|PO.past nofun<|PO.round nofun<|PO.blockX ?_
   exact PO.meetK i2 ⟨hi1,hi2,by rw [← he1];exact up_stop (fun h=>absurd h g),fun h=>absurd h g⟩
 ·rintro i2 ⟨i2a,i2b,i2e,i2s⟩
  refine WP.cutR (fun (z9:Nat)=>[(10,.int .i64 z9)]) (fun (z9:Nat)=>Sl 35 1 u32C u (d1).toList::R) [(0,_),(1,_),(8,_),(9,_)] (fun (z9:Nat)=>z9≤j∧i2≤z9+1∧scanDown (fun x=>lt32 d1[a]! x) d1 i2 (j)=z9∧(i2≤z9→(fun x=>lt32 d1[a]! x) d1[z9]! = false)) ?_ ?_
  ·skip
   refine WP.block<|WP.loopK (fun (z9:Nat)=>[(10,.int .i64 z9)]) (fun (z9:Nat)=>Sl 35 1 u32C u (d1).toList::R) [(0,_),(1,_),(8,_),(9,_)] (fun (z9:Nat)=>z9≤j∧i2≤z9+1∧scanDown (fun x=>lt32 d1[a]! x) d1 i2 z9=scanDown (fun x=>lt32 d1[a]! x) d1 i2 (j)) (fun (z9:Nat)=>z9) (j) (⟨Nat.le_refl _,by omega,rfl⟩) ?_
   rintro j2 ⟨hj1,hj2,he2⟩
   refine WP.seq<|WP.seq<|WP.draws mixedOk 14<|RW.e 0 rfl e_move<|RW.e 1 rfl e_move<|RW.e 2 rfl e_leq<|RW.e 3 rfl e_move ?_
   refine RW.bool 49 rfl (fun g=>?_) (fun g=>?_)
   ·replace g:i2≤j2:=by rw [decide_eq_true_eq] at g;omega
    refine RW.e 4 rfl e_move<|RW.e 5 rfl e_move<|RW.e 6 rfl (ea_ia sl33)<|RW.e 7 rfl (ea_load a35)<|RW.e 8 rfl e_move<|RW.e 9 rfl e_move<|RW.e 10 rfl (ea_ia sl33)<|RW.e 11 rfl (ea_load a35) ?_
    refine RW.any (is:=[12]) rfl ⟨?_,trivial⟩
    refine RWat.h rfl rfl rfl ?_
    refine (h_call (Less32_spec _ _) k243 ?_)
    refine ⟨trivial,?_⟩
    refine RW.e 13 rfl e_pick_t<|RW.done<|PO.next ?_
    refine WP.cond rfl (fun h3=>?_) (fun h3=>?_)
    ·replace h3:(fun x=>lt32 d1[a]! x) (d1)[j2]! = true:=h3
     refine WP.skip<|PO.next<|WP.block<|WP.reg<|WL.e e_move<|WL.e (e_subN (b:=1))<|WL.e e_assign<|WL.nil<|PO.blockN ?_
     exact PO.againK (j2 - 1) ⟨by omega,by omega,by rw [← he2,down_step (by omega) g h3]⟩ (by omega)
    ·replace h3:(fun x=>lt32 d1[a]! x) (d1)[j2]! = false:=h3
     refine WP.exit<|PO.past nofun<|PO.round nofun<|PO.blockX ?_
     exact PO.meetK j2 ⟨hj1,hj2,by rw [← he2];exact down_stop (fun _=>h3),fun _=>h3⟩
   ·replace g:¬ (i2≤j2):=by rw [decide_eq_false_iff_not] at g;omega
    refine RW.skip 4 rfl<|RW.skip 5 rfl<|RW.skip 6 rfl<|RW.skip 7 rfl<|RW.skip 8 rfl<|RW.skip 9 rfl<|RW.skip 10 rfl<|RW.skip 11 rfl<|RW.skip 12 rfl<|RW.e 13 rfl e_pick_f<|RW.done<|PO.next<|WP.cond_f rfl<|WP.exit<|PO.past nofun<|PO.round nofun<|PO.blockX ?_
    exact PO.meetK j2 ⟨hj1,hj2,by rw [← he2];exact down_stop (fun h=>absurd h g),fun h=>absurd h g⟩
  ·rintro j2 ⟨j2a,j2b,j2e,j2s⟩
   refine WP.seq<|WP.seq<|WP.reg<|WL.e e_move<|WL.e e_move<|WL.e e_gtr<|WL.next ?_
   refine WP.cond rfl (fun h6=>?_) (fun h6=>?_)
   ·replace h6:i2 > j2:=by rw [decide_eq_true_eq] at h6;omega
    refine WP.exit<|PO.past nofun<|PO.blockY rfl<|PO.round nofun<|PO.blockX<|PO.next<|WP.seq<|WP.reg<|WL.e e_move<|WL.e e_assign<|WL.next<|WP.ret ?_
    rw [hl4.symm.trans (parte_stop i2e j2e h6)] at hK
    exact PO.fin Tryz.results244 (rv_tmp rv_nil) hK
   ·replace h6:¬ (i2 > j2):=by rw [decide_eq_false_iff_not] at h6;omega
    refine WP.skip<|PO.next<|WP.seq<|WP.draws mixedOk 16<|RW.e 0 rfl e_move<|RW.e 1 rfl e_move<|RW.e 2 rfl e_move<|RW.e 3 rfl e_move<|RW.e 4 rfl e_move<|RW.e 5 rfl e_move<|RW.e 6 rfl (ea_ia sl33)<|RW.e 7 rfl (ea_load a35)<|RW.e 8 rfl e_move<|RW.e 9 rfl e_move<|RW.e 10 rfl (ea_ia sl33)<|RW.e 11 rfl (ea_load a35)<|RW.e 12 rfl (ea_ia sl33) ?_
    refine RW.any (is:=[13]) rfl ⟨?_,trivial⟩
    refine RWat.h' rfl rfl rfl ?_
    refine (ha_store s35 ?_)
    refine ⟨⟨⟨_,rfl,.inl ⟨rfl,e_move⟩⟩,⟨_,rfl,.inl ⟨rfl,e_move⟩⟩,trivial⟩,?_⟩
    refine RW.e 14 rfl (ea_ia sl33) ?_
    refine RW.any (is:=[15]) rfl ⟨?_,trivial⟩
    refine RWat.h' rfl rfl rfl ?_
    refine (ha_store s35 ?_)
    refine ⟨trivial,?_⟩
    refine RW.done<|PO.next<|WP.seq<|WP.reg<|WL.e e_move<|WL.e (e_addN (b:=1))<|WL.e e_assign<|WL.next<|WP.reg<|WL.e e_move<|WL.e (e_subN (b:=1))<|WL.e e_assign<|WL.nil<|PO.blockN ?_
    have hij2:i2 < j2:=by
     rcases Nat.lt_or_ge i2 j2 with h | h
     ·exact h
     ·obtain rfl:i2=j2:=by omega
      have e1:=nf (i2s (by omega))
      have e2:=j2s (Nat.le_refl _)
      simp only at e1 e2
      rw [e1] at e2;cases e2
    exact PO.againK (i2+1,j2 - 1,swp d1 i2 j2) ⟨by simp only [swp_size];omega,by simp only;omega,by simp only;omega,by simp only;omega,by simp only;rw [← hl4,parte_step i2e j2e h6 (by omega)]⟩ (by simp only;omega)
set_option maxHeartbeats 2000000 in
theorem PIns32_spec {g:World} {u:Value} (d:Array UInt32) (a b:Nat) (hab:a < b) (hb:b≤d.size) (hn:d.size≤68719476736):Spec Tryz.prog g 242 [u,.int .i64 a,.int .i64 b] [Sl 35 1 u32C u (d).toList] fun K R=>K (.bool (partialInsertionSort lt32 d a b).2) (Sl 35 1 u32C u ((partialInsertionSort lt32 d a b).1).toList::R):=by
 refine Spec.intro Tryz.func242 rfl Tryz.ntmps242 rfl fun R K hK=>?_
 refine WP.seq<|WP.reg<|WL.e e_assign<|WL.next<|WP.seq<|WP.reg<|WL.e e_move<|WL.e (e_addN (b:=1))<|WL.e e_assign<|WL.next<|WP.seq<|WP.seq<|WP.reg<|WL.e e_assign<|WL.next<|WP.block<|WP.loopK (fun (x:Nat × Nat × Array UInt32)=>[(8,.int .i64 ((5 - x.1:Nat):Int)),(7,.int .i64 x.2.1)]) (fun (x:Nat × Nat × Array UInt32)=>Sl 35 1 u32C u (x.2.2).toList::R) [(0,_),(1,_),(2,_)] (fun (x:Nat × Nat × Array UInt32)=>x.2.2.size=d.size∧x.1≤5∧a+1≤x.2.1∧x.2.1≤b∧partialIns lt32 a b x.1 x.2.1 x.2.2=partialInsertionSort lt32 d a b) (fun (x:Nat × Nat × Array UInt32)=>x.1) (5,a+1,d) (⟨rfl,Nat.le_refl _,by simp only;omega,by simp only;omega,rfl⟩) ?_
 rintro ⟨s,i,d1⟩ ⟨hs1,hl0,hl1,hl2,he⟩
 simp only at hs1 hl0 hl1 hl2 he
 dsimp only
 refine WP.seq<|WP.seq<|WP.reg<|WL.e e_move<|WL.e e_lss<|WL.next ?_
 refine WP.cond rfl (fun h1=>?_) (fun h1=>?_)
 ·replace h1:0 < s:=by rw [decide_eq_true_eq] at h1;omega
  refine WP.skip<|PO.next<|WP.seq<|WP.block ?_
  refine WP.cutR (fun (z9:Nat)=>[(7,.int .i64 z9)]) (fun (z9:Nat)=>Sl 35 1 u32C u (d1).toList::R) [(0,_),(1,_),(2,_),(8,_),(13,_),(14,_)] (fun (z9:Nat)=>i≤z9∧z9≤b∧scanSorted lt32 d1 b i=z9) ?_ ?_
  ·skip
   refine WP.block<|WP.loopK (fun (z9:Nat)=>[(7,.int .i64 z9)]) (fun (z9:Nat)=>Sl 35 1 u32C u (d1).toList::R) [(0,_),(1,_),(2,_),(8,_),(13,_),(14,_)] (fun (z9:Nat)=>i≤z9∧z9≤b∧scanSorted lt32 d1 b z9=scanSorted lt32 d1 b i) (fun (z9:Nat)=>b - z9) i (⟨Nat.le_refl _,hl2,rfl⟩) ?_
   rintro i2 ⟨hi1,hi2,he1⟩
   refine WP.seq<|WP.seq<|WP.draws mixedOk 16<|RW.e 0 rfl e_move<|RW.e 1 rfl e_move<|RW.e 2 rfl e_lss<|RW.e 3 rfl e_move ?_
   refine RW.bool 20 rfl (fun g=>?_) (fun g=>?_)
   ·replace g:i2 < b:=by rw [decide_eq_true_eq] at g;omega
    refine RW.e 4 rfl e_move<|RW.e 5 rfl e_move<|RW.e 6 rfl (ea_ia sl33)<|RW.e 7 rfl (ea_load a35)<|RW.e 8 rfl e_move<|RW.e 9 rfl e_move<|RW.e 10 rfl (e_subN (b:=1))<|RW.e 11 rfl (ea_ia sl33)<|RW.e 12 rfl (ea_load a35) ?_
    refine RW.any (is:=[13]) rfl ⟨?_,trivial⟩
    refine RWat.h rfl rfl rfl ?_
    refine (h_call (Less32_spec _ _) k243 ?_)
    refine ⟨trivial,?_⟩
    refine RW.e 14 rfl e_not<|RW.e 15 rfl e_pick_t<|RW.done<|PO.next ?_
    refine WP.cond rfl (fun h3=>?_) (fun h3=>?_)
    ·skip
     refine WP.skip<|PO.next<|WP.block<|WP.reg<|WL.e e_move<|WL.e (e_addN (b:=1))<|WL.e e_assign<|WL.nil<|PO.blockN ?_
     exact PO.againK (i2+1) ⟨by omega,by omega,by rw [← he1,sorted_step g (nt h3)]⟩ (by omega)
    ·skip
     refine WP.exit<|PO.past nofun<|PO.round nofun<|PO.blockX ?_
     exact PO.meetK i2 ⟨hi1,hi2,by rw [← he1];exact sorted_stop (fun _=>nf h3)⟩
   ·replace g:¬ (i2 < b):=by rw [decide_eq_false_iff_not] at g;omega
    refine RW.skip 4 rfl<|RW.skip 5 rfl<|RW.skip 6 rfl<|RW.skip 7 rfl<|RW.skip 8 rfl<|RW.skip 9 rfl<|RW.skip 10 rfl<|RW.skip 11 rfl<|RW.skip 12 rfl<|RW.skip 13 rfl<|RW.skip 14 rfl<|RW.e 15 rfl e_pick_f<|RW.done<|PO.next<|WP.cond_f rfl<|WP.exit<|PO.past nofun<|PO.round nofun<|PO.blockX ?_
    exact PO.meetK i2 ⟨hi1,hi2,by rw [← he1];exact sorted_stop (fun h=>absurd h g)⟩
  ·rintro i2 ⟨ia,ib,ie⟩
   refine WP.seq<|WP.seq<|WP.reg<|WL.e e_move<|WL.e e_move<|WL.e e_eql<|WL.next ?_
   refine WP.cond rfl (fun h5=>?_) (fun h5=>?_)
   ·replace h5:i2=b:=by have:=eq_of_beq h5;omega
    obtain ⟨s9,rfl⟩:∃ k,s=k+1:=⟨s - 1,by omega⟩
    rw [pins_t ie h5] at he
    rw [← he] at hK
    refine WP.seq<|WP.reg<|WL.e e_assign<|WL.next<|WP.ret<|PO.past nofun<|PO.blockR<|PO.past nofun<|PO.round nofun<|PO.blockR<|PO.past nofun ?_
    exact PO.fin Tryz.results242 (rv_tmp rv_nil) hK
   ·replace h5:¬ i2=b:=fun h=>by rw [h] at h5;simp at h5
    refine WP.skip<|PO.next<|WP.seq<|WP.seq<|WP.reg<|WL.e e_move<|WL.e e_move<|WL.e (e_subN)<|WL.e e_lss<|WL.next ?_
    refine WP.cond rfl (fun h6=>?_) (fun h6=>?_)
    ·replace h6:b - a < 50:=by rw [decide_eq_true_eq] at h6;omega
     obtain ⟨s9,rfl⟩:∃ k,s=k+1:=⟨s - 1,by omega⟩
     rw [pins_f ie h5 h6] at he
     rw [← he] at hK
     refine WP.seq<|WP.reg<|WL.e e_assign<|WL.next<|WP.ret<|PO.past nofun<|PO.blockR<|PO.past nofun<|PO.round nofun<|PO.blockR<|PO.past nofun ?_
     exact PO.fin Tryz.results242 (rv_tmp rv_nil) hK
    ·replace h6:¬ b - a < 50:=by rw [decide_eq_false_iff_not] at h6;omega
     refine WP.skip<|PO.next<|WP.seq<|WP.draws mixedOk 18<|RW.e 0 rfl e_move<|RW.e 1 rfl e_move<|RW.e 2 rfl e_move<|RW.e 3 rfl e_move<|RW.e 4 rfl (e_subN (b:=1))<|RW.e 5 rfl e_move<|RW.e 6 rfl e_move<|RW.e 7 rfl (e_subN (b:=1))<|RW.e 8 rfl (ea_ia sl33)<|RW.e 9 rfl (ea_load a35)<|RW.e 10 rfl e_move<|RW.e 11 rfl e_move<|RW.e 12 rfl (ea_ia sl33)<|RW.e 13 rfl (ea_load a35)<|RW.e 14 rfl (ea_ia sl33) ?_
     refine RW.any (is:=[15]) rfl ⟨?_,trivial⟩
     refine RWat.h' rfl rfl rfl ?_
     refine (ha_store s35 ?_)
     refine ⟨⟨⟨_,rfl,.inl ⟨rfl,(e_subN (b:=1))⟩⟩,⟨_,rfl,.inl ⟨rfl,e_move⟩⟩,⟨_,rfl,.inl ⟨rfl,e_move⟩⟩,trivial⟩,?_⟩
     refine RW.e 16 rfl (ea_ia sl33) ?_
     refine RW.any (is:=[17]) rfl ⟨?_,trivial⟩
     refine RWat.h' rfl rfl rfl ?_
     refine (ha_store s35 ?_)
     refine ⟨trivial,?_⟩
     refine RW.done<|PO.next ?_
     refine WP.cutR (fun (z:Array UInt32)=>[]) (fun (z:Array UInt32)=>Sl 35 1 u32C u (z).toList::R) [(0,_),(1,_),(2,_),(7,_),(8,_),(13,_),(14,_),(35,_),(36,_),(37,_),(38,_),(39,_),(40,_),(41,_),(42,_),(43,_),(44,_),(45,_),(46,_),(47,_),(48,_),(49,_),(50,_),(51,_),(52,_),(53,_),(54,_),(55,_),(56,_),(57,_)] (fun (z:Array UInt32)=>z.size=d.size∧(if i2 - a≥2 then shiftDown lt32 (i2 - 1) (swp d1 i2 (i2 - 1)) else (swp d1 i2 (i2 - 1)))=z) ?_ ?_
     ·skip
      refine WP.seq<|WP.reg<|WL.e e_move<|WL.e e_move<|WL.e (e_subN)<|WL.e e_geq<|WL.next ?_
      refine WP.cond rfl (fun h7=>?_) (fun h7=>?_)
      ·replace h7:i2 - a≥2:=by rw [decide_eq_true_eq] at h7;omega
       refine WP.seq<|WP.reg<|WL.e e_move<|WL.e (e_subN (b:=1))<|WL.e e_assign<|WL.next<|WP.block<|WP.loopK (fun (x:Nat × Array UInt32)=>[(9,.int .i64 x.1)]) (fun (x:Nat × Array UInt32)=>Sl 35 1 u32C u (x.2).toList::R) [(0,_),(1,_),(2,_),(7,_),(8,_),(13,_),(14,_),(35,_),(36,_),(37,_),(38,_),(39,_),(40,_),(41,_),(42,_),(43,_),(44,_),(45,_),(46,_),(47,_),(48,_),(49,_),(50,_),(51,_),(52,_),(53,_),(54,_),(55,_),(56,_),(57,_),(58,_),(59,_),(60,_),(61,_),(62,_),(63,_)] (fun (x:Nat × Array UInt32)=>x.2.size=d.size∧x.1≤i2 - 1∧shiftDown lt32 x.1 x.2=shiftDown lt32 (i2 - 1) (swp d1 i2 (i2 - 1))) (fun (x:Nat × Array UInt32)=>x.1) (i2 - 1,(swp d1 i2 (i2 - 1))) (⟨by simp only [swp_size];omega,Nat.le_refl _,rfl⟩) ?_
       rintro ⟨j,d4⟩ ⟨hs4,hj1,hj3⟩
       simp only at hs4 hj1 hj3
       dsimp only
       refine WP.seq<|WP.seq<|WP.reg<|WL.e e_move<|WL.e e_geq<|WL.next ?_
       refine WP.cond rfl (fun g2=>?_) (fun g2=>?_)
       ·replace g2:j≥1:=by rw [decide_eq_true_eq] at g2;omega
        refine WP.skip<|PO.next<|WP.seq<|WP.block<|WP.seq<|WP.seq<|WP.draws mixedOk 11<|RW.e 0 rfl e_move<|RW.e 1 rfl e_move<|RW.e 2 rfl (ea_ia sl33)<|RW.e 3 rfl (ea_load a35)<|RW.e 4 rfl e_move<|RW.e 5 rfl e_move<|RW.e 6 rfl (e_subN (b:=1))<|RW.e 7 rfl (ea_ia sl33)<|RW.e 8 rfl (ea_load a35) ?_
        refine RW.any (is:=[9]) rfl ⟨?_,trivial⟩
        refine RWat.h rfl rfl rfl ?_
        refine (h_call (Less32_spec _ _) k243 ?_)
        refine ⟨trivial,?_⟩
        refine RW.e 10 rfl e_not<|RW.done<|PO.next ?_
        refine WP.cond rfl (fun h9=>?_) (fun h9=>?_)
        ·skip
         refine WP.exit<|PO.past nofun<|PO.blockY rfl<|PO.past nofun<|PO.round nofun<|PO.blockX ?_
         exact PO.meetK d4 ⟨hs4,by rw [if_pos h7,← hj3,sdown_stop (fun _=>nt h9)]⟩
        ·skip
         refine WP.skip<|PO.next<|WP.draws mixedOk 18<|RW.e 0 rfl e_move<|RW.e 1 rfl e_move<|RW.e 2 rfl e_move<|RW.e 3 rfl e_move<|RW.e 4 rfl (e_subN (b:=1))<|RW.e 5 rfl e_move<|RW.e 6 rfl e_move<|RW.e 7 rfl (e_subN (b:=1))<|RW.e 8 rfl (ea_ia sl33)<|RW.e 9 rfl (ea_load a35)<|RW.e 10 rfl e_move<|RW.e 11 rfl e_move<|RW.e 12 rfl (ea_ia sl33)<|RW.e 13 rfl (ea_load a35)<|RW.e 14 rfl (ea_ia sl33) ?_
         refine RW.any (is:=[15]) rfl ⟨?_,trivial⟩
         refine RWat.h' rfl rfl rfl ?_
         refine (ha_store s35 ?_)
         refine ⟨⟨⟨_,rfl,.inl ⟨rfl,(e_subN (b:=1))⟩⟩,⟨_,rfl,.inl ⟨rfl,e_move⟩⟩,⟨_,rfl,.inl ⟨rfl,e_move⟩⟩,trivial⟩,?_⟩
         refine RW.e 16 rfl (ea_ia sl33) ?_
         refine RW.any (is:=[17]) rfl ⟨?_,trivial⟩
         refine RWat.h' rfl rfl rfl ?_
         refine (ha_store s35 ?_)
         refine ⟨trivial,?_⟩
         refine RW.done<|PO.blockN<|PO.next<|WP.reg<|WL.e e_move<|WL.e (e_subN (b:=1))<|WL.e e_assign<|WL.nil ?_
         exact PO.againK (j - 1,swp d4 j (j - 1)) ⟨by simp only [swp_size];omega,by simp only;omega,by simp only;rw [← hj3,sdown_step g2 (nf h9)]⟩ (by simp only;omega)
       ·replace g2:¬ (j≥1):=by rw [decide_eq_false_iff_not] at g2;omega
        refine WP.exit<|PO.past nofun<|PO.round nofun<|PO.blockX ?_
        exact PO.meetK d4 ⟨hs4,by rw [if_pos h7,← hj3,sdown_stop (fun h=>absurd h g2)]⟩
      ·replace h7:¬ (i2 - a≥2):=by rw [decide_eq_false_iff_not] at h7;omega
       refine WP.skip ?_
       exact PO.meetK (swp d1 i2 (i2 - 1)) ⟨by simp only [swp_size];omega,by rw [if_neg h7]⟩
     ·rintro d2 ⟨hs2,e2⟩
      refine WP.seq<|WP.reg<|WL.e e_move<|WL.e e_move<|WL.e (e_subN)<|WL.e e_geq<|WL.next ?_
      refine WP.cond rfl (fun h8=>?_) (fun h8=>?_)
      ·replace h8:b - i2≥2:=by rw [decide_eq_true_eq] at h8;omega
       refine WP.seq<|WP.reg<|WL.e e_move<|WL.e (e_addN (b:=1))<|WL.e e_assign<|WL.next<|WP.block<|WP.loopK (fun (x:Nat × Array UInt32)=>[(10,.int .i64 x.1)]) (fun (x:Nat × Array UInt32)=>Sl 35 1 u32C u (x.2).toList::R) [(0,_),(1,_),(2,_),(7,_),(8,_),(13,_),(14,_),(35,_),(36,_),(37,_),(38,_),(39,_),(40,_),(41,_),(42,_),(43,_),(44,_),(45,_),(46,_),(47,_),(48,_),(49,_),(50,_),(51,_),(52,_),(53,_),(54,_),(55,_),(56,_),(57,_),(95,_),(96,_),(97,_),(98,_),(99,_),(100,_)] (fun (x:Nat × Array UInt32)=>x.2.size=d.size∧i2+1≤x.1∧x.1≤b∧shiftUp lt32 b x.1 x.2=shiftUp lt32 b (i2+1) d2) (fun (x:Nat × Array UInt32)=>b - x.1) (i2+1,d2) (⟨hs2,Nat.le_refl _,by simp only;omega,rfl⟩) ?_
       rintro ⟨k,d3⟩ ⟨hs3,hk1,hk2,hk3⟩
       simp only at hs3 hk1 hk2 hk3
       dsimp only
       refine WP.seq<|WP.seq<|WP.reg<|WL.e e_move<|WL.e e_move<|WL.e e_lss<|WL.next ?_
       refine WP.cond rfl (fun g2=>?_) (fun g2=>?_)
       ·replace g2:k < b:=by rw [decide_eq_true_eq] at g2;omega
        refine WP.skip<|PO.next<|WP.seq<|WP.block<|WP.seq<|WP.seq<|WP.draws mixedOk 11<|RW.e 0 rfl e_move<|RW.e 1 rfl e_move<|RW.e 2 rfl (ea_ia sl33)<|RW.e 3 rfl (ea_load a35)<|RW.e 4 rfl e_move<|RW.e 5 rfl e_move<|RW.e 6 rfl (e_subN (b:=1))<|RW.e 7 rfl (ea_ia sl33)<|RW.e 8 rfl (ea_load a35) ?_
        refine RW.any (is:=[9]) rfl ⟨?_,trivial⟩
        refine RWat.h rfl rfl rfl ?_
        refine (h_call (Less32_spec _ _) k243 ?_)
        refine ⟨trivial,?_⟩
        refine RW.e 10 rfl e_not<|RW.done<|PO.next ?_
        refine WP.cond rfl (fun h9=>?_) (fun h9=>?_)
        ·skip
         refine WP.exit<|PO.past nofun<|PO.blockY rfl<|PO.past nofun<|PO.round nofun<|PO.blockX<|PO.blockN<|PO.next<|WP.reg<|WL.e e_move<|WL.e (e_add (c:=((5 - (s - 1):Nat):Int)) rfl rfl (by rw [w_i64 (by omega) (by omega)];omega))<|WL.e e_assign<|WL.nil ?_
         exact PO.againK (s - 1,i2,d3) ⟨by simp only;omega,by simp only;omega,by simp only;omega,by simp only;omega,by simp only;obtain ⟨s9,rfl⟩:∃ k,s=k+1:=⟨s - 1,by omega⟩;rw [Nat.add_sub_cancel,← he,pins_s ie h5 h6 e2 (by rw [if_pos h8,← hk3,sup_stop (fun _=>nt h9)])]⟩ (by simp only;omega)
        ·skip
         refine WP.skip<|PO.next<|WP.draws mixedOk 18<|RW.e 0 rfl e_move<|RW.e 1 rfl e_move<|RW.e 2 rfl e_move<|RW.e 3 rfl e_move<|RW.e 4 rfl (e_subN (b:=1))<|RW.e 5 rfl e_move<|RW.e 6 rfl e_move<|RW.e 7 rfl (e_subN (b:=1))<|RW.e 8 rfl (ea_ia sl33)<|RW.e 9 rfl (ea_load a35)<|RW.e 10 rfl e_move<|RW.e 11 rfl e_move<|RW.e 12 rfl (ea_ia sl33)<|RW.e 13 rfl (ea_load a35)<|RW.e 14 rfl (ea_ia sl33) ?_
         refine RW.any (is:=[15]) rfl ⟨?_,trivial⟩
         refine RWat.h' rfl rfl rfl ?_
         refine (ha_store s35 ?_)
         refine ⟨⟨⟨_,rfl,.inl ⟨rfl,(e_subN (b:=1))⟩⟩,⟨_,rfl,.inl ⟨rfl,e_move⟩⟩,⟨_,rfl,.inl ⟨rfl,e_move⟩⟩,trivial⟩,?_⟩
         refine RW.e 16 rfl (ea_ia sl33) ?_
         refine RW.any (is:=[17]) rfl ⟨?_,trivial⟩
         refine RWat.h' rfl rfl rfl ?_
         refine (ha_store s35 ?_)
         refine ⟨trivial,?_⟩
         refine RW.done<|PO.blockN<|PO.next<|WP.reg<|WL.e e_move<|WL.e (e_addN (b:=1))<|WL.e e_assign<|WL.nil ?_
         exact PO.againK (k+1,swp d3 k (k - 1)) ⟨by simp only [swp_size];omega,by simp only;omega,by simp only;omega,by simp only;rw [← hk3,sup_step g2 (nf h9)]⟩ (by simp only;omega)
       ·replace g2:¬ (k < b):=by rw [decide_eq_false_iff_not] at g2;omega
        refine WP.exit<|PO.past nofun<|PO.round nofun<|PO.blockX<|PO.blockN<|PO.next<|WP.reg<|WL.e e_move<|WL.e (e_add (c:=((5 - (s - 1):Nat):Int)) rfl rfl (by rw [w_i64 (by omega) (by omega)];omega))<|WL.e e_assign<|WL.nil ?_
        exact PO.againK (s - 1,i2,d3) ⟨by simp only;omega,by simp only;omega,by simp only;omega,by simp only;omega,by simp only;obtain ⟨s9,rfl⟩:∃ k,s=k+1:=⟨s - 1,by omega⟩;rw [Nat.add_sub_cancel,← he,pins_s ie h5 h6 e2 (by rw [if_pos h8,← hk3,sup_stop (fun h=>absurd h g2)])]⟩ (by simp only;omega)
      ·replace h8:¬ (b - i2≥2):=by rw [decide_eq_false_iff_not] at h8;omega
       refine WP.skip<|PO.blockN<|PO.next<|WP.reg<|WL.e e_move<|WL.e (e_add (c:=((5 - (s - 1):Nat):Int)) rfl rfl (by rw [w_i64 (by omega) (by omega)];omega))<|WL.e e_assign<|WL.nil ?_
       exact PO.againK (s - 1,i2,d2) ⟨by simp only;omega,by simp only;omega,by simp only;omega,by simp only;omega,by simp only;obtain ⟨s9,rfl⟩:∃ k,s=k+1:=⟨s - 1,by omega⟩;rw [Nat.add_sub_cancel,← he,pins_s ie h5 h6 e2 (by rw [if_neg h8])]⟩ (by simp only;omega)
 ·replace h1:¬ (0 < s):=by rw [decide_eq_false_iff_not] at h1;omega
  refine WP.exit<|PO.past nofun<|PO.round nofun<|PO.blockX<|PO.next<|WP.seq<|WP.reg<|WL.e e_assign<|WL.next<|WP.ret ?_
  obtain rfl:s=0:=by omega
  rw [← he] at hK
  exact PO.fin Tryz.results242 (rv_tmp rv_nil) hK
end Go.SL
set_option linter.unusedSectionVars false
namespace Go.SL
open Go
theorem key_split {l:List RowM} (hl:Rising l) (k:ByteArray):∃ A D,l=A++D∧A.length=lowI l k∧(∀ r ∈ A,sLt r.key k=true)∧(∀ r ∈ D,sLt r.key k=false)∧Rising A∧Rising D:=by
 refine ⟨l.takeWhile fun r=>sLt r.key k,l.dropWhile fun r=>sLt r.key k,List.takeWhile_append_dropWhile.symm,rfl,fun r hr=>?_,fun r hr=>?_,hl.sublist (List.takeWhile_sublist _),hl.sublist (List.dropWhile_sublist _)⟩
 ·have:=List.all_takeWhile (p:=fun r:RowM=>sLt r.key k) (l:=l)
  exact List.all_eq_true.1 this r hr
 ·have hd:=hl.sublist (List.dropWhile_sublist (fun r=>sLt r.key k))
  have hh:∀ x y,l.dropWhile (fun r=>sLt r.key k)=x::y→sLt x.key k=false:=fun x y e=>by
   have:=List.head_dropWhile_not (fun r:RowM=>sLt r.key k) (l:=l) (by rw [e];simp)
   simpa [e] using this
  cases e:l.dropWhile (fun r=>sLt r.key k) with
  | nil=>rw [e] at hr;cases hr
  | cons x y=>
   have hx:=hh x y e
   rw [e] at hr hd
   rcases List.mem_cons.1 hr with rfl | hr
   ·exact hx
   ·have:=(List.pairwise_cons.1 hd).1 r hr
    cases e2:sLt r.key k with
    | false=>rfl
    | true=>have:=sLt_trans this e2;rw [hx] at this;cases this
theorem key_cut {l:List RowM} (hl:Rising l) (k:ByteArray):(∃ A v D,l=A++⟨k,v⟩::D∧A.length=lowI l k∧hasI l k=true∧(∀ r ∈ A,sLt r.key k=true)∧(∀ r ∈ D,sLt k r.key=true)∧Rising A∧Rising D) ∨
  (∃ A D,l=A++D∧A.length=lowI l k∧hasI l k=false∧(∀ r ∈ A,sLt r.key k=true)∧(∀ r ∈ D,sLt k r.key=true)∧Rising A∧Rising D):=by
 obtain ⟨A,D,he,ha,h1,h2,h3,h4⟩:=key_split hl k
 have hat:l[lowI l k]?=D.head?:=by
  rw [← ha];conv=>lhs;rw [he]
  rw [List.getElem?_append_right (Nat.le_refl _),Nat.sub_self,List.head?_eq_getElem?]
 cases D with
 | nil=>
  right
  exact ⟨A,[],he,ha,by simp only [hasI,hat];rfl,h1,by simp,h3,h4⟩
 | cons x D=>
  have hp:=List.pairwise_cons.1 h4
  have hx:=h2 x (by simp)
  by_cases e:x.key=k
  ·left
   subst e
   exact ⟨A,x.val,D,he,ha,by simp [hasI,hat,sEq_iff],h1,fun r hr=>hp.1 r hr,h3,hp.2⟩
  ·right
   have hxk:sLt k x.key=true:=by
    rcases sLt_tri x.key k with h | h | h
    ·rw [hx] at h;cases h
    ·exact absurd h e
    ·exact h
   refine ⟨A,x::D,he,ha,?_,h1,fun r hr=>?_,h3,h4⟩
   ·simp only [hasI,hat,List.head?_cons]
    cases e2:sEq x.key k with
    | false=>rfl
    | true=>exact absurd (sEq_iff.1 e2) e
   ·rcases List.mem_cons.1 hr with rfl | hr
    ·exact hxk
    ·exact sLt_trans hxk (hp.1 r hr)
def setR (l:List RowM) (k:ByteArray) (v:UInt32):List RowM:=if hasI l k then l.set (lowI l k) ⟨k,v⟩ else l.take (lowI l k)++⟨k,v⟩::l.drop (lowI l k)
def dropR (l:List RowM) (k:ByteArray):List RowM:=if hasI l k then l.eraseIdx (lowI l k) else l
theorem sLt_ne {a b:ByteArray} (h:sLt a b=true):a≠b:=fun e=>by subst e;rw [sLt_irrefl] at h;cases h
theorem rising_mid {A D:List RowM} {x:RowM} (h1:∀ r ∈ A,sLt r.key x.key=true) (h2:∀ r ∈ D,sLt x.key r.key=true) (hA:Rising A) (hD:Rising D):Rising (A++x::D):=by
 refine List.pairwise_append.2 ⟨hA,List.pairwise_cons.2 ⟨h2,hD⟩,fun a ha b hb=>?_⟩
 rcases List.mem_cons.1 hb with rfl | hb
 ·exact h1 a ha
 ·exact sLt_trans (h1 a ha) (h2 b hb)
theorem rising_two {A D:List RowM} {k:ByteArray} (h1:∀ r ∈ A,sLt r.key k=true) (h2:∀ r ∈ D,sLt k r.key=true) (hA:Rising A) (hD:Rising D):Rising (A++D):=
 List.pairwise_append.2 ⟨hA,hD,fun a ha b hb=>sLt_trans (h1 a ha) (h2 b hb)⟩
theorem setR_spec {l:List RowM} (hl:Rising l) (k:ByteArray) (v:UInt32):Rising (setR l k v)∧(∀ r,r ∈ setR l k v↔r=⟨k,v⟩∨(r ∈ l∧r.key≠k))∧(setR l k v).length≤l.length+1:=by
 rcases key_cut hl k with ⟨A,u,D,he,ha,hh,h1,h2,h3,h4⟩ | ⟨A,D,he,ha,hh,h1,h2,h3,h4⟩
 ·have e:setR l k v=A++⟨k,v⟩::D:=by
   unfold setR;rw [if_pos hh,← ha];conv=>lhs;rw [he]
   simp
  rw [e]
  refine ⟨rising_mid h1 h2 h3 h4,fun r=>?_,by rw [he];simp⟩
  rw [he]
  simp only [List.mem_append,List.mem_cons]
  constructor
  ·rintro (h | rfl | h)
   ·exact .inr ⟨.inl h,sLt_ne (h1 r h)⟩
   ·exact .inl rfl
   ·exact .inr ⟨.inr (.inr h),(sLt_ne (h2 r h)).symm⟩
  ·rintro (rfl | ⟨h | rfl | h,hn⟩)
   ·exact .inr (.inl rfl)
   ·exact .inl h
   ·exact absurd rfl hn
   ·exact .inr (.inr h)
 ·have e:setR l k v=A++⟨k,v⟩::D:=by
   unfold setR;rw [if_neg (by simp [hh]),← ha];conv=>lhs;rw [he]
   simp
  rw [e]
  refine ⟨rising_mid h1 h2 h3 h4,fun r=>?_,by rw [he];simp;omega⟩
  rw [he]
  simp only [List.mem_append,List.mem_cons]
  constructor
  ·rintro (h | rfl | h)
   ·exact .inr ⟨.inl h,sLt_ne (h1 r h)⟩
   ·exact .inl rfl
   ·exact .inr ⟨.inr h,(sLt_ne (h2 r h)).symm⟩
  ·rintro (rfl | ⟨h | h,hn⟩)
   ·exact .inr (.inl rfl)
   ·exact .inl h
   ·exact .inr (.inr h)
theorem dropR_spec {l:List RowM} (hl:Rising l) (k:ByteArray):Rising (dropR l k)∧(∀ r,r ∈ dropR l k↔r ∈ l∧r.key≠k)∧(dropR l k).length≤l.length:=by
 rcases key_cut hl k with ⟨A,u,D,he,ha,hh,h1,h2,h3,h4⟩ | ⟨A,D,he,ha,hh,h1,h2,h3,h4⟩
 ·have e:dropR l k=A++D:=by
   unfold dropR;rw [if_pos hh,← ha];conv=>lhs;rw [he]
   rw [List.eraseIdx_append_of_length_le (Nat.le_refl _)];simp
  rw [e]
  refine ⟨rising_two h1 h2 h3 h4,fun r=>?_,by rw [he];simp⟩
  rw [he]
  simp only [List.mem_append,List.mem_cons]
  constructor
  ·rintro (h | h)
   ·exact ⟨.inl h,sLt_ne (h1 r h)⟩
   ·exact ⟨.inr (.inr h),(sLt_ne (h2 r h)).symm⟩
  ·rintro ⟨h | rfl | h,hn⟩
   ·exact .inl h
   ·exact absurd rfl hn
   ·exact .inr h
 ·have e:dropR l k=l:=by unfold dropR;rw [if_neg (by simp [hh])]
  rw [e]
  refine ⟨hl,fun r=>⟨fun h=>⟨h,?_⟩,fun h=>h.1⟩,Nat.le_refl _⟩
  rw [he] at h
  rcases List.mem_append.1 h with h | h
  ·exact sLt_ne (h1 r h)
  ·exact (sLt_ne (h2 r h)).symm
theorem rising_ext {a b:List RowM} (ha:Rising a) (hb:Rising b) (h:∀ r,r ∈ a↔r ∈ b):a=b:=by
 induction a generalizing b with
 | nil=>
  cases b with
  | nil=>rfl
  | cons x b=>have:=(h x).2 (by simp);cases this
 | cons x a ih=>
  have hpa:=List.pairwise_cons.1 ha
  cases b with
  | nil=>have:=(h x).1 (by simp);cases this
  | cons y b=>
   have hpb:=List.pairwise_cons.1 hb
   have exy:x=y:=by
    rcases List.mem_cons.1 ((h x).1 (by simp)) with e | hx
    ·exact e
    ·rcases List.mem_cons.1 ((h y).2 (by simp)) with e | hy
     ·exact e.symm
     ·have:=sLt_trans (hpb.1 x hx) (hpa.1 y hy)
      rw [sLt_irrefl] at this;cases this
   subst exy
   congr 1
   refine ih hpa.2 hpb.2 fun r=>?_
   constructor
   ·intro hr
    rcases List.mem_cons.1 ((h r).1 (by simp [hr])) with e | h'
    ·subst e;have:=hpa.1 r hr;rw [sLt_irrefl] at this;cases this
    ·exact h'
   ·intro hr
    rcases List.mem_cons.1 ((h r).2 (by simp [hr])) with e | h'
    ·subst e;have:=hpb.1 r hr;rw [sLt_irrefl] at this;cases this
    ·exact h'
theorem rising_one {l:List RowM} (hl:Rising l) {a b:RowM} (ha:a ∈ l) (hb:b ∈ l) (h:a.key=b.key):a=b:=by
 induction l with
 | nil=>cases ha
 | cons x l ih=>
  have hp:=List.pairwise_cons.1 hl
  rcases List.mem_cons.1 ha with e1 | h1 <;> rcases List.mem_cons.1 hb with e2 | h2
  ·rw [e1,e2]
  ·subst e1;exact absurd h (sLt_ne (hp.1 b h2))
  ·subst e2;exact absurd h.symm (sLt_ne (hp.1 a h1))
  ·exact ih hp.2 h1 h2
def applyC (l:List RowM) (c:ChgM):List RowM:=if c.gone then dropR l c.key else setR l c.key c.val
def changeR (l:List RowM) (cs:List ChgM):List RowM:=cs.foldl applyC l
theorem applyC_rising {l:List RowM} (hl:Rising l) (c:ChgM):Rising (applyC l c)∧(applyC l c).length≤l.length+1:=by
 unfold applyC;split
 ·exact ⟨(dropR_spec hl _).1,Nat.le_succ_of_le (dropR_spec hl _).2.2⟩
 ·exact ⟨(setR_spec hl _ _).1,(setR_spec hl _ _).2.2⟩
theorem changeR_rising:∀ (cs:List ChgM) {l:List RowM},Rising l→Rising (changeR l cs)∧(changeR l cs).length≤l.length+cs.length
 | [],_,h=>⟨h,Nat.le_refl _⟩
 | c::cs,l,h=>by
  have h1:=applyC_rising h c
  have h2:=changeR_rising cs h1.1
  exact ⟨h2.1,by have:=h2.2;simp only [changeR,List.foldl_cons,List.length_cons] at *;omega⟩
theorem mem_applyC {l:List RowM} (hl:Rising l) (c:ChgM) (r:RowM):r ∈ applyC l c↔(c.gone=false∧r=⟨c.key,c.val⟩)∨(r ∈ l∧r.key≠c.key):=by
 unfold applyC;split
 ·rename_i h;rw [(dropR_spec hl _).2.1];simp [h]
 ·rename_i h;rw [(setR_spec hl _ _).2.1];simp [h]
def inSpan (p:SpanM) (k:ByteArray):Bool:=sIn k p.a p.b
def scanR (l:List RowM) (p:SpanM) (most:Nat):List RowM:=(l.filter fun r=>inSpan p r.key).take most
theorem sIn_iff {k a b:ByteArray}:sIn k a b=true↔(sLt k a=false∧sLt b k=false):=by
 have hle:∀ x y:ByteArray,(sLt x y || sEq x y)=true↔sLt y x=false:=fun x y=>by
  rcases sLt_tri x y with h | h | h
  ·simp [h,sLt_asymm h]
  ·subst h;simp [sLt_irrefl,sEq_iff]
  ·simp [h,sLt_asymm h]
   cases e:sEq x y with
   | false=>rfl
   | true=>rw [sEq_iff.1 e,sLt_irrefl] at h;cases h
 unfold sIn
 rw [Bool.and_eq_true,hle,hle]
theorem sMax_iff (a b:ByteArray):sMax a b=if sLt a b then b else a:=by
 rcases sLt_tri a b with h | h | h
 ·simp [sMax,h]
 ·subst h;simp [sMax,sLt_irrefl]
 ·simp [sMax,h,sLt_asymm h]
theorem sLe_trans {a b c:ByteArray} (h:sLt b a=false) (h':sLt c b=false):sLt c a=false:=by
 cases e:sLt c a with
 | false=>rfl
 | true=>
  rcases sLt_tri b c with h1 | h1 | h1
  ·rw [sLt_trans h1 e] at h;cases h
  ·subst h1;rw [h] at e;cases e
  ·rw [h1] at h';cases h'
theorem meet_iff {a b:SpanM}:meet a b=true↔∃ k,inSpan a k=true∧inSpan b k=true:=by
 unfold meet inSpan
 rw [Bool.and_eq_true,sMax_iff]
 constructor
 ·rintro ⟨h1,h2⟩;exact ⟨_,h1,h2⟩
 ·rintro ⟨k,h1,h2⟩
  rw [sIn_iff] at h1 h2
  simp only [sIn_iff]
  split
  ·rename_i h
   exact ⟨⟨sLt_asymm h,sLe_trans h2.1 h1.2⟩,sLt_irrefl _,sLe_trans h2.1 h2.2⟩
  ·rename_i h
   simp only [Bool.not_eq_true] at h
   exact ⟨⟨sLt_irrefl _,sLe_trans h1.1 h1.2⟩,h,sLe_trans h1.1 h2.2⟩
theorem set_app {A D:List RowM} {x y:RowM} {n:Nat} (h:A.length=n):(A++x::D).set n y=A++y::D:=by subst h;simp
theorem scan_eq {l:List RowM} (hl:Rising l) (s:SpanM):(l.drop (lowI l s.a)).takeWhile (fun r=>!sLt s.b r.key)=l.filter fun r=>inSpan s r.key:=by
 obtain ⟨A,D,rfl,ha,h1,h2,h3,h4⟩:=key_split hl s.a
 rw [← ha,List.drop_left,List.filter_append]
 have e1:A.filter (fun r=>inSpan s r.key)=[]:=by
  rw [List.filter_eq_nil_iff]
  intro r hr h
  rw [inSpan,sIn_iff,h1 r hr] at h;cases h.1
 rw [e1,List.nil_append]
 clear ha e1 h1 hl h3
 induction D with
 | nil=>rfl
 | cons x D ih=>
  have hp:=List.pairwise_cons.1 h4
  have hx:=h2 x (by simp)
  rw [List.takeWhile_cons,List.filter_cons]
  cases e:sLt s.b x.key with
  | false=>
   have:inSpan s x.key=true:=by rw [inSpan,sIn_iff];exact ⟨hx,e⟩
   simp [this,ih (fun r hr=>h2 r (by simp [hr])) hp.2]
  | true=>
   have hn:inSpan s x.key=false:=by
    cases e2:inSpan s x.key with
    | false=>rfl
    | true=>rw [inSpan,sIn_iff,e] at e2;cases e2.2
   have:D.filter (fun r=>inSpan s r.key)=[]:=by
    rw [List.filter_eq_nil_iff]
    intro r hr h
    rw [inSpan,sIn_iff,sLt_trans e (hp.1 r hr)] at h;cases h.2
   simp [hn,this]
theorem meet_self {s:SpanM} {l:List RowM} (h:meet s s=false):l.filter (fun r=>inSpan s r.key)=[]:=by
 rw [List.filter_eq_nil_iff]
 intro r _ hr
 have:meet s s=true:=meet_iff.2 ⟨_,hr,hr⟩
 rw [h] at this;cases this
theorem has_at {l:List RowM} {k:ByteArray} (h:hasI l k=true):∃ u,l[lowI l k]?=some ⟨k,u⟩:=by
 unfold hasI at h
 cases e:l[lowI l k]? with
 | none=>rw [e] at h;cases h
 | some r=>rw [e] at h;have:=sEq_iff.1 h;subst this;exact ⟨r.val,rfl⟩
theorem has_lt {l:List RowM} {k:ByteArray} (h:hasI l k=true):lowI l k < l.length:=by obtain ⟨u,hu⟩:=has_at h;exact idx_lt hu
theorem changeR_snoc (l:List RowM) (cs:List ChgM) (c:ChgM):changeR l (cs++[c])=applyC (changeR l cs) c:=by simp [changeR]
theorem sgt_eq (a b:ByteArray):(!(sLt a b || sEq a b))=sLt b a:=by
 rcases sLt_tri a b with h | h | h
 ·simp [h,sLt_asymm h]
 ·subst h;simp [sLt_irrefl,sEq_iff]
 ·have:sEq a b=false:=by
   cases e:sEq a b with
   | false=>rfl
   | true=>rw [sEq_iff.1 e,sLt_irrefl] at h;cases h
  simp [h,sLt_asymm h,this]
end Go.SL
namespace Go.SL.Fc
open Go Go.Proofs Go.SL
theorem ov1_229:(Tryz.f229.name == "runtime.NumGoroutine")=false:=by kernel_rfl
theorem ov2_229:Tryz.f229.body.isNone=true:=by kernel_rfl
theorem ov3_229:Extern.findNext Tryz.f229=none:=by kernel_rfl
theorem ov4_229:Extern.find Tryz.f229=some (Extern.SlicesOverlaps.overlaps #[24,24] #[4]):=by kernel_rfl
end Go.SL.Fc
namespace Go.SL
open Go Go.Proofs Fc
theorem Insert_spec {g:World} {u:Value} {A D:List RowM} {x:RowM} {bv:Nat} (hn:(A++D).length≤68719476000) :
  Spec Tryz.prog g 169 [u,.int .i64 A.length,(.slice (some ⟨bv,0,none⟩) 1 1)] [Sl 59 2 RowM.c u (A++D),cl bv 59 (RowM.c x)] fun K R=>∀ a m c,K (.slice a m c) (Sl 59 2 RowM.c (.slice a m c) (A++x::D)::R):=by
 have hlen:(A++D).length=A.length+D.length:=by simp
 refine Spec.intro Tryz.func169 rfl Tryz.ntmps169 rfl fun R K hK=>?_
 refine WP.seq<|WP.reg<|WL.e e_assign<|WL.next<|WP.seq<|WP.reg<|WL.e e_move<|WL.e e_move<|WL.e (el_from (lo:=A.length) sl24 (sl_rl (xs:=A++D)) (by simp))<|WL.next<|WP.seq<|WP.reg<|WL.e e_move<|WL.e (e_len_sl sl24)<|WL.e e_assign<|WL.next<|WP.seq<|WP.seq<|WP.reg<|WL.e e_move<|WL.e e_eql<|WL.next ?_
 refine WP.cond rfl (fun h0=>?_) (fun h0=>?_)
 ·simp at h0
 ·skip
  refine WP.skip<|PO.next<|WP.seq<|WP.reg<|WL.e e_move<|WL.e (el_len sl24 (sl_rl (xs:=A++D)))<|WL.e e_assign<|WL.next<|WP.seq<|WP.seq<|WP.reg<|WL.e e_move<|WL.e e_move<|WL.e e_eql<|WL.next ?_
  refine WP.cond rfl (fun h1=>?_) (fun h1=>?_)
  ·obtain rfl:D=[]:=List.eq_nil_of_length_eq_zero (by simp at h1;omega)
   refine WP.seq<|WP.reg<|WL.e e_move<|WL.e e_move ?_
   refine WL.h (hl_append (xs:=A++[]) (ys:=[x]) sl24 rowE z59 (lit_rl (b:=bv) (E:=59) (l:=RowM.c x) rowE [x] (by simp)) (by simp at hn ⊢;omega) (fun a m c=>?_))
   rw [List.append_nil]
   refine WL.e e_assign<|WL.next<|WP.ret<|PO.past nofun ?_
   exact PO.fin Tryz.results169 (rv_tmp rv_nil) (hK a m c)
  ·have hD0:0 < D.length:=by simp at h1;omega
   refine WP.own_open (n:=(A++D).length) (by omega) (by exact .z) ?_
   rintro b o c l rfl hnc hc hl hcs
   have hcA:(l.drop o).take (A.length * 2)=A.flatMap RowM.c:=by
    have:=congrArg (List.take (A.length * 2)) hcs
    rwa [List.take_take,Nat.min_eq_left (Nat.mul_le_mul_right _ (by omega)),List.flatMap_append,List.take_left' (flat_len rowE A)] at this
   have hA0:At (subAt (.slice (some ⟨b,o,none⟩) (A++D).length c) 0 A.length c 2) b o A.length c:=by have:=(At.lit (b:=b) (o:=o) hnc).sub (lo:=0) (hi:=A.length) (m:=c) (z:=2) (by omega) (by omega) (Nat.le_refl _);simpa using this
   have hAD:At (subAt (.slice (some ⟨b,o,none⟩) (A++D).length c) A.length (A++D).length c 2) b (o+A.length * 2) D.length (c - A.length):=by have:=(At.lit (b:=b) (o:=o) hnc).sub (lo:=A.length) (hi:=(A++D).length) (m:=c) (z:=2) (by omega) (by omega) (Nat.le_refl _);rwa [show (A++D).length - A.length=D.length by omega] at this
   refine WP.skip<|PO.next<|WP.seq<|WP.seq<|WP.reg<|WL.e e_move<|WL.e e_move<|WL.e (e_add (c:=(((A++D).length+1:Nat):Int)) rfl rfl (by rw [w_i64 (by omega) (by omega)];omega))<|WL.e e_move<|WL.e (e_cap sl24 rfl (At.lit hnc))<|WL.e e_gtr<|WL.next ?_
   refine WP.cond rfl (fun h2=>?_) (fun h2=>?_)
   ·replace h2:c < (A++D).length+1:=by simp at h2;omega
    have hgro:∀ u,Own 59 2 u (A.length+(D.length+1)) ((l.drop o).take (A.length * 2)++(List.replicate (D.length+1) [.string .empty,.int .u32 0]).flatten)=Sl 59 2 RowM.c u (A++List.replicate (D.length+1) ⟨.empty,0⟩):=fun u=>by
     unfold Sl
     rw [hcA,List.flatMap_append,show (List.replicate (D.length+1) (⟨.empty,0⟩:RowM)).flatMap RowM.c=(List.replicate (D.length+1) [.string .empty,.int .u32 0]).flatten by simp [List.flatMap_replicate];rfl,List.length_append,List.length_replicate]
    refine WP.seq<|WP.reg<|WL.e e_move<|WL.e e_move<|WL.e (e_slice_at (lo:=0) (hi:=A.length) (m:=c) (c:=c) (n:=(A++D).length) sl24 rfl (At.lit hnc) (.inl ⟨rfl,rfl⟩) (.inr ⟨_,_,rfl,rfl⟩) (.inl ⟨rfl,rfl⟩) (by omega) (by omega) (Nat.le_refl _))<|WL.e e_move<|WL.e e_move<|WL.e (e_add (c:=(((A++D).length+1:Nat):Int)) rfl rfl (by rw [w_i64 (by omega) (by omega)];omega))<|WL.e e_move<|WL.e (e_sub (c:=((D.length+1:Nat):Int)) rfl rfl (by rw [w_i64 (by omega) (by omega)];omega)) ?_
    refine WL.h (h_grow (n:=A.length) (c:=c) (k:=D.length+1) (b:=b) (o:=o) sl24 Tryz.underlying3 z59 rfl hA0 hl (by omega) (by omega) (by decide) (by decide) (fun a3 n3 c3=>?_))
    rw [hgro]
    refine WL.e e_assign<|WL.next<|WP.seq<|WP.reg<|WL.e e_move<|WL.e e_move<|WL.e (el_from (lo:=A.length) sl24 (sl_rl (xs:=(A++List.replicate (D.length+1) ⟨.empty,0⟩))) (by simp))<|WL.e e_move ?_
    refine WL.h (hl_copy (lo:=A.length) (xs:=(A++List.replicate (D.length+1) ⟨.empty,0⟩)) (ys:=[x]) sl24 rowE (by simp) (lit_rl (b:=bv) (E:=59) (l:=RowM.c x) rowE [x] (by simp)) ?_)
    refine WL.next<|WP.seq<|WP.draws mixedOk 9<|RW.e 0 rfl e_move<|RW.e 1 rfl e_move<|RW.e 2 rfl e_move<|RW.e 3 rfl (e_add (c:=((A.length+1:Nat):Int)) rfl rfl (by rw [w_i64 (by omega) (by omega)];omega))<|RW.e 4 rfl (el_from (lo:=A.length+1) sl24 (sl_rl (xs:=over (A++List.replicate (D.length+1) ⟨.empty,0⟩) A.length [x])) (by rw [over_len _ _ _ (by simp)];simp))<|RW.e 5 rfl e_move<|RW.e 6 rfl e_move<|RW.e 7 rfl (e_slice_at (lo:=A.length) (hi:=(A++D).length) (m:=c) (c:=c) (n:=(A++D).length) sl24 rfl (At.lit hnc) (.inr ⟨_,_,rfl,rfl⟩) (.inl ⟨rfl,rfl,rfl⟩) (.inl ⟨rfl,rfl⟩) (by omega) (by omega) (Nat.le_refl _)) ?_
    refine RW.any (is:=[8]) rfl ⟨?_,trivial⟩
    refine RWat.h rfl rfl rfl ?_
    refine (hl_copy (lo:=A.length+1) (xs:=over (A++List.replicate (D.length+1) ⟨.empty,0⟩) A.length [x]) (ys:=D) (B:=cl b 59 l) sl24 rowE (by rw [over_len _ _ _ (by simp)];simp) (rd_part rowE hAD (by have:(c - A.length) * 2=c * 2 - A.length * 2:=Nat.sub_mul _ _ _;have:=Nat.mul_le_mul_right 2 (show A.length≤c by omega);omega) rfl (by have:=congrArg (List.drop (A.length * 2)) hcs;rw [List.drop_take,flat_drop rowE,List.drop_drop,← Nat.sub_mul,List.drop_left] at this;rwa [show (A++D).length - A.length=D.length by omega] at this)) ?_)
    refine ⟨trivial,?_⟩
    refine RW.done<|PO.next<|WP.seq<|WP.reg<|WL.e e_move<|WL.e e_assign<|WL.next<|WP.ret<|PO.past nofun ?_
    rw [over_ins]
    exact PO.fin Tryz.results169 (rv_tmp rv_nil) (hK a3 n3 c3)
   ·replace h2:(A++D).length+1≤c:=by simp at h2;omega
    obtain ⟨ic1,ic2,ic3,ic4⟩:=ins_cells (x:=x) rowE hl h2 hcs
    have hones:ones (((l.drop (o+A.length * 2)).take ((D.length+1) * 2)).take (Nat.min (D.length+1) D.length * 2))=true:=by rw [show Nat.min (D.length+1) D.length=D.length from Nat.min_eq_right (by omega),List.take_take,Nat.min_eq_left (Nat.mul_le_mul_right 2 (show D.length≤D.length+1 by omega)),ic4];exact ones_flat rowE D
    have hmz:((A++D).length+1) * 2≤c * 2:=Nat.mul_le_mul_right _ h2
    have hA2:At (subAt (.slice (some ⟨b,o,none⟩) (A++D).length c) 0 ((A++D).length+1) c 2) b o ((A++D).length+1) c:=by have:=(At.lit (b:=b) (o:=o) hnc).sub (lo:=0) (hi:=(A++D).length+1) (m:=c) (z:=2) (by omega) h2 (Nat.le_refl _);simpa using this
    have hA3:At (subAt (subAt (.slice (some ⟨b,o,none⟩) (A++D).length c) 0 ((A++D).length+1) c 2) (A.length+1) ((A++D).length+1) c 2) b (o+(A.length+1) * 2) D.length (c - (A.length+1)):=by have:=hA2.sub (lo:=A.length+1) (hi:=(A++D).length+1) (m:=c) (z:=2) (by omega) h2 (Nat.le_refl _);rwa [show (A++D).length+1 - (A.length+1)=D.length by omega] at this
    have hOv:∃ o2,subAt (subAt (.slice (some ⟨b,o,none⟩) (A++D).length c) 0 ((A++D).length+1) c 2) (A.length+1) ((A++D).length+1) c 2=.slice (some ⟨b,o2,none⟩) D.length (c - (A.length+1)):=⟨_,by obtain ⟨y,hy,_,rfl | h⟩:=hA3;exact hy;omega⟩
    have hA4:At (subAt (subAt (.slice (some ⟨b,o,none⟩) (A++D).length c) 0 ((A++D).length+1) c 2) A.length ((A++D).length+1) c 2) b (o+A.length * 2) (D.length+1) (c - A.length):=by have:=hA2.sub (lo:=A.length) (hi:=(A++D).length+1) (m:=c) (z:=2) (by omega) h2 (Nat.le_refl _);rwa [show (A++D).length+1 - A.length=D.length+1 by omega] at this
    refine WP.skip<|PO.next<|WP.seq<|WP.reg<|WL.e e_move<|WL.e e_move<|WL.e e_move<|WL.e (e_add (c:=(((A++D).length+1:Nat):Int)) rfl rfl (by rw [w_i64 (by omega) (by omega)];omega))<|WL.e (e_slice_at (lo:=0) (hi:=(A++D).length+1) (m:=c) (c:=c) (n:=(A++D).length) sl24 rfl (At.lit hnc) (.inl ⟨rfl,rfl⟩) (.inr ⟨_,_,rfl,rfl⟩) (.inl ⟨rfl,rfl⟩) (by omega) h2 (Nat.le_refl _))<|WL.e e_assign<|WL.next<|WP.seq<|WP.seq<|WP.reg<|WL.e e_move<|WL.e e_move<|WL.e e_move<|WL.e e_move<|WL.e (e_add (c:=((A.length+1:Nat):Int)) rfl rfl (by rw [w_i64 (by omega) (by omega)];omega))<|WL.e (e_slice_at (lo:=A.length+1) (hi:=(A++D).length+1) (m:=c) (c:=c) (n:=(A++D).length+1) sl24 rfl hA2 (.inr ⟨_,_,rfl,rfl⟩) (.inl ⟨rfl,rfl,rfl⟩) (.inl ⟨rfl,rfl⟩) (by omega) h2 (Nat.le_refl _)) ?_
    refine WL.h (h_overlaps (U:=59) (l1:=RowM.c x) (l2:=l) (b1:=bv) (b2:=b) (n2:=D.length) (c2:=c - (A.length+1)) (n1:=1) (c1:=1) (o1:=0) Tryz.func229 ov1_229 ov2_229 ov3_229 ov4_229 sl24 rfl hOv (by repeat first | exact .z | apply Pick.s) (by repeat first | exact .z | apply Pick.s) (by omega) ?_)
    refine WL.e e_not<|WL.next<|WP.cond_t rfl<|WP.seq<|WP.draws mixedOk 9<|RW.e 0 rfl e_move<|RW.e 1 rfl e_move<|RW.e 2 rfl e_move<|RW.e 3 rfl (e_add (c:=((A.length+1:Nat):Int)) rfl rfl (by rw [w_i64 (by omega) (by omega)];omega))<|RW.e 4 rfl (e_slice_at (lo:=A.length+1) (hi:=(A++D).length+1) (m:=c) (c:=c) (n:=(A++D).length+1) sl24 rfl hA2 (.inr ⟨_,_,rfl,rfl⟩) (.inl ⟨rfl,rfl,rfl⟩) (.inl ⟨rfl,rfl⟩) (by omega) h2 (Nat.le_refl _))<|RW.e 5 rfl e_move<|RW.e 6 rfl e_move<|RW.e 7 rfl (e_slice_at (lo:=A.length) (hi:=(A++D).length+1) (m:=c) (c:=c) (n:=(A++D).length+1) sl24 rfl hA2 (.inr ⟨_,_,rfl,rfl⟩) (.inl ⟨rfl,rfl,rfl⟩) (.inl ⟨rfl,rfl⟩) (by omega) h2 (Nat.le_refl _)) ?_
    refine RW.any (is:=[8]) rfl ⟨?_,trivial⟩
    refine RWat.h rfl rfl rfl ?_
    refine (h_copy (n:=D.length) (c:=c - (A.length+1)) (k:=D.length+1) (o:=o+(A.length+1) * 2) (U:=59) (l:=l) (ds:=(l.drop (o+A.length * 2)).take ((D.length+1) * 2)) (B:=cl b 59 l) sl24 hA3 (by have:(c - (A.length+1)) * 2=c * 2 - (A.length+1) * 2:=Nat.sub_mul _ _ _;have:=Nat.mul_le_mul_right 2 (show A.length+1≤c by omega);omega) (hA4.rd (by have:(c - A.length) * 2=c * 2 - A.length * 2:=Nat.sub_mul _ _ _;have:=Nat.mul_le_mul_right 2 (show A.length≤c by omega);omega)) hones ?_)
    rw [show Nat.min (D.length+1) D.length=D.length from Nat.min_eq_right (by omega),List.take_take,Nat.min_eq_left (Nat.mul_le_mul_right 2 (show D.length≤D.length+1 by omega)),ic4]
    refine ⟨trivial,?_⟩
    refine RW.done<|PO.next<|WP.seq<|WP.reg<|WL.e e_move<|WL.e e_move<|WL.e (e_slice_at (lo:=A.length) (hi:=(A++D).length+1) (m:=c) (c:=c) (n:=(A++D).length+1) sl24 rfl hA2 (.inr ⟨_,_,rfl,rfl⟩) (.inl ⟨rfl,rfl,rfl⟩) (.inl ⟨rfl,rfl⟩) (by omega) h2 (Nat.le_refl _))<|WL.e e_move ?_
    refine WL.h (h_copy (n:=D.length+1) (c:=c - A.length) (k:=1) (o:=o+A.length * 2) (U:=59) (l:=splice l (o+(A.length+1) * 2) (D.flatMap RowM.c)) (ds:=RowM.c x) (B:=cl bv 59 (RowM.c x)) sl24 hA4 (by rw [ic3];have:(c - A.length) * 2=c * 2 - A.length * 2:=Nat.sub_mul _ _ _;have:=Nat.mul_le_mul_right 2 (show A.length≤c by omega);omega) (cl_rd (b:=bv) (n:=1) (c:=1) (o:=0) (z:=2) (Nat.le_refl 1) (by rw [rowE.len];omega) (by rw [List.drop_zero,List.take_of_length_le (by rw [rowE.len];omega)])) (ones_take _ (rowE.one x)) ?_)
    rw [show Nat.min 1 (D.length+1)=1 from Nat.min_eq_left (by omega),List.take_of_length_le (show (RowM.c x).length≤1 * 2 by rw [rowE.len];omega)]
    refine WL.next<|WP.seq<|WP.reg<|WL.e e_move<|WL.e e_assign<|WL.next<|WP.ret<|PO.past nofun ?_
    refine PO.cls (A:=Sl 59 2 RowM.c (subAt (.slice (some ⟨b,o,none⟩) (A++D).length c) 0 ((A++D).length+1) c 2) (A++x::D)) (B:=[cl b 59 _]) (fun S h=>?_) ?_
    ·have h:=stars_one h
     unfold Sl
     rw [show (A++x::D).length=(A++D).length+1 by simp;omega]
     refine at_own hA2 hc ?_ ?_ S h
     ·rw [ic2];exact hl
     ·exact ic1
    exact PO.fin Tryz.results169 (rv_tmp rv_nil) (hK _ _ _)
end Go.SL
