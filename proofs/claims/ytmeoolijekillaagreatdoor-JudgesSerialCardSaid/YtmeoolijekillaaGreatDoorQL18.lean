import Derived.Test.YtmeoolijekillaaGreatDoorQL17
set_option linter.unusedSimpArgs false
set_option linter.unusedVariables false
namespace Go.SL.Fc
open Go Go.Proofs Go.SL
theorem a123:aggOf Tryz.prog 123=some (some 1):=by kernel_rfl
theorem a36:aggOf Tryz.prog 36=some none:=by kernel_rfl
theorem a37:aggOf Tryz.prog 37=some none:=by kernel_rfl
theorem a39:aggOf Tryz.prog 39=some (some 5):=by kernel_rfl
theorem f123_0:fldOf Tryz.prog 123 0=some 0:=by kernel_rfl
theorem f39_3:fldOf Tryz.prog 39 3=some 3:=by kernel_rfl
theorem f39_4:fldOf Tryz.prog 39 4=some 4:=by kernel_rfl
theorem k130:callable Tryz.prog 130=true:=by kernel_rfl
theorem k185:callable Tryz.prog 185=true:=by kernel_rfl
theorem k42:callable Tryz.prog 42=true:=by kernel_rfl
theorem k83:callable Tryz.prog 83=true:=by kernel_rfl
theorem k84:callable Tryz.prog 84=true:=by kernel_rfl
theorem sl22:slOf Tryz.prog 22=some (39,5,64):=by kernel_rfl
theorem sl36:slOf Tryz.prog 36=some (115,4,48):=by kernel_rfl
theorem sl37:slOf Tryz.prog 37=some (123,1,24):=by kernel_rfl
end Go.SL.Fc
namespace Go.SL
open Go Go.Proofs Fc
theorem RowsSize_spec {g:World} {A:HP} {u:Value} {xs:List RowM} (hA:RL A 2 RowM.c u xs) (hn:xs.length≤140737488351232) (hs:∀ r ∈ xs,r.key.size≤140737488351232):Spec Tryz.prog g 185 [u] [A] fun K R=>∀ n:Nat,xs.length≤n→n≤281474976710656→K (.int .i64 n) (A::R):=by
  refine Spec.intro Tryz.func185 rfl Tryz.ntmps185 rfl fun R K hK=>?_
  refine WP.seq<|WP.reg<|WL.e e_assign<|WL.next<|WP.seq<|WP.reg<|WL.e e_move<|WL.e (el_len (xs:=xs) sl24 hA)<|WL.e e_assign<|WL.next<|WP.seq<|WP.seq<|WP.reg<|WL.e e_assign<|WL.next<|WP.block<|WP.loopK (fun (z:Nat × Nat)=>[(4,.int .i64 z.1),(3,.int .i64 z.2)]) (fun (z:Nat × Nat)=>A::R) [(0,_),(2,_)] (fun (z:Nat × Nat)=>z.1≤xs.length∧xs.length≤z.2∧z.2≤281474976710656∧(True)) (fun (z:Nat × Nat)=>xs.length - z.1) (0,xs.length) (⟨Nat.zero_le _,Nat.le_refl _,by simp only;omega,trivial⟩) ?_
  rintro ⟨i,n⟩ ⟨hi,hn1,hn2,hn3⟩
  simp only at hi hn1 hn2 hn3
  dsimp only
  refine WP.seq<|WP.seq<|WP.reg<|WL.e e_move<|WL.e e_move<|WL.e (el_len (xs:=xs) sl24 hA)<|WL.e e_lss<|WL.e e_move ?_
  refine WL.join 14 (.bool (decide (i < xs.length∧n≤1048576))) (.c (.c (.c .n))) ?_ ?_
  · refine WL.bool 11 rfl (fun hg=>?_) (fun hg=>?_)
    · skip
      refine WL.e e_move<|WL.e e_leq<|WL.e e_pick_t ?_
      exact WL.nil (PO.joined rfl (by congr 1;rw [Bool.eq_iff_iff];simp at hg ⊢;omega))
    · skip
      refine WL.skip<|WL.skip<|WL.e e_pick_f ?_
      exact WL.nil (PO.joined rfl (by congr 1;rw [Bool.eq_iff_iff];simp at hg ⊢;omega))
  refine WL.next ?_
  refine WP.cond rfl (fun h1=>?_) (fun h1=>?_)
  · replace h1:=of_decide_eq_true h1
    have hlt:=h1.1
    obtain ⟨x,hx⟩:∃ x,xs[i]?=some x:=⟨_,List.getElem?_eq_getElem h1.1⟩
    have hm:=List.mem_of_getElem? hx
    have hz:=hs x hm
    refine WP.skip<|PO.next<|WP.seq<|WP.block<|WP.reg<|WL.e e_move<|WL.e e_move<|WL.e e_move<|WL.e (el_ia (j:=i) (xs:=xs) sl24 hA hlt)<|WL.e (el_fa (j:=i) (xs:=xs) f59_0 hA hlt)<|WL.e (el_load0 (j:=i) (xs:=xs) (a:=x) a9 rowE hA hx)<|WL.e (e_len_str Tryz.underlying9)<|WL.e (e_add (c:=((n+x.key.size:Nat):Int)) rfl rfl (by rw [w_i64 (by omega) (by omega)];omega))<|WL.e e_assign<|WL.nil<|PO.blockN<|PO.next<|WP.reg<|WL.e e_move<|WL.e (e_add (c:=((i+1:Nat):Int)) rfl rfl (by rw [w_i64 (by omega) (by omega)];omega))<|WL.e e_assign<|WL.nil ?_
    exact PO.againK (i+1,n+x.key.size) ⟨by simp only;omega,by simp only;omega,by simp only;omega,trivial⟩ (by simp only;omega)
  · skip
    refine WP.exit<|PO.past nofun<|PO.round nofun<|PO.blockX<|PO.next<|WP.seq<|WP.reg<|WL.e e_move<|WL.e e_assign<|WL.next<|WP.ret ?_
    exact PO.fin Tryz.results185 (rv_tmp rv_nil) (hK n hn1 hn2)
theorem OpsSize_spec {g:World} {A:HP} {u:Value} {xs:List OpM} (hA:RL A 4 OpM.c u xs) (hn:xs.length≤140737488351232) (hs:∀ r ∈ xs,r.key.size≤140737488351232∧r.to.size≤140737488351232):Spec Tryz.prog g 83 [u] [A] fun K R=>∀ n:Nat,xs.length≤n→n≤562949953421312→K (.int .i64 n) (A::R):=by
  refine Spec.intro Tryz.func83 rfl Tryz.ntmps83 rfl fun R K hK=>?_
  refine WP.seq<|WP.reg<|WL.e e_assign<|WL.next<|WP.seq<|WP.reg<|WL.e e_move<|WL.e (el_len (xs:=xs) sl36 hA)<|WL.e e_assign<|WL.next<|WP.seq<|WP.seq<|WP.reg<|WL.e e_assign<|WL.next<|WP.block<|WP.loopK (fun (z:Nat × Nat)=>[(4,.int .i64 z.1),(3,.int .i64 z.2)]) (fun (z:Nat × Nat)=>A::R) [(0,_),(2,_)] (fun (z:Nat × Nat)=>z.1≤xs.length∧xs.length≤z.2∧z.2≤562949953421312∧(True)) (fun (z:Nat × Nat)=>xs.length - z.1) (0,xs.length) (⟨Nat.zero_le _,Nat.le_refl _,by simp only;omega,trivial⟩) ?_
  rintro ⟨i,n⟩ ⟨hi,hn1,hn2,hn3⟩
  simp only at hi hn1 hn2 hn3
  dsimp only
  refine WP.seq<|WP.seq<|WP.reg<|WL.e e_move<|WL.e e_move<|WL.e (el_len (xs:=xs) sl36 hA)<|WL.e e_lss<|WL.e e_move ?_
  refine WL.join 14 (.bool (decide (i < xs.length∧n≤1048576))) (.c (.c (.c .n))) ?_ ?_
  · refine WL.bool 11 rfl (fun hg=>?_) (fun hg=>?_)
    · skip
      refine WL.e e_move<|WL.e e_leq<|WL.e e_pick_t ?_
      exact WL.nil (PO.joined rfl (by congr 1;rw [Bool.eq_iff_iff];simp at hg ⊢;omega))
    · skip
      refine WL.skip<|WL.skip<|WL.e e_pick_f ?_
      exact WL.nil (PO.joined rfl (by congr 1;rw [Bool.eq_iff_iff];simp at hg ⊢;omega))
  refine WL.next ?_
  refine WP.cond rfl (fun h1=>?_) (fun h1=>?_)
  · replace h1:=of_decide_eq_true h1
    have hlt:=h1.1
    obtain ⟨x,hx⟩:∃ x,xs[i]?=some x:=⟨_,List.getElem?_eq_getElem h1.1⟩
    have hm:=List.mem_of_getElem? hx
    obtain ⟨hz,hz2⟩:=hs x hm
    refine WP.skip<|PO.next<|WP.seq<|WP.block<|WP.draws mixedOk 16<|RW.e 0 rfl e_move<|RW.e 1 rfl e_move<|RW.e 2 rfl e_move<|RW.e 3 rfl (el_ia (j:=i) (xs:=xs) sl36 hA hlt)<|RW.e 4 rfl (el_fa (z:=4) (j:=i) (xs:=xs) f115_1 hA hlt)<|RW.e 5 rfl (el_load (j:=i) (f:=1) (xs:=xs) (a:=x) a9 opE hA hx)<|RW.e 6 rfl (e_len_str Tryz.underlying9)<|RW.e 7 rfl (e_add (c:=((n+x.key.size:Nat):Int)) rfl rfl (by rw [w_i64 (by omega) (by omega)];omega))<|RW.e 8 rfl e_move<|RW.e 9 rfl e_move<|RW.e 10 rfl (el_ia (j:=i) (xs:=xs) sl36 hA hlt)<|RW.e 11 rfl (el_fa (z:=4) (j:=i) (xs:=xs) f115_2 hA hlt)<|RW.e 12 rfl (el_load (j:=i) (f:=2) (xs:=xs) (a:=x) a9 opE hA hx)<|RW.e 13 rfl (e_len_str Tryz.underlying9)<|RW.e 14 rfl (e_add (c:=((n+x.key.size+x.to.size:Nat):Int)) rfl rfl (by rw [w_i64 (by omega) (by omega)];omega)) ?_
    refine RW.any (is:=[15]) rfl ⟨?_,trivial⟩
    refine RWat.h rfl rfl rfl<|HO.of_eo e_assign ?_
    refine ⟨trivial,?_⟩
    refine RW.done<|PO.blockN<|PO.next<|WP.reg<|WL.e e_move<|WL.e (e_add (c:=((i+1:Nat):Int)) rfl rfl (by rw [w_i64 (by omega) (by omega)];omega))<|WL.e e_assign<|WL.nil ?_
    exact PO.againK (i+1,n+x.key.size+x.to.size) ⟨by simp only;omega,by simp only;omega,by simp only;omega,trivial⟩ (by simp only;omega)
  · skip
    refine WP.exit<|PO.past nofun<|PO.round nofun<|PO.blockX<|PO.next<|WP.seq<|WP.reg<|WL.e e_move<|WL.e e_assign<|WL.next<|WP.ret ?_
    exact PO.fin Tryz.results83 (rv_tmp rv_nil) (hK n hn1 hn2)
theorem ResultSize_spec {g:World} {A:HP} {v:SV} {xs:List RowM} (hA:RL A 2 RowM.c v.v xs) (hn:xs.length≤140737488351232) (hs:∀ r ∈ xs,r.key.size≤140737488351232):Spec Tryz.prog g 130 [.agg #[v.v]] [A] fun K R=>∀ n:Nat,xs.length≤n→n≤562949953421312→K (.int .i64 n) (A::R):=by
  refine Spec.intro Tryz.func130 rfl Tryz.ntmps130 rfl fun R K hK=>?_
  refine WP.seq<|WP.reg ?_
  refine WL.h (h_box fun b1=>?_)
  refine WL.e e_assign<|WL.next<|WP.seq<|WP.reg<|WL.e e_assign<|WL.next<|WP.seq<|WP.seq<|WP.reg<|WL.e e_move<|WL.e e_leq<|WL.next<|WP.cond_t rfl<|WP.reg<|WL.e e_move<|WL.e (e_fa f123_0)<|WL.e (e_load a24) ?_
  refine WL.h (h_call (RowsSize_spec hA hn hs) k185 ?_)
  intro n hn1 hn2
  refine WL.e (e_add (c:=((1+n:Nat):Int)) rfl rfl (by rw [w_i64 (by omega) (by omega)];omega))<|WL.e e_assign<|WL.next<|WP.seq<|WP.reg<|WL.e e_move<|WL.e e_assign<|WL.next<|WP.ret ?_
  exact PO.fin Tryz.results130 (rv_tmp rv_nil) (hK (1+n) (by omega) (by omega))
theorem ResultsSize_spec {g:World} {A:HP} {u:Value} {ts:List ResV} (hA:RL A 1 resC u ts) (hB:∀ r ∈ ts,RL A 2 RowM.c r.1.v r.2) (hn:ts.length≤140737488351232) (hs:∀ r ∈ ts,r.2.length≤140737488351232∧∀ y ∈ r.2,y.key.size≤140737488351232):Spec Tryz.prog g 84 [u] [A] fun K R=>∀ n:Nat,ts.length≤n→n≤1125899906842624→(n≤1048576→∀ r ∈ ts,r.2.length≤n)→K (.int .i64 n) (A::R):=by
  refine Spec.intro Tryz.func84 rfl Tryz.ntmps84 rfl fun R K hK=>?_
  refine WP.seq<|WP.reg<|WL.e e_assign<|WL.next<|WP.seq<|WP.reg<|WL.e e_move<|WL.e (el_len (xs:=ts) sl37 hA)<|WL.e e_assign<|WL.next<|WP.seq<|WP.seq<|WP.reg<|WL.e e_assign<|WL.next<|WP.block<|WP.loopK (fun (z:Nat × Nat)=>[(4,.int .i64 z.1),(3,.int .i64 z.2)]) (fun (z:Nat × Nat)=>A::R) [(0,_),(2,_)] (fun (z:Nat × Nat)=>z.1≤ts.length∧ts.length≤z.2∧z.2≤1125899906842624∧(∀ r ∈ ts.take z.1,r.2.length≤z.2)) (fun (z:Nat × Nat)=>ts.length - z.1) (0,ts.length) (⟨Nat.zero_le _,Nat.le_refl _,by simp only;omega,by simp⟩) ?_
  rintro ⟨i,n⟩ ⟨hi,hn1,hn2,hn3⟩
  simp only at hi hn1 hn2 hn3
  dsimp only
  refine WP.seq<|WP.seq<|WP.reg<|WL.e e_move<|WL.e e_move<|WL.e (el_len (xs:=ts) sl37 hA)<|WL.e e_lss<|WL.e e_move ?_
  refine WL.join 14 (.bool (decide (i < ts.length∧n≤1048576))) (.c (.c (.c .n))) ?_ ?_
  · refine WL.bool 11 rfl (fun hg=>?_) (fun hg=>?_)
    · skip
      refine WL.e e_move<|WL.e e_leq<|WL.e e_pick_t ?_
      exact WL.nil (PO.joined rfl (by congr 1;rw [Bool.eq_iff_iff];simp at hg ⊢;omega))
    · skip
      refine WL.skip<|WL.skip<|WL.e e_pick_f ?_
      exact WL.nil (PO.joined rfl (by congr 1;rw [Bool.eq_iff_iff];simp at hg ⊢;omega))
  refine WL.next ?_
  refine WP.cond rfl (fun h1=>?_) (fun h1=>?_)
  · replace h1:=of_decide_eq_true h1
    have hlt:=h1.1
    obtain ⟨x,hx⟩:∃ x,ts[i]?=some x:=⟨_,List.getElem?_eq_getElem h1.1⟩
    have hm:=List.mem_of_getElem? hx
    obtain ⟨hz,hz2⟩:=hs x hm
    refine WP.skip<|PO.next<|WP.seq<|WP.block<|WP.reg<|WL.e e_move<|WL.e e_move<|WL.e e_move<|WL.e (el_ia (j:=i) (xs:=ts) sl37 hA hlt)<|WL.e (el_loadN (vs:=resC x) (a:=x) (xs:=ts) a123 resE hA hx (hv:=ext_of (resE.len x))) ?_
    refine WL.h (h_call (ResultSize_spec (v:=x.1) (hB x hm) hz hz2) k130 ?_)
    intro m hm1 hm2
    refine WL.e (e_add (c:=((n+m:Nat):Int)) rfl rfl (by rw [w_i64 (by omega) (by omega)];omega))<|WL.e e_assign<|WL.nil<|PO.blockN<|PO.next<|WP.reg<|WL.e e_move<|WL.e (e_add (c:=((i+1:Nat):Int)) rfl rfl (by rw [w_i64 (by omega) (by omega)];omega))<|WL.e e_assign<|WL.nil ?_
    exact PO.againK (i+1,n+m) ⟨by simp only;omega,by simp only;omega,by simp only;omega,fun r hr=>by
      simp only at hr ⊢
      rw [take_snoc hx] at hr
      rcases List.mem_append.1 hr with hr | hr
      · have:=hn3 r hr;omega
      · simp only [List.mem_singleton] at hr;subst hr;omega⟩ (by simp only;omega)
  · replace h1:=of_decide_eq_false h1
    refine WP.exit<|PO.past nofun<|PO.round nofun<|PO.blockX<|PO.next<|WP.seq<|WP.reg<|WL.e e_move<|WL.e e_assign<|WL.next<|WP.ret ?_
    exact PO.fin Tryz.results84 (rv_tmp rv_nil) (hK n hn1 hn2 (fun h2 r hr=>hn3 r (by rw [List.take_of_length_le (by omega)];exact hr)))
theorem DeedSize_spec {g:World} {A:HP} {x:DX} (hA:DpD A x) (hs:SzP x.2):Spec Tryz.prog g 42 [.agg #[.int .u32 x.1.g.toNat,.int .u8 x.1.site.toNat,.int .u32 x.1.order.toNat,x.1.ops.v,x.1.res.v]] [A] fun K R=>∀ n:Nat,n≤2251799813685248→(n≤1048576→SmP n x.2)→K (.int .i64 n) (A::R):=by
  obtain ⟨ts,hT,hR,hM⟩:=hA.res
  refine Spec.intro Tryz.func42 rfl Tryz.ntmps42 rfl fun R K hK=>?_
  refine WP.seq<|WP.reg ?_
  refine WL.h (h_box fun b1=>?_)
  refine WL.e e_assign<|WL.next<|WP.seq<|WP.reg<|WL.e e_assign<|WL.next<|WP.seq<|WP.seq<|WP.reg<|WL.e e_move<|WL.e e_leq<|WL.next<|WP.cond_t rfl<|WP.reg<|WL.e e_move<|WL.e (e_fa f39_3)<|WL.e (e_load a36) ?_
  refine WL.h (h_call (OpsSize_spec hA.ops hs.ops hs.op) k83 ?_)
  intro n hn1 hn2
  refine WL.e (e_add (c:=((1+n:Nat):Int)) rfl rfl (by rw [w_i64 (by omega) (by omega)];omega))<|WL.e e_assign<|WL.next<|WP.seq<|WP.seq<|WP.reg<|WL.e e_move<|WL.e e_leq<|WL.next ?_
  refine WP.cond rfl (fun h1=>?_) (fun h1=>?_)
  · replace h1:1+n≤1048576:=by rw [decide_eq_true_eq] at h1;omega
    refine WP.reg<|WL.e e_move<|WL.e (e_fa f39_4)<|WL.e (e_load a37) ?_
    refine WL.h (h_call (ResultsSize_spec hT hR (by rw [← List.length_map (f:=(·.2)),hM];exact hs.res) (fun r hr=>⟨hs.rows _ (hM ▸ List.mem_map.2 ⟨r,hr,rfl⟩),hs.row _ (hM ▸ List.mem_map.2 ⟨r,hr,rfl⟩)⟩)) k84 ?_)
    intro m hm1 hm2 hm3
    refine WL.e (e_add (c:=((1+n+m:Nat):Int)) rfl rfl (by rw [w_i64 (by omega) (by omega)];omega))<|WL.e e_assign<|WL.next<|WP.seq<|WP.reg<|WL.e e_move<|WL.e e_assign<|WL.next<|WP.ret ?_
    exact PO.fin Tryz.results42 (rv_tmp rv_nil) (hK (1+n+m) (by omega) (fun h2=>⟨by omega,by rw [← hM,List.length_map];omega,fun l hl=>by
      rw [← hM] at hl
      obtain ⟨r,hr,rfl⟩:=List.mem_map.1 hl
      have:=hm3 (by omega) r hr
      omega⟩))
  · replace h1:¬ 1+n≤1048576:=by rw [decide_eq_false_iff_not] at h1;omega
    refine WP.skip<|PO.next<|WP.seq<|WP.reg<|WL.e e_move<|WL.e e_assign<|WL.next<|WP.ret ?_
    exact PO.fin Tryz.results42 (rv_tmp rv_nil) (hK (1+n) (by omega) (fun h2=>absurd h2 h1))
theorem DeedsSize_spec {g:World} {A:HP} {u:Value} {xs:List DX} (hA:RL A 5 dxC u xs) (hB:∀ y ∈ xs,DpD A y) (hn:xs.length≤140737488351232) (hs:∀ y ∈ xs,SzP y.2):Spec Tryz.prog g 15 [u] [A] fun K R=>∀ n:Nat,(n≤1048576→∀ y ∈ xs,SmP n y.2)→K (.int .i64 n) (A::R):=by
  refine Spec.intro Tryz.func15 rfl Tryz.ntmps15 rfl fun R K hK=>?_
  refine WP.seq<|WP.reg<|WL.e e_assign<|WL.next<|WP.seq<|WP.reg<|WL.e e_move<|WL.e (el_len (xs:=xs) sl22 hA)<|WL.e e_assign<|WL.next<|WP.seq<|WP.seq<|WP.reg<|WL.e e_assign<|WL.next<|WP.block<|WP.loopK (fun (z:Nat × Nat)=>[(4,.int .i64 z.1),(3,.int .i64 z.2)]) (fun (z:Nat × Nat)=>A::R) [(0,_),(2,_)] (fun (z:Nat × Nat)=>z.1≤xs.length∧xs.length≤z.2∧z.2≤4503599627370496∧(z.2≤1048576→∀ y ∈ xs.take z.1,SmP z.2 y.2)) (fun (z:Nat × Nat)=>xs.length - z.1) (0,xs.length) (⟨Nat.zero_le _,Nat.le_refl _,by simp only;omega,by simp⟩) ?_
  rintro ⟨i,n⟩ ⟨hi,hn1,hn2,hn3⟩
  simp only at hi hn1 hn2 hn3
  dsimp only
  refine WP.seq<|WP.seq<|WP.reg<|WL.e e_move<|WL.e e_move<|WL.e (el_len (xs:=xs) sl22 hA)<|WL.e e_lss<|WL.e e_move ?_
  refine WL.join 14 (.bool (decide (i < xs.length∧n≤1048576))) (.c (.c (.c .n))) ?_ ?_
  · refine WL.bool 11 rfl (fun hg=>?_) (fun hg=>?_)
    · skip
      refine WL.e e_move<|WL.e e_leq<|WL.e e_pick_t ?_
      exact WL.nil (PO.joined rfl (by congr 1;rw [Bool.eq_iff_iff];simp at hg ⊢;omega))
    · skip
      refine WL.skip<|WL.skip<|WL.e e_pick_f ?_
      exact WL.nil (PO.joined rfl (by congr 1;rw [Bool.eq_iff_iff];simp at hg ⊢;omega))
  refine WL.next ?_
  refine WP.cond rfl (fun h1=>?_) (fun h1=>?_)
  · replace h1:=of_decide_eq_true h1
    have hlt:=h1.1
    obtain ⟨x,hx⟩:∃ x,xs[i]?=some x:=⟨_,List.getElem?_eq_getElem h1.1⟩
    have hm:=List.mem_of_getElem? hx
    refine WP.skip<|PO.next<|WP.seq<|WP.block<|WP.reg<|WL.e e_move<|WL.e e_move<|WL.e e_move<|WL.e (el_ia (j:=i) (xs:=xs) sl22 hA hlt)<|WL.e (el_loadN (vs:=dxC x) (a:=x) (xs:=xs) a39 dxE hA hx (hv:=ext_of (dxE.len x))) ?_
    refine WL.h (h_call (DeedSize_spec (x:=x) (hB x hm) (hs x hm)) k42 ?_)
    intro m hm1 hm2
    refine WL.e (e_add (c:=((n+m:Nat):Int)) rfl rfl (by rw [w_i64 (by omega) (by omega)];omega))<|WL.e e_assign<|WL.nil<|PO.blockN<|PO.next<|WP.reg<|WL.e e_move<|WL.e (e_add (c:=((i+1:Nat):Int)) rfl rfl (by rw [w_i64 (by omega) (by omega)];omega))<|WL.e e_assign<|WL.nil ?_
    exact PO.againK (i+1,n+m) ⟨by simp only;omega,by simp only;omega,by simp only;omega,fun h2 y hy=>by
      simp only at hy h2 ⊢
      rw [take_snoc hx] at hy
      rcases List.mem_append.1 hy with hy | hy
      · exact (hn3 (by omega) y hy).mono (by omega)
      · simp only [List.mem_singleton] at hy;subst hy;exact (hm2 (by omega)).mono (by omega)⟩ (by simp only;omega)
  · replace h1:=of_decide_eq_false h1
    refine WP.exit<|PO.past nofun<|PO.round nofun<|PO.blockX<|PO.next<|WP.seq<|WP.reg<|WL.e e_move<|WL.e e_assign<|WL.next<|WP.ret ?_
    exact PO.fin Tryz.results15 (rv_tmp rv_nil) (hK n (fun h2 y hy=>hn3 h2 y (by rw [List.take_of_length_le (by omega)];exact hy)))
end Go.SL
namespace Go.SL.Fc
open Go Go.Proofs Go.SL
theorem a115:aggOf Tryz.prog 115=some (some 4):=by kernel_rfl
theorem f39_0:fldOf Tryz.prog 39 0=some 0:=by kernel_rfl
theorem f39_1:fldOf Tryz.prog 39 1=some 1:=by kernel_rfl
theorem f39_2:fldOf Tryz.prog 39 2=some 2:=by kernel_rfl
theorem k103:callable Tryz.prog 103=true:=by kernel_rfl
theorem k166:callable Tryz.prog 166=true:=by kernel_rfl
theorem k18:callable Tryz.prog 18=true:=by kernel_rfl
theorem k51:callable Tryz.prog 51=true:=by kernel_rfl
theorem k52:callable Tryz.prog 52=true:=by kernel_rfl
theorem p115:placesOf Tryz.prog 115=some [(0,1),(1,1),(2,1),(3,1)]:=by kernel_rfl
theorem p123:placesOf Tryz.prog 123=some [(0,1)]:=by kernel_rfl
theorem p39:placesOf Tryz.prog 39=some [(0,1),(1,1),(2,1),(3,1),(4,1)]:=by kernel_rfl
theorem s123:szOf Tryz.prog 123=some 1:=by kernel_rfl
theorem s39:szOf Tryz.prog 39=some 5:=by kernel_rfl
theorem sl23:slOf Tryz.prog 23=some (3,1,8):=by kernel_rfl
theorem z115:zeroOf Tryz.prog 115=some [.int .u8 0,.string .empty,.string .empty,.int .u32 0]:=by kernel_rfl
theorem z123:zeroOf Tryz.prog 123=some [.slice none 0 0]:=by kernel_rfl
theorem z3:zeroOf Tryz.prog 3=some [.int .i64 0]:=by kernel_rfl
theorem z39:zeroOf Tryz.prog 39=some [.int .u32 0,.int .u8 0,.int .u32 0,.slice none 0 0,.slice none 0 0]:=by kernel_rfl
end Go.SL.Fc
namespace Go.SL
open Go Go.Proofs Fc
theorem TwinRows_spec {g:World} {A:HP} {u:Value} {xs:List RowM} (hA:RL A 2 RowM.c u xs) (hn:xs.length≤1000000):Spec Tryz.prog g 166 [u] [A] fun K R=>∀ (sv:SV) B,Ge A B→Tw B 2 RowM.c sv.v xs mkR→K sv.v (B::R):=by
  refine Spec.intro Tryz.func166 rfl Tryz.ntmps166 rfl fun R K hK=>?_
  refine WP.seq<|WP.reg<|WL.e e_assign<|WL.next<|WP.seq<|WP.reg<|WL.e e_move<|WL.e (el_len (xs:=xs) sl24 hA)<|WL.e (e_add (c:=((xs.length+1:Nat):Int)) rfl rfl (by rw [w_i64 (by omega) (by omega)];omega)) ?_
  refine WL.h (hl_make0 (α:=RowM) (enc:=RowM.c) (c:=xs.length+1) sl24 z59 (by omega) fun a1 n1 c1=>?_)
  refine WL.e e_assign<|WL.next<|WP.seq<|WP.seq<|WP.reg<|WL.e e_assign<|WL.next<|WP.block<|WP.loopK (fun (z:Nat × SV × List RowM)=>[(4,.int .i64 z.1),(3,z.2.1.v)]) (fun (z:Nat × SV × List RowM)=>Sl 59 2 RowM.c (z.2.1.v) (z.2.2)::A::R) [(0,_),(2,_)] (fun (z:Nat × SV × List RowM)=>z.1≤xs.length∧z.2.2=xs.take z.1) (fun (z:Nat × SV × List RowM)=>xs.length - z.1) (0,⟨a1,n1,c1⟩,[]) (⟨Nat.zero_le _,rfl⟩) ?_
  rintro ⟨i,sv,ys⟩ ⟨hi,hy⟩
  simp only at hi hy
  subst hy
  dsimp only
  refine WP.seq<|WP.seq<|WP.reg<|WL.e e_move<|WL.e e_move<|WL.e (el_len (xs:=xs) sl24 hA)<|WL.e e_lss<|WL.next ?_
  refine WP.cond rfl (fun h1=>?_) (fun h1=>?_)
  · have hlt:i < xs.length:=by rw [decide_eq_true_eq] at h1;omega
    obtain ⟨x,hx⟩:∃ x,xs[i]?=some x:=⟨_,List.getElem?_eq_getElem hlt⟩
    refine WP.skip<|PO.next<|WP.seq<|WP.block<|WP.reg<|WL.e e_move<|WL.e e_move<|WL.e e_move<|WL.e (el_ia (j:=i) (xs:=xs) sl24 hA hlt)<|WL.e (el_loadN (j:=i) (a:=x) (xs:=xs) a59 rowE hA hx) ?_
    refine WL.h (h_bs sl24 z59 (.a2 (.tmp 19) rfl<|.n) fun b1=>?_)
    refine WL.h (hl_append (xs:=xs.take i) (ys:=[x]) sl24 rowE z59 (lit_rl rowE [x] rfl) (by simp;omega) fun a5 n5 c5=>?_)
    refine WL.e e_assign<|WL.nil<|PO.blockN<|PO.next<|WP.reg<|WL.e e_move<|WL.e (e_add (c:=((i+1:Nat):Int)) rfl rfl (by rw [w_i64 (by omega) (by omega)];omega))<|WL.e e_assign<|WL.nil ?_
    exact PO.againK (i+1,⟨a5,n5,c5⟩,xs.take i++[x]) ⟨by simp only;omega,(take_snoc hx).symm⟩ (by simp only;omega)
  · rw [List.take_of_length_le (show xs.length≤i by rw [decide_eq_false_iff_not] at h1;omega)]
    refine WP.exit<|PO.past nofun<|PO.round nofun<|PO.blockX<|PO.next<|WP.seq<|WP.reg<|WL.e e_move<|WL.e (e_build z59 p59 (.o (.const (.string ⟨#[115,112,97,114,101]⟩)) rfl<|.z (.int .u32 0)<|.n)) ?_
    refine WL.h (h_bs sl24 z59 (.a2 (.tmp 23) rfl<|.n) fun b2=>?_)
    refine WL.h (hl_append (xs:=xs) (ys:=[mkR]) sl24 rowE z59 (lit_rl rowE [mkR] rfl) (by simp;omega) fun a5 n5 c5=>?_)
    refine WL.head (xs:=xs) (mk:=mkR) fun b5 o5 e5 f5 g5=>?_
    subst e5 f5
    refine WL.e e_move<|WL.e (el_len (xs:=xs) sl24 hA)<|WL.e (e_toA (hi:=xs.length) sl24 g5 (by omega))<|WL.e e_assign<|WL.next<|WP.ret<|PO.cls (A:=bun [A,Sl 59 2 RowM.c (.slice (some ⟨b5,o5,none⟩) (xs.length+1) c5) ((xs++[mkR]))]) (B:=[A,Sl 59 2 RowM.c (.slice (some ⟨b5,o5,none⟩) (xs.length+1) c5) ((xs++[mkR]))]) (fun S h=>h) ?_
    exact PO.fin Tryz.results166 (rv_tmp rv_nil) (hK ⟨some ⟨b5,o5,none⟩,xs.length,c5⟩ _ Ge.one ⟨b5,o5,c5,rfl,g5,RL.ge sl_rl Ge.two⟩)
theorem TwinOps_spec {g:World} {A:HP} {u:Value} {xs:List OpM} (hA:RL A 4 OpM.c u xs) (hn:xs.length≤1000000):Spec Tryz.prog g 51 [u] [A] fun K R=>∀ (sv:SV) B,Ge A B→Tw B 4 OpM.c sv.v xs mkO→K sv.v (B::R):=by
  refine Spec.intro Tryz.func51 rfl Tryz.ntmps51 rfl fun R K hK=>?_
  refine WP.seq<|WP.reg<|WL.e e_assign<|WL.next<|WP.seq<|WP.reg<|WL.e e_move<|WL.e (el_len (xs:=xs) sl36 hA)<|WL.e (e_add (c:=((xs.length+1:Nat):Int)) rfl rfl (by rw [w_i64 (by omega) (by omega)];omega)) ?_
  refine WL.h (hl_make0 (α:=OpM) (enc:=OpM.c) (c:=xs.length+1) sl36 z115 (by omega) fun a1 n1 c1=>?_)
  refine WL.e e_assign<|WL.next<|WP.seq<|WP.seq<|WP.reg<|WL.e e_assign<|WL.next<|WP.block<|WP.loopK (fun (z:Nat × SV × List OpM)=>[(4,.int .i64 z.1),(3,z.2.1.v)]) (fun (z:Nat × SV × List OpM)=>Sl 115 4 OpM.c (z.2.1.v) (z.2.2)::A::R) [(0,_),(2,_)] (fun (z:Nat × SV × List OpM)=>z.1≤xs.length∧z.2.2=xs.take z.1) (fun (z:Nat × SV × List OpM)=>xs.length - z.1) (0,⟨a1,n1,c1⟩,[]) (⟨Nat.zero_le _,rfl⟩) ?_
  rintro ⟨i,sv,ys⟩ ⟨hi,hy⟩
  simp only at hi hy
  subst hy
  dsimp only
  refine WP.seq<|WP.seq<|WP.reg<|WL.e e_move<|WL.e e_move<|WL.e (el_len (xs:=xs) sl36 hA)<|WL.e e_lss<|WL.next ?_
  refine WP.cond rfl (fun h1=>?_) (fun h1=>?_)
  · have hlt:i < xs.length:=by rw [decide_eq_true_eq] at h1;omega
    obtain ⟨x,hx⟩:∃ x,xs[i]?=some x:=⟨_,List.getElem?_eq_getElem hlt⟩
    refine WP.skip<|PO.next<|WP.seq<|WP.block<|WP.reg<|WL.e e_move<|WL.e e_move<|WL.e e_move<|WL.e (el_ia (j:=i) (xs:=xs) sl36 hA hlt)<|WL.e (el_loadN (j:=i) (a:=x) (xs:=xs) a115 opE hA hx) ?_
    refine WL.h (h_bs sl36 z115 (.a4 (.tmp 19) rfl<|.n) fun b1=>?_)
    refine WL.h (hl_append (xs:=xs.take i) (ys:=[x]) sl36 opE z115 (lit_rl opE [x] rfl) (by simp;omega) fun a5 n5 c5=>?_)
    refine WL.e e_assign<|WL.nil<|PO.blockN<|PO.next<|WP.reg<|WL.e e_move<|WL.e (e_add (c:=((i+1:Nat):Int)) rfl rfl (by rw [w_i64 (by omega) (by omega)];omega))<|WL.e e_assign<|WL.nil ?_
    exact PO.againK (i+1,⟨a5,n5,c5⟩,xs.take i++[x]) ⟨by simp only;omega,(take_snoc hx).symm⟩ (by simp only;omega)
  · rw [List.take_of_length_le (show xs.length≤i by rw [decide_eq_false_iff_not] at h1;omega)]
    refine WP.exit<|PO.past nofun<|PO.round nofun<|PO.blockX<|PO.next<|WP.seq<|WP.reg<|WL.e e_move<|WL.e (e_build z115 p115 (.z (.int .u8 0)<|.o (.const (.string ⟨#[115,112,97,114,101]⟩)) rfl<|.z (.string .empty)<|.z (.int .u32 0)<|.n)) ?_
    refine WL.h (h_bs sl36 z115 (.a4 (.tmp 23) rfl<|.n) fun b2=>?_)
    refine WL.h (hl_append (xs:=xs) (ys:=[mkO]) sl36 opE z115 (lit_rl opE [mkO] rfl) (by simp;omega) fun a5 n5 c5=>?_)
    refine WL.head (xs:=xs) (mk:=mkO) fun b5 o5 e5 f5 g5=>?_
    subst e5 f5
    refine WL.e e_move<|WL.e (el_len (xs:=xs) sl36 hA)<|WL.e (e_toA (hi:=xs.length) sl36 g5 (by omega))<|WL.e e_assign<|WL.next<|WP.ret<|PO.cls (A:=bun [A,Sl 115 4 OpM.c (.slice (some ⟨b5,o5,none⟩) (xs.length+1) c5) ((xs++[mkO]))]) (B:=[A,Sl 115 4 OpM.c (.slice (some ⟨b5,o5,none⟩) (xs.length+1) c5) ((xs++[mkO]))]) (fun S h=>h) ?_
    exact PO.fin Tryz.results51 (rv_tmp rv_nil) (hK ⟨some ⟨b5,o5,none⟩,xs.length,c5⟩ _ Ge.one ⟨b5,o5,c5,rfl,g5,RL.ge sl_rl Ge.two⟩)
theorem TwinInts_spec {g:World} {A:HP} {u:Value} {xs:List Int} (hA:RL A 1 intC u xs) (hn:xs.length≤1000000):Spec Tryz.prog g 9 [u] [A] fun K R=>∀ (sv:SV) B,Ge A B→Tw B 1 intC sv.v xs (77:Int)→K sv.v (B::R):=by
  refine Spec.intro Tryz.func9 rfl Tryz.ntmps9 rfl fun R K hK=>?_
  refine WP.seq<|WP.reg<|WL.e e_assign<|WL.next<|WP.seq<|WP.reg<|WL.e e_move<|WL.e (el_len (xs:=xs) sl23 hA)<|WL.e (e_add (c:=((xs.length+1:Nat):Int)) rfl rfl (by rw [w_i64 (by omega) (by omega)];omega)) ?_
  refine WL.h (hl_make0 (α:=Int) (enc:=intC) (c:=xs.length+1) sl23 z3 (by omega) fun a1 n1 c1=>?_)
  refine WL.e e_assign<|WL.next<|WP.seq<|WP.seq<|WP.reg<|WL.e e_assign<|WL.next<|WP.block<|WP.loopK (fun (z:Nat × SV × List Int)=>[(4,.int .i64 z.1),(3,z.2.1.v)]) (fun (z:Nat × SV × List Int)=>Sl 3 1 intC (z.2.1.v) (z.2.2)::A::R) [(0,_),(2,_)] (fun (z:Nat × SV × List Int)=>z.1≤xs.length∧z.2.2=xs.take z.1) (fun (z:Nat × SV × List Int)=>xs.length - z.1) (0,⟨a1,n1,c1⟩,[]) (⟨Nat.zero_le _,rfl⟩) ?_
  rintro ⟨i,sv,ys⟩ ⟨hi,hy⟩
  simp only at hi hy
  subst hy
  dsimp only
  refine WP.seq<|WP.seq<|WP.reg<|WL.e e_move<|WL.e e_move<|WL.e (el_len (xs:=xs) sl23 hA)<|WL.e e_lss<|WL.next ?_
  refine WP.cond rfl (fun h1=>?_) (fun h1=>?_)
  · have hlt:i < xs.length:=by rw [decide_eq_true_eq] at h1;omega
    obtain ⟨x,hx⟩:∃ x,xs[i]?=some x:=⟨_,List.getElem?_eq_getElem hlt⟩
    refine WP.skip<|PO.next<|WP.seq<|WP.block<|WP.reg<|WL.e e_move<|WL.e e_move<|WL.e e_move<|WL.e (el_ia (j:=i) (xs:=xs) sl23 hA hlt)<|WL.e (el_load0 (j:=i) (a:=x) (xs:=xs) a3 intE hA hx) ?_
    refine WL.h (h_bs sl23 z3 (.o (.tmp 19) rfl<|.n) fun b1=>?_)
    refine WL.h (hl_append (xs:=xs.take i) (ys:=[x]) sl23 intE z3 (lit_rl intE [x] rfl) (by simp;omega) fun a5 n5 c5=>?_)
    refine WL.e e_assign<|WL.nil<|PO.blockN<|PO.next<|WP.reg<|WL.e e_move<|WL.e (e_add (c:=((i+1:Nat):Int)) rfl rfl (by rw [w_i64 (by omega) (by omega)];omega))<|WL.e e_assign<|WL.nil ?_
    exact PO.againK (i+1,⟨a5,n5,c5⟩,xs.take i++[x]) ⟨by simp only;omega,(take_snoc hx).symm⟩ (by simp only;omega)
  · rw [List.take_of_length_le (show xs.length≤i by rw [decide_eq_false_iff_not] at h1;omega)]
    refine WP.exit<|PO.past nofun<|PO.round nofun<|PO.blockX<|PO.next<|WP.seq<|WP.reg<|WL.e e_move ?_
    refine WL.h (h_bs sl23 z3 (.o (.const (.int .i64 77)) rfl<|.n) fun b2=>?_)
    refine WL.h (hl_append (xs:=xs) (ys:=[(77:Int)]) sl23 intE z3 (lit_rl intE [(77:Int)] rfl) (by simp;omega) fun a5 n5 c5=>?_)
    refine WL.head (xs:=xs) (mk:=(77:Int)) fun b5 o5 e5 f5 g5=>?_
    subst e5 f5
    refine WL.e e_move<|WL.e (el_len (xs:=xs) sl23 hA)<|WL.e (e_toA (hi:=xs.length) sl23 g5 (by omega))<|WL.e e_assign<|WL.next<|WP.ret<|PO.cls (A:=bun [A,Sl 3 1 intC (.slice (some ⟨b5,o5,none⟩) (xs.length+1) c5) ((xs++[(77:Int)]))]) (B:=[A,Sl 3 1 intC (.slice (some ⟨b5,o5,none⟩) (xs.length+1) c5) ((xs++[(77:Int)]))]) (fun S h=>h) ?_
    exact PO.fin Tryz.results9 (rv_tmp rv_nil) (hK ⟨some ⟨b5,o5,none⟩,xs.length,c5⟩ _ Ge.one ⟨b5,o5,c5,rfl,g5,RL.ge sl_rl Ge.two⟩)
theorem TwinResult_spec {g:World} {A:HP} {v:SV} {xs:List RowM} (hA:RL A 2 RowM.c v.v xs) (hn:xs.length≤1000000):Spec Tryz.prog g 103 [.agg #[v.v]] [A] fun K R=>∀ (sv:SV) B,Ge A B→Tw B 2 RowM.c sv.v xs mkR→K (.agg #[sv.v]) (B::R):=by
  refine Spec.intro Tryz.func103 rfl Tryz.ntmps103 rfl fun R K hK=>?_
  refine WP.seq<|WP.reg ?_
  refine WL.h (h_box fun b1=>?_)
  refine WL.h (h_alloc z123 fun b2=>?_)
  refine WL.next<|WP.seq<|WP.reg<|WL.e (e_fa f123_0)<|WL.e (e_load a24) ?_
  refine WL.h (h_call (TwinRows_spec hA hn) k166 ?_)
  intro sv B hG hT
  refine WL.e (e_build z123 p123 (.o (.tmp 5) rfl<|.n)) ?_
  refine WL.h' (h_store s123 ?_)
  refine WL.next<|WP.ret ?_
  exact PO.fin Tryz.results103 (rv_cellN a123 rv_nil) (hK sv B hG hT)
theorem TwinResults_spec {g:World} {A:HP} {u:Value} {ps:List (List RowM)} (hA:RsL A u ps) (hn:ps.length≤1000000) (hr:∀ l ∈ ps,l.length≤1000000):Spec Tryz.prog g 52 [u] [A] fun K R=>∀ (sv:SV) B,Ge A B→TwRs B sv.v ps→K sv.v (B::R):=by
  obtain ⟨xs,hX,hR,hM⟩:=hA
  rw [← hM,List.length_map] at hn
  refine Spec.intro Tryz.func52 rfl Tryz.ntmps52 rfl fun R K hK=>?_
  refine WP.seq<|WP.reg<|WL.e e_assign<|WL.next<|WP.seq<|WP.reg<|WL.e e_move<|WL.e (el_len (xs:=xs) sl37 hX)<|WL.e (e_add (c:=((xs.length+1:Nat):Int)) rfl rfl (by rw [w_i64 (by omega) (by omega)];omega)) ?_
  refine WL.h (hl_make0 (α:=ResV) (enc:=resC) (c:=xs.length+1) sl37 z123 (by omega) fun a1 n1 c1=>?_)
  refine WL.e e_assign<|WL.next<|WP.seq<|WP.seq<|WP.reg<|WL.e e_assign<|WL.next<|WP.block<|WP.loopK (fun (z:Nat × SV × List ResV × HP)=>[(4,.int .i64 z.1),(3,z.2.1.v)]) (fun (z:Nat × SV × List ResV × HP)=>Sl 123 1 resC (z.2.1.v) (z.2.2.1)::z.2.2.2::R) [(0,_),(2,_)] (fun (z:Nat × SV × List ResV × HP)=>z.1≤xs.length∧z.2.2.1.map (·.2)=(xs.take z.1).map (·.2)∧Ge A z.2.2.2∧∀ r ∈ z.2.2.1,Tw z.2.2.2 2 RowM.c r.1.v r.2 mkR) (fun (z:Nat × SV × List ResV × HP)=>xs.length - z.1) (0,⟨a1,n1,c1⟩,[],A) (⟨Nat.zero_le _,rfl,Ge.refl A,fun r hr=>by cases hr⟩) ?_
  rintro ⟨i,sv,ys,B⟩ ⟨hi,hy,hG,hT⟩
  simp only at hi hy hG hT
  dsimp only
  have hyl:ys.length=(xs.take i).length:=by have:=congrArg List.length hy;simpa using this
  rw [List.length_take] at hyl
  refine WP.seq<|WP.seq<|WP.reg<|WL.e e_move<|WL.e e_move<|WL.e (el_len (xs:=xs) sl37 (hX.ge hG))<|WL.e e_lss<|WL.next ?_
  refine WP.cond rfl (fun h1=>?_) (fun h1=>?_)
  · have hlt:i < xs.length:=by rw [decide_eq_true_eq] at h1;omega
    obtain ⟨x,hx⟩:∃ x,xs[i]?=some x:=⟨_,List.getElem?_eq_getElem hlt⟩
    have hm:=List.mem_of_getElem? hx
    refine WP.skip<|PO.next<|WP.seq<|WP.block<|WP.reg<|WL.e e_move<|WL.e e_move<|WL.e e_move<|WL.e (el_ia (j:=i) (xs:=xs) sl37 (hX.ge hG) hlt)<|WL.e (el_loadN (vs:=resC x) (a:=x) (xs:=xs) a123 resE (hX.ge hG) hx (hv:=ext_of (resE.len x))) ?_
    refine WL.h (h_call (TwinResult_spec (v:=x.1) ((hR x hm).ge hG) (hr x.2 (hM ▸ List.mem_map.2 ⟨x,hm,rfl⟩))) k103 ?_)
    intro s2 B2 hG2 hT2
    refine WL.h (h_bs sl37 z123 (.a1 (.tmp 20) rfl<|.n) fun b1=>?_)
    refine WL.h (hl_append (xs:=ys) (ys:=[((s2,x.2):ResV)]) sl37 resE z123 (lit_rl resE [((s2,x.2):ResV)] rfl) (by simp;omega) fun a5 n5 c5=>?_)
    refine WL.e e_assign<|WL.nil<|PO.blockN<|PO.next<|WP.reg<|WL.e e_move<|WL.e (e_add (c:=((i+1:Nat):Int)) rfl rfl (by rw [w_i64 (by omega) (by omega)];omega))<|WL.e e_assign<|WL.nil ?_
    exact PO.againK (i+1,⟨a5,n5,c5⟩,ys++[(s2,x.2)],B2) ⟨by simp only;omega,by simp only;rw [take_snoc hx,List.map_append,List.map_append,hy];rfl,hG.trans hG2,fun r hr=>by
      simp only at hr ⊢
      rcases List.mem_append.1 hr with hr | hr
      · exact (hT r hr).ge hG2
      · simp only [List.mem_singleton] at hr;subst hr;exact hT2⟩ (by simp only;omega)
  · rw [List.take_of_length_le (show xs.length≤i by rw [decide_eq_false_iff_not] at h1;omega)] at hy
    have hyx:ys.length=xs.length:=by have:=congrArg List.length hy;simpa using this
    refine WP.exit<|PO.past nofun<|PO.round nofun<|PO.blockX<|PO.next<|WP.seq<|WP.reg<|WL.e e_move<|WL.e (e_build z59 p59 (.o (.const (.string ⟨#[115,112,97,114,101]⟩)) rfl<|.z (.int .u32 0)<|.n)) ?_
    refine WL.h (h_bs sl24 z59 (.a2 (.tmp 24) rfl<|.n) fun b2=>?_)
    refine WL.e (e_build z123 p123 (.o (.tmp 25) rfl<|.n)) ?_
    refine WL.h (h_bs sl37 z123 (.a1 (.tmp 26) rfl<|.n) fun b3=>?_)
    refine WL.h (hl_append (xs:=ys) (ys:=[((⟨some ⟨b2,0,none⟩,1,1⟩,[mkR]):ResV)]) sl37 resE z123 (lit_rl resE [((⟨some ⟨b2,0,none⟩,1,1⟩,[mkR]):ResV)] rfl) (by simp;omega) fun a5 n5 c5=>?_)
    refine WL.head (xs:=ys) (mk:=((⟨some ⟨b2,0,none⟩,1,1⟩,[mkR]):ResV)) fun b5 o5 e5 f5 g5=>?_
    subst e5 f5
    refine WL.e e_move<|WL.e (el_len (xs:=xs) sl37 (hX.ge hG))<|WL.e (e_toA (hi:=xs.length) sl37 g5 (by omega))<|WL.e e_assign<|WL.next<|WP.ret<|PO.cls (A:=bun [B,Sl 123 1 resC (.slice (some ⟨b5,o5,none⟩) (ys.length+1) c5) (ys++[((⟨some ⟨b2,0,none⟩,1,1⟩,[mkR]):ResV)]),cl b2 59 (RowM.c mkR)]) (B:=[B,Sl 123 1 resC (.slice (some ⟨b5,o5,none⟩) (ys.length+1) c5) (ys++[((⟨some ⟨b2,0,none⟩,1,1⟩,[mkR]):ResV)]),cl b2 59 (RowM.c mkR)]) (fun S h=>h) ?_
    exact PO.fin Tryz.results52 (rv_tmp rv_nil) (hK ⟨some ⟨b5,o5,none⟩,xs.length,c5⟩ _ (hG.trans Ge.one) ⟨ys,((⟨some ⟨b2,0,none⟩,1,1⟩,[mkR]):ResV),⟨b5,o5,c5,by rw [hyx],g5,RL.ge sl_rl Ge.two⟩,fun r hr=>(hT r hr).ge Ge.one,hy.trans hM,RL.ge (lit_rl (E:=59) (l:=RowM.c mkR) rowE [mkR] rfl) (Ge.mem (.tail _ (.tail _ (.head _))))⟩)
theorem TwinDeed_spec {g:World} {A:HP} {x:DX} (hA:DpD A x) (hn:SmP 1000000 x.2):Spec Tryz.prog g 18 [.agg #[.int .u32 x.1.g.toNat,.int .u8 x.1.site.toNat,.int .u32 x.1.order.toNat,x.1.ops.v,x.1.res.v]] [A] fun K R=>∀ (s1 s2:SV) B,Ge A B→Tw B 4 OpM.c s1.v x.2.ops mkO→TwRs B s2.v x.2.res→K (.agg #[.int .u32 x.1.g.toNat,.int .u8 x.1.site.toNat,.int .u32 x.1.order.toNat,s1.v,s2.v]) (B::R):=by
  refine Spec.intro Tryz.func18 rfl Tryz.ntmps18 rfl fun R K hK=>?_
  refine WP.seq<|WP.reg ?_
  refine WL.h (h_box fun b1=>?_)
  refine WL.h (h_alloc z39 fun b2=>?_)
  refine WL.next<|WP.seq<|WP.draws mixedOk 14<|RW.e 0 rfl (e_fa f39_0)<|RW.e 1 rfl (e_load a35)<|RW.e 2 rfl (e_fa f39_1)<|RW.e 3 rfl (e_load a5)<|RW.e 4 rfl (e_fa f39_2)<|RW.e 5 rfl (e_load a35)<|RW.e 6 rfl (e_fa f39_3)<|RW.e 7 rfl (e_load a36)<|RW.e 9 rfl (e_fa f39_4)<|RW.e 10 rfl (e_load a37) ?_
  refine RW.any (is:=[8]) rfl ⟨?_,trivial⟩
  refine RWat.h rfl rfl rfl ?_
  refine (h_call (TwinOps_spec hA.ops hn.1) k51 ?_)
  intro s1 B1 hG1 hT1
  refine ⟨⟨⟨_,rfl,.inl ⟨rfl,(e_load a37)⟩⟩,⟨_,rfl,.inl ⟨rfl,(e_fa f39_4)⟩⟩,⟨_,rfl,.inl ⟨rfl,(e_load a35)⟩⟩,⟨_,rfl,.inl ⟨rfl,(e_fa f39_2)⟩⟩,⟨_,rfl,.inl ⟨rfl,(e_load a5)⟩⟩,⟨_,rfl,.inl ⟨rfl,(e_fa f39_1)⟩⟩,⟨_,rfl,.inl ⟨rfl,(e_load a35)⟩⟩,⟨_,rfl,.inl ⟨rfl,(e_fa f39_0)⟩⟩,trivial⟩,?_⟩
  refine RW.any (is:=[11]) rfl ⟨?_,trivial⟩
  refine RWat.h rfl rfl rfl ?_
  refine (h_call (TwinResults_spec (hA.res.ge hG1) hn.2.1 hn.2.2) k52 ?_)
  intro s2 B2 hG2 hT2
  refine ⟨⟨⟨_,rfl,.inl ⟨rfl,(e_load a35)⟩⟩,⟨_,rfl,.inl ⟨rfl,(e_fa f39_2)⟩⟩,⟨_,rfl,.inl ⟨rfl,(e_load a5)⟩⟩,⟨_,rfl,.inl ⟨rfl,(e_fa f39_1)⟩⟩,⟨_,rfl,.inl ⟨rfl,(e_load a35)⟩⟩,⟨_,rfl,.inl ⟨rfl,(e_fa f39_0)⟩⟩,trivial⟩,?_⟩
  refine RW.e 12 rfl (e_build z39 p39 (.o (.tmp 4) rfl<|.o (.tmp 6) rfl<|.o (.tmp 8) rfl<|.o (.tmp 11) rfl<|.o (.tmp 14) rfl<|.n)) ?_
  refine RW.any (is:=[13]) rfl ⟨?_,trivial⟩
  refine RWat.h' rfl rfl rfl ?_
  refine (h_store s39 ?_)
  refine ⟨trivial,?_⟩
  refine RW.done<|PO.next<|WP.ret ?_
  exact PO.fin Tryz.results18 (rv_cellN a39 rv_nil) (hK s1 s2 B2 (hG1.trans hG2) (hT1.ge hG2) hT2)
theorem TwinDeeds_spec {g:World} {A:HP} {u:Value} {ps:List PDeed} (hA:DpL A u ps) (hn:ps.length≤1000000) (hs:∀ p ∈ ps,SmP 1000000 p):Spec Tryz.prog g 8 [u] [A] fun K R=>∀ (sv:SV) B,Ge A B→TwDs B sv.v ps→K sv.v (B::R):=by
  obtain ⟨xs,hX,hD,hM⟩:=hA
  rw [← hM,List.length_map] at hn
  refine Spec.intro Tryz.func8 rfl Tryz.ntmps8 rfl fun R K hK=>?_
  refine WP.seq<|WP.reg<|WL.e e_assign<|WL.next<|WP.seq<|WP.reg<|WL.e e_move<|WL.e (el_len (xs:=xs) sl22 hX)<|WL.e (e_add (c:=((xs.length+1:Nat):Int)) rfl rfl (by rw [w_i64 (by omega) (by omega)];omega)) ?_
  refine WL.h (hl_make0 (α:=DX) (enc:=dxC) (c:=xs.length+1) sl22 z39 (by omega) fun a1 n1 c1=>?_)
  refine WL.e e_assign<|WL.next<|WP.seq<|WP.seq<|WP.reg<|WL.e e_assign<|WL.next<|WP.block<|WP.loopK (fun (z:Nat × SV × List DX × HP)=>[(4,.int .i64 z.1),(3,z.2.1.v)]) (fun (z:Nat × SV × List DX × HP)=>Sl 39 5 dxC (z.2.1.v) (z.2.2.1)::z.2.2.2::R) [(0,_),(2,_)] (fun (z:Nat × SV × List DX × HP)=>z.1≤xs.length∧z.2.2.1.map (·.2)=(xs.take z.1).map (·.2)∧Ge A z.2.2.2∧∀ y ∈ z.2.2.1,TwD z.2.2.2 y) (fun (z:Nat × SV × List DX × HP)=>xs.length - z.1) (0,⟨a1,n1,c1⟩,[],A) (⟨Nat.zero_le _,rfl,Ge.refl A,fun r hr=>by cases hr⟩) ?_
  rintro ⟨i,sv,ys,B⟩ ⟨hi,hy,hG,hT⟩
  simp only at hi hy hG hT
  dsimp only
  have hyl:ys.length=(xs.take i).length:=by have:=congrArg List.length hy;simpa using this
  rw [List.length_take] at hyl
  refine WP.seq<|WP.seq<|WP.reg<|WL.e e_move<|WL.e e_move<|WL.e (el_len (xs:=xs) sl22 (hX.ge hG))<|WL.e e_lss<|WL.next ?_
  refine WP.cond rfl (fun h1=>?_) (fun h1=>?_)
  · have hlt:i < xs.length:=by rw [decide_eq_true_eq] at h1;omega
    obtain ⟨x,hx⟩:∃ x,xs[i]?=some x:=⟨_,List.getElem?_eq_getElem hlt⟩
    have hm:=List.mem_of_getElem? hx
    refine WP.skip<|PO.next<|WP.seq<|WP.block<|WP.reg<|WL.e e_move<|WL.e e_move<|WL.e e_move<|WL.e (el_ia (j:=i) (xs:=xs) sl22 (hX.ge hG) hlt)<|WL.e (el_loadN (vs:=dxC x) (a:=x) (xs:=xs) a39 dxE (hX.ge hG) hx (hv:=ext_of (dxE.len x))) ?_
    refine WL.h (h_call (TwinDeed_spec (x:=x) ((hD x hm).ge hG) (hs x.2 (hM ▸ List.mem_map.2 ⟨x,hm,rfl⟩))) k18 ?_)
    intro s1 s2 B2 hG2 hT1 hT2
    refine WL.h (h_bs sl22 z39 (.a5 (.tmp 20) rfl<|.n) fun b1=>?_)
    refine WL.h (hl_append (xs:=ys) (ys:=[((⟨x.1.g,x.1.site,x.1.order,s1,s2⟩,x.2):DX)]) sl22 dxE z39 (lit_rl dxE [((⟨x.1.g,x.1.site,x.1.order,s1,s2⟩,x.2):DX)] rfl) (by simp;omega) fun a5 n5 c5=>?_)
    refine WL.e e_assign<|WL.nil<|PO.blockN<|PO.next<|WP.reg<|WL.e e_move<|WL.e (e_add (c:=((i+1:Nat):Int)) rfl rfl (by rw [w_i64 (by omega) (by omega)];omega))<|WL.e e_assign<|WL.nil ?_
    exact PO.againK (i+1,⟨a5,n5,c5⟩,ys++[((⟨x.1.g,x.1.site,x.1.order,s1,s2⟩,x.2):DX)],B2) ⟨by simp only;omega,by simp only;rw [take_snoc hx,List.map_append,List.map_append,hy];rfl,hG.trans hG2,fun r hr=>by
      simp only at hr ⊢
      rcases List.mem_append.1 hr with hr | hr
      · exact (hT r hr).ge hG2
      · simp only [List.mem_singleton] at hr;subst hr;exact ⟨(hD x hm).g,(hD x hm).site,(hD x hm).order,hT1,hT2⟩⟩ (by simp only;omega)
  · rw [List.take_of_length_le (show xs.length≤i by rw [decide_eq_false_iff_not] at h1;omega)] at hy
    have hyx:ys.length=xs.length:=by have:=congrArg List.length hy;simpa using this
    refine WP.exit<|PO.past nofun<|PO.round nofun<|PO.blockX<|PO.next<|WP.seq<|WP.reg<|WL.e e_move<|WL.e (e_build z39 p39 (.z (.int .u32 0)<|.o (.const (.int .u8 77)) rfl<|.z (.int .u32 0)<|.z (.slice none 0 0)<|.z (.slice none 0 0)<|.n)) ?_
    refine WL.h (h_bs sl22 z39 (.a5 (.tmp 24) rfl<|.n) fun b2=>?_)
    refine WL.h (hl_append (xs:=ys) (ys:=[mkD]) sl22 dxE z39 (lit_rl dxE [mkD] rfl) (by simp;omega) fun a5 n5 c5=>?_)
    refine WL.head (xs:=ys) (mk:=mkD) fun b5 o5 e5 f5 g5=>?_
    subst e5 f5
    refine WL.e e_move<|WL.e (el_len (xs:=xs) sl22 (hX.ge hG))<|WL.e (e_toA (hi:=xs.length) sl22 g5 (by omega))<|WL.e e_assign<|WL.next<|WP.ret<|PO.cls (A:=bun [B,Sl 39 5 dxC (.slice (some ⟨b5,o5,none⟩) (ys.length+1) c5) (ys++[mkD])]) (B:=[B,Sl 39 5 dxC (.slice (some ⟨b5,o5,none⟩) (ys.length+1) c5) (ys++[mkD])]) (fun S h=>h) ?_
    exact PO.fin Tryz.results8 (rv_tmp rv_nil) (hK ⟨some ⟨b5,o5,none⟩,xs.length,c5⟩ _ (hG.trans Ge.one) ⟨ys,⟨b5,o5,c5,by rw [hyx],g5,RL.ge sl_rl Ge.two⟩,fun r hr=>(hT r hr).ge Ge.one,hy.trans hM⟩)
end Go.SL
namespace Go.SL.Fc
open Go Go.Proofs Go.SL
theorem eqgOp:Tryz.prog.eqGuardType Tryz.prog.depth 115=false:=by kernel_rfl
theorem k115:callable Tryz.prog 115=true:=by kernel_rfl
theorem k177:callable Tryz.prog 177=true:=by kernel_rfl
theorem k29:callable Tryz.prog 29=true:=by kernel_rfl
theorem k71:callable Tryz.prog 71=true:=by kernel_rfl
theorem k72:callable Tryz.prog 72=true:=by kernel_rfl
theorem s115:szOf Tryz.prog 115=some 4:=by kernel_rfl
theorem stoodOp:Tryz.prog.stoodInHeld 115=false:=by kernel_rfl
end Go.SL.Fc
namespace Go.SL
open Go Go.Proofs Fc
theorem LeftRows_spec {g:World} {A:HP} {t u:Value} {xs:List RowM} (hT:Tw A 2 RowM.c t xs mkR) (hA:RL A 2 RowM.c u xs) (hn:xs.length≤1000000):Spec Tryz.prog g 177 [t,u] [A] fun K R=>K (.bool true) (A::R):=by
  have hT0:=hT
  obtain ⟨b,o,c,rfl,hc,hB⟩:=hT0
  replace hT:=hT.rl rowE
  have hnc:xs.length≤c:=by omega
  refine Spec.intro Tryz.func177 rfl Tryz.ntmps177 rfl fun R K hK=>?_
  refine WP.seq<|WP.reg<|WL.e e_assign<|WL.next<|WP.seq<|WP.seq<|WP.reg<|WL.e e_move<|WL.e (el_len (xs:=xs) sl24 hT)<|WL.e e_move<|WL.e (el_len (xs:=xs) sl24 hA)<|WL.e e_neq<|WL.e e_move ?_
  refine WL.bool 12 rfl (fun g1=>?_) (fun g1=>?_)
  · simp at g1 
  · skip
    refine WL.e e_move<|WL.e (e_cap sl24 rfl (At.lit hnc))<|WL.e e_move<|WL.e (el_len (xs:=xs) sl24 hA)<|WL.e e_leq<|WL.e e_pick_f<|WL.next ?_
    refine WP.cond rfl (fun h1=>?_) (fun h1=>?_)
    · rw [decide_eq_true_eq] at h1;omega
    · skip
      refine WP.skip<|PO.next<|WP.seq<|WP.seq<|WP.reg<|WL.e e_assign<|WL.next<|WP.block<|WP.loopK (fun (i:Nat)=>[(5,.int .i64 i)]) (fun (i:Nat)=>A::R) [(0,_),(1,_)] (fun (i:Nat)=>i≤xs.length) (fun (i:Nat)=>xs.length - i) 0 (Nat.zero_le _) ?_
      intro i hi
      refine WP.seq<|WP.seq<|WP.reg<|WL.e e_move<|WL.e e_move<|WL.e (el_len (xs:=xs) sl24 hA)<|WL.e e_lss<|WL.next ?_
      refine WP.cond rfl (fun h2=>?_) (fun h2=>?_)
      · have hlt:i < xs.length:=by rw [decide_eq_true_eq] at h2;omega
        obtain ⟨x,hx⟩:∃ x,xs[i]?=some x:=⟨_,List.getElem?_eq_getElem hlt⟩
        refine WP.skip<|PO.next<|WP.seq<|WP.block<|WP.seq<|WP.draws mixedOk 9<|RW.e 0 rfl e_move<|RW.e 1 rfl e_move<|RW.e 2 rfl (el_ia (j:=i) (xs:=xs) sl24 hT hlt)<|RW.e 3 rfl (el_loadN (j:=i) (a:=x) (xs:=xs) a59 rowE hT hx)<|RW.e 4 rfl e_move<|RW.e 5 rfl e_move<|RW.e 6 rfl (el_ia (j:=i) (xs:=xs) sl24 hA hlt)<|RW.e 7 rfl (el_loadN (j:=i) (a:=x) (xs:=xs) a59 rowE hA hx)<|RW.e 8 rfl (e_rowne (a:=x) (b:=x) Tryz.underlying59 Tryz.underlying9 Tryz.underlying35 a9 a35 stoodRow eqgRow rfl rfl)<|RW.done<|PO.next ?_
        refine WP.cond rfl (fun h3=>?_) (fun h3=>?_)
        · simp at h3
        · skip
          refine WP.skip<|PO.blockN<|PO.next<|WP.reg<|WL.e e_move<|WL.e (e_add (c:=((i+1:Nat):Int)) rfl rfl (by rw [w_i64 (by omega) (by omega)];omega))<|WL.e e_assign<|WL.nil ?_
          exact PO.againK (i+1) (by omega) (by omega)
      · skip
        refine WP.exit<|PO.past nofun<|PO.round nofun<|PO.blockX<|PO.next<|WP.seq<|WP.reg<|WL.e e_move<|WL.e e_move<|WL.e (el_len (xs:=xs) sl24 hA)<|WL.e (e_add (c:=((xs.length+1:Nat):Int)) rfl rfl (by rw [w_i64 (by omega) (by omega)];omega))<|WL.e (e_toA (n:=xs.length) (hi:=xs.length+1) sl24 hnc hc)<|WL.e e_move<|WL.e (el_len (xs:=xs) sl24 hA)<|WL.e (el_ia (j:=xs.length) (xs:=xs++[mkR]) sl24 hB (by simp))<|WL.e (el_loadN (j:=xs.length) (a:=mkR) (xs:=xs++[mkR]) a59 rowE hB (by simp)) ?_
        refine WL.h (h_alloc z59 fun b1=>?_)
        refine WL.h' (h_store s59 ?_)
        refine WL.next<|WP.seq<|WP.reg<|WL.e (e_fa f59_0)<|WL.e (e_load a9)<|WL.e e_seq<|WL.e e_assign<|WL.next<|WP.ret ?_
        exact PO.finE Tryz.results177 (rv_tmp rv_nil) (by rw [show sEq mkR.key ⟨#[115,112,97,114,101]⟩=true from sEq_iff.2 rfl];rfl) hK
theorem LeftOps_spec {g:World} {A:HP} {t u:Value} {xs:List OpM} (hT:Tw A 4 OpM.c t xs mkO) (hA:RL A 4 OpM.c u xs) (hn:xs.length≤1000000):Spec Tryz.prog g 71 [t,u] [A] fun K R=>K (.bool true) (A::R):=by
  have hT0:=hT
  obtain ⟨b,o,c,rfl,hc,hB⟩:=hT0
  replace hT:=hT.rl opE
  have hnc:xs.length≤c:=by omega
  refine Spec.intro Tryz.func71 rfl Tryz.ntmps71 rfl fun R K hK=>?_
  refine WP.seq<|WP.reg<|WL.e e_assign<|WL.next<|WP.seq<|WP.seq<|WP.reg<|WL.e e_move<|WL.e (el_len (xs:=xs) sl36 hT)<|WL.e e_move<|WL.e (el_len (xs:=xs) sl36 hA)<|WL.e e_neq<|WL.e e_move ?_
  refine WL.bool 12 rfl (fun g1=>?_) (fun g1=>?_)
  · simp at g1 
  · skip
    refine WL.e e_move<|WL.e (e_cap sl36 rfl (At.lit hnc))<|WL.e e_move<|WL.e (el_len (xs:=xs) sl36 hA)<|WL.e e_leq<|WL.e e_pick_f<|WL.next ?_
    refine WP.cond rfl (fun h1=>?_) (fun h1=>?_)
    · rw [decide_eq_true_eq] at h1;omega
    · skip
      refine WP.skip<|PO.next<|WP.seq<|WP.seq<|WP.reg<|WL.e e_assign<|WL.next<|WP.block<|WP.loopK (fun (i:Nat)=>[(5,.int .i64 i)]) (fun (i:Nat)=>A::R) [(0,_),(1,_)] (fun (i:Nat)=>i≤xs.length) (fun (i:Nat)=>xs.length - i) 0 (Nat.zero_le _) ?_
      intro i hi
      refine WP.seq<|WP.seq<|WP.reg<|WL.e e_move<|WL.e e_move<|WL.e (el_len (xs:=xs) sl36 hA)<|WL.e e_lss<|WL.next ?_
      refine WP.cond rfl (fun h2=>?_) (fun h2=>?_)
      · have hlt:i < xs.length:=by rw [decide_eq_true_eq] at h2;omega
        obtain ⟨x,hx⟩:∃ x,xs[i]?=some x:=⟨_,List.getElem?_eq_getElem hlt⟩
        refine WP.skip<|PO.next<|WP.seq<|WP.block<|WP.seq<|WP.draws mixedOk 9<|RW.e 0 rfl e_move<|RW.e 1 rfl e_move<|RW.e 2 rfl (el_ia (j:=i) (xs:=xs) sl36 hT hlt)<|RW.e 3 rfl (el_loadN (j:=i) (a:=x) (xs:=xs) a115 opE hT hx)<|RW.e 4 rfl e_move<|RW.e 5 rfl e_move<|RW.e 6 rfl (el_ia (j:=i) (xs:=xs) sl36 hA hlt)<|RW.e 7 rfl (el_loadN (j:=i) (a:=x) (xs:=xs) a115 opE hA hx)<|RW.e 8 rfl (e_opsame (a:=x) Tryz.underlying115 Tryz.underlying113 Tryz.underlying9 Tryz.underlying35 a113 a9 a35 stoodOp eqgOp rfl rfl)<|RW.done<|PO.next ?_
        refine WP.cond rfl (fun h3=>?_) (fun h3=>?_)
        · simp at h3
        · skip
          refine WP.skip<|PO.blockN<|PO.next<|WP.reg<|WL.e e_move<|WL.e (e_add (c:=((i+1:Nat):Int)) rfl rfl (by rw [w_i64 (by omega) (by omega)];omega))<|WL.e e_assign<|WL.nil ?_
          exact PO.againK (i+1) (by omega) (by omega)
      · skip
        refine WP.exit<|PO.past nofun<|PO.round nofun<|PO.blockX<|PO.next<|WP.seq<|WP.reg<|WL.e e_move<|WL.e e_move<|WL.e (el_len (xs:=xs) sl36 hA)<|WL.e (e_add (c:=((xs.length+1:Nat):Int)) rfl rfl (by rw [w_i64 (by omega) (by omega)];omega))<|WL.e (e_toA (n:=xs.length) (hi:=xs.length+1) sl36 hnc hc)<|WL.e e_move<|WL.e (el_len (xs:=xs) sl36 hA)<|WL.e (el_ia (j:=xs.length) (xs:=xs++[mkO]) sl36 hB (by simp))<|WL.e (el_loadN (j:=xs.length) (a:=mkO) (xs:=xs++[mkO]) a115 opE hB (by simp)) ?_
        refine WL.h (h_alloc z115 fun b1=>?_)
        refine WL.h' (h_store s115 ?_)
        refine WL.next<|WP.seq<|WP.reg<|WL.e (e_fa f115_1)<|WL.e (e_load a9)<|WL.e e_seq<|WL.e e_assign<|WL.next<|WP.ret ?_
        exact PO.finE Tryz.results71 (rv_tmp rv_nil) (by rw [show sEq mkO.key ⟨#[115,112,97,114,101]⟩=true from sEq_iff.2 rfl];rfl) hK
theorem LeftInts_spec {g:World} {A:HP} {t u:Value} {xs:List Int} (hT:Tw A 1 intC t xs (77:Int)) (hA:RL A 1 intC u xs) (hn:xs.length≤1000000):Spec Tryz.prog g 13 [t,u] [A] fun K R=>K (.bool true) (A::R):=by
  have hT0:=hT
  obtain ⟨b,o,c,rfl,hc,hB⟩:=hT0
  replace hT:=hT.rl intE
  have hnc:xs.length≤c:=by omega
  refine Spec.intro Tryz.func13 rfl Tryz.ntmps13 rfl fun R K hK=>?_
  refine WP.seq<|WP.reg<|WL.e e_assign<|WL.next<|WP.seq<|WP.seq<|WP.reg<|WL.e e_move<|WL.e (el_len (xs:=xs) sl23 hT)<|WL.e e_move<|WL.e (el_len (xs:=xs) sl23 hA)<|WL.e e_neq<|WL.e e_move ?_
  refine WL.bool 12 rfl (fun g1=>?_) (fun g1=>?_)
  · simp at g1 
  · skip
    refine WL.e e_move<|WL.e (e_cap sl23 rfl (At.lit hnc))<|WL.e e_move<|WL.e (el_len (xs:=xs) sl23 hA)<|WL.e e_leq<|WL.e e_pick_f<|WL.next ?_
    refine WP.cond rfl (fun h1=>?_) (fun h1=>?_)
    · rw [decide_eq_true_eq] at h1;omega
    · skip
      refine WP.skip<|PO.next<|WP.seq<|WP.seq<|WP.reg<|WL.e e_assign<|WL.next<|WP.block<|WP.loopK (fun (i:Nat)=>[(5,.int .i64 i)]) (fun (i:Nat)=>A::R) [(0,_),(1,_)] (fun (i:Nat)=>i≤xs.length) (fun (i:Nat)=>xs.length - i) 0 (Nat.zero_le _) ?_
      intro i hi
      refine WP.seq<|WP.seq<|WP.reg<|WL.e e_move<|WL.e e_move<|WL.e (el_len (xs:=xs) sl23 hA)<|WL.e e_lss<|WL.next ?_
      refine WP.cond rfl (fun h2=>?_) (fun h2=>?_)
      · have hlt:i < xs.length:=by rw [decide_eq_true_eq] at h2;omega
        obtain ⟨x,hx⟩:∃ x,xs[i]?=some x:=⟨_,List.getElem?_eq_getElem hlt⟩
        refine WP.skip<|PO.next<|WP.seq<|WP.block<|WP.seq<|WP.draws mixedOk 9<|RW.e 0 rfl e_move<|RW.e 1 rfl e_move<|RW.e 2 rfl (el_ia (j:=i) (xs:=xs) sl23 hT hlt)<|RW.e 3 rfl (el_load0 (j:=i) (a:=x) (xs:=xs) a3 intE hT hx)<|RW.e 4 rfl e_move<|RW.e 5 rfl e_move<|RW.e 6 rfl (el_ia (j:=i) (xs:=xs) sl23 hA hlt)<|RW.e 7 rfl (el_load0 (j:=i) (a:=x) (xs:=xs) a3 intE hA hx)<|RW.e 8 rfl e_neq<|RW.done<|PO.next ?_
        refine WP.cond rfl (fun h3=>?_) (fun h3=>?_)
        · simp at h3
        · skip
          refine WP.skip<|PO.blockN<|PO.next<|WP.reg<|WL.e e_move<|WL.e (e_add (c:=((i+1:Nat):Int)) rfl rfl (by rw [w_i64 (by omega) (by omega)];omega))<|WL.e e_assign<|WL.nil ?_
          exact PO.againK (i+1) (by omega) (by omega)
      · skip
        refine WP.exit<|PO.past nofun<|PO.round nofun<|PO.blockX<|PO.next<|WP.seq<|WP.reg<|WL.e e_move<|WL.e e_move<|WL.e (el_len (xs:=xs) sl23 hA)<|WL.e (e_add (c:=((xs.length+1:Nat):Int)) rfl rfl (by rw [w_i64 (by omega) (by omega)];omega))<|WL.e (e_toA (n:=xs.length) (hi:=xs.length+1) sl23 hnc hc)<|WL.e e_move<|WL.e (el_len (xs:=xs) sl23 hA)<|WL.e (el_ia (j:=xs.length) (xs:=xs++[(77:Int)]) sl23 hB (by simp))<|WL.e (el_load0 (j:=xs.length) (a:=(77:Int)) (xs:=xs++[(77:Int)]) a3 intE hB (by simp))<|WL.e e_assign<|WL.next<|WP.seq<|WP.reg<|WL.e e_move<|WL.e e_eql<|WL.e e_assign<|WL.next ?_
        refine WP.ret ?_
        exact PO.finE Tryz.results13 (rv_tmp rv_nil) rfl hK
theorem LeftResult_spec {g:World} {A:HP} {t u:SV} {xs:List RowM} (hT:Tw A 2 RowM.c t.v xs mkR) (hA:RL A 2 RowM.c u.v xs) (hn:xs.length≤1000000):Spec Tryz.prog g 115 [.agg #[t.v],.agg #[u.v]] [A] fun K R=>K (.bool true) (A::R):=by
  refine Spec.intro Tryz.func115 rfl Tryz.ntmps115 rfl fun R K hK=>?_
  refine WP.seq<|WP.reg ?_
  refine WL.h (h_box fun b1=>?_)
  refine WL.h (h_box fun b2=>?_)
  refine WL.e e_assign<|WL.next<|WP.seq<|WP.reg<|WL.e (e_fa f123_0)<|WL.e (e_load a24)<|WL.e (e_fa f123_0)<|WL.e (e_load a24) ?_
  refine WL.h (h_call (LeftRows_spec hT hA hn) k177 ?_)
  refine WL.e e_assign<|WL.next<|WP.ret ?_
  exact PO.finE Tryz.results115 (rv_tmp rv_nil) rfl hK
theorem LeftResults_spec {g:World} {A:HP} {t u:Value} {ps:List (List RowM)} (hT:TwRs A t ps) (hA:RsL A u ps) (hn:ps.length≤1000000) (hr:∀ l ∈ ps,l.length≤1000000):Spec Tryz.prog g 72 [t,u] [A] fun K R=>K (.bool true) (A::R):=by
  obtain ⟨ys,mk,hT1,hW,hN,hK1⟩:=hT
  obtain ⟨xs,hX,hR,hM⟩:=hA
  have hYX:ys.map (·.2)=xs.map (·.2):=hN.trans hM.symm
  have hyl:ys.length=xs.length:=by have:=congrArg List.length hYX;simpa using this
  rw [← hM,List.length_map] at hn
  have hT0:=hT1
  obtain ⟨b,o,c,rfl,hc,hB⟩:=hT0
  have hU:=hT1.rl resE
  rw [hyl] at hB
  have hnc:ys.length≤c:=by omega
  refine Spec.intro Tryz.func72 rfl Tryz.ntmps72 rfl fun R K hK=>?_
  refine WP.seq<|WP.reg<|WL.e e_assign<|WL.next<|WP.seq<|WP.seq<|WP.reg<|WL.e e_move<|WL.e (el_len (xs:=ys) sl37 hU)<|WL.e e_move<|WL.e (el_len (xs:=xs) sl37 hX)<|WL.e e_neq<|WL.e e_move ?_
  refine WL.bool 12 rfl (fun g1=>?_) (fun g1=>?_)
  · simp [hyl] at g1 
  · skip
    refine WL.e e_move<|WL.e (e_cap sl37 rfl (At.lit hnc))<|WL.e e_move<|WL.e (el_len (xs:=xs) sl37 hX)<|WL.e e_leq<|WL.e e_pick_f<|WL.next ?_
    refine WP.cond rfl (fun h1=>?_) (fun h1=>?_)
    · rw [decide_eq_true_eq] at h1;omega
    · skip
      refine WP.skip<|PO.next<|WP.seq<|WP.seq<|WP.reg<|WL.e e_assign<|WL.next<|WP.block<|WP.loopK (fun (i:Nat)=>[(5,.int .i64 i)]) (fun (i:Nat)=>A::R) [(0,_),(1,_)] (fun (i:Nat)=>i≤xs.length) (fun (i:Nat)=>xs.length - i) 0 (Nat.zero_le _) ?_
      intro i hi
      refine WP.seq<|WP.seq<|WP.reg<|WL.e e_move<|WL.e e_move<|WL.e (el_len (xs:=xs) sl37 hX)<|WL.e e_lss<|WL.next ?_
      refine WP.cond rfl (fun h2=>?_) (fun h2=>?_)
      · have hlt:i < xs.length:=by rw [decide_eq_true_eq] at h2;omega
        obtain ⟨x,hx⟩:∃ x,xs[i]?=some x:=⟨_,List.getElem?_eq_getElem hlt⟩
        obtain ⟨y,hy⟩:∃ y,ys[i]?=some y:=⟨_,List.getElem?_eq_getElem (by omega)⟩
        have hxy:y.2=x.2:=by
          have h5:=congrArg (·[i]?) hYX
          simpa [hx,hy] using h5
        refine WP.skip<|PO.next<|WP.seq<|WP.block<|WP.seq<|WP.draws mixedOk 10<|RW.e 0 rfl e_move<|RW.e 1 rfl e_move<|RW.e 2 rfl (el_ia (j:=i) (xs:=ys) sl37 hU (by omega))<|RW.e 3 rfl (el_loadN (vs:=resC y) (j:=i) (a:=y) (xs:=ys) a123 resE hU hy (hv:=ext_of (resE.len y)))<|RW.e 4 rfl e_move<|RW.e 5 rfl e_move<|RW.e 6 rfl (el_ia (j:=i) (xs:=xs) sl37 hX hlt)<|RW.e 7 rfl (el_loadN (vs:=resC x) (j:=i) (a:=x) (xs:=xs) a123 resE hX hx (hv:=ext_of (resE.len x))) ?_
        refine RW.any (is:=[8]) rfl ⟨?_,trivial⟩
        refine RWat.h rfl rfl rfl ?_
        refine (h_call (LeftResult_spec (t:=y.1) (u:=x.1) (xs:=x.2) (hxy ▸ hW y (List.mem_of_getElem? hy)) (hR x (List.mem_of_getElem? hx)) (hr x.2 (hM ▸ List.mem_map.2 ⟨x,List.mem_of_getElem? hx,rfl⟩))) k115 ?_)
        refine ⟨trivial,?_⟩
        refine RW.e 9 rfl e_not<|RW.done<|PO.next ?_
        refine WP.cond rfl (fun h3=>?_) (fun h3=>?_)
        · simp at h3
        · skip
          refine WP.skip<|PO.blockN<|PO.next<|WP.reg<|WL.e e_move<|WL.e (e_add (c:=((i+1:Nat):Int)) rfl rfl (by rw [w_i64 (by omega) (by omega)];omega))<|WL.e e_assign<|WL.nil ?_
          exact PO.againK (i+1) (by omega) (by omega)
      · skip
        refine WP.exit<|PO.past nofun<|PO.round nofun<|PO.blockX<|PO.next<|WP.seq<|WP.reg<|WL.e e_move<|WL.e e_move<|WL.e (el_len (xs:=xs) sl37 hX)<|WL.e (e_add (c:=((xs.length+1:Nat):Int)) rfl rfl (by rw [w_i64 (by omega) (by omega)];omega))<|WL.e (e_toA (n:=ys.length) (hi:=xs.length+1) sl37 hnc (by omega))<|WL.e e_move<|WL.e (el_len (xs:=xs) sl37 hX)<|WL.e (el_ia (j:=xs.length) (xs:=ys++[mk]) sl37 hB (by simp;omega))<|WL.e (el_loadN (vs:=resC mk) (j:=xs.length) (a:=mk) (xs:=ys++[mk]) a123 resE hB (by rw [← hyl];simp) (hv:=ext_of (resE.len mk))) ?_
        refine WL.h (h_alloc z123 fun b1=>?_)
        refine WL.h' (h_store s123 ?_)
        refine WL.next<|WP.seq<|WP.reg<|WL.e (e_fa f123_0)<|WL.e (e_load a24)<|WL.e (el_len (xs:=[mkR]) sl24 hK1)<|WL.e e_eql<|WL.e e_move ?_
        refine WL.bool 48 rfl (fun g2=>?_) (fun g2=>?_)
        · skip
          refine WL.e (e_fa f123_0)<|WL.e (e_load a24)<|WL.e (el_ia (j:=0) (xs:=[mkR]) sl24 hK1 (by decide))<|WL.e (el_fa (j:=0) (xs:=[mkR]) f59_0 hK1 (by decide))<|WL.e (el_load0 (j:=0) (xs:=[mkR]) (a:=mkR) a9 rowE hK1 rfl)<|WL.e e_seq<|WL.e e_pick_t<|WL.e e_assign<|WL.next<|WP.ret ?_
          exact PO.finE Tryz.results72 (rv_tmp rv_nil) (by rw [show sEq mkR.key ⟨#[115,112,97,114,101]⟩=true from sEq_iff.2 rfl];rfl) hK
        · exact absurd g2 (by decide) 
theorem LeftDeed_spec {g:World} {A:HP} {y x:DX} (hT:TwD A y) (hA:DpD A x) (he:y.2=x.2) (hn:SmP 1000000 x.2):Spec Tryz.prog g 29 [.agg #[.int .u32 y.1.g.toNat,.int .u8 y.1.site.toNat,.int .u32 y.1.order.toNat,y.1.ops.v,y.1.res.v],.agg #[.int .u32 x.1.g.toNat,.int .u8 x.1.site.toNat,.int .u32 x.1.order.toNat,x.1.ops.v,x.1.res.v]] [A] fun K R=>K (.bool true) (A::R):=by
  have e1:y.1.g=x.1.g:=by rw [← hT.g,← hA.g,he]
  have e2:y.1.site=x.1.site:=by rw [← hT.site,← hA.site,he]
  have e3:y.1.order=x.1.order:=by rw [← hT.order,← hA.order,he]
  refine Spec.intro Tryz.func29 rfl Tryz.ntmps29 rfl fun R K hK=>?_
  refine WP.seq<|WP.reg ?_
  refine WL.h (h_box fun b1=>?_)
  refine WL.h (h_box fun b2=>?_)
  refine WL.e e_assign<|WL.next<|WP.seq<|WP.reg<|WL.e (e_fa f39_0)<|WL.e (e_load a35)<|WL.e (e_fa f39_0)<|WL.e (e_load a35)<|WL.e (e_eql32)<|WL.e e_move ?_
  refine WL.bool 10 rfl (fun g1=>?_) (fun g1=>?_)
  · skip
    refine WL.e (e_fa f39_1)<|WL.e (e_load a5)<|WL.e (e_fa f39_1)<|WL.e (e_load a5)<|WL.e (e_eql8)<|WL.e e_pick_t<|WL.e e_move ?_
    refine WL.bool 17 rfl (fun g2=>?_) (fun g2=>?_)
    · skip
      refine WL.e (e_fa f39_2)<|WL.e (e_load a35)<|WL.e (e_fa f39_2)<|WL.e (e_load a35)<|WL.e (e_eql32)<|WL.e e_pick_t<|WL.e e_move ?_
      refine WL.bool 24 rfl (fun g3=>?_) (fun g3=>?_)
      · skip
        refine WL.e (e_fa f39_3)<|WL.e (e_load a36)<|WL.e (e_fa f39_3)<|WL.e (e_load a36) ?_
        refine WL.h (h_call (LeftOps_spec hT.ops (he ▸ hA.ops) (he ▸ hn.1)) k71 ?_)
        refine WL.e e_pick_t<|WL.e e_move ?_
        refine WL.bool 31 rfl (fun g4=>?_) (fun g4=>?_)
        · skip
          refine WL.e (e_fa f39_4)<|WL.e (e_load a37)<|WL.e (e_fa f39_4)<|WL.e (e_load a37) ?_
          refine WL.h (h_call (LeftResults_spec hT.res (he ▸ hA.res) (he ▸ hn.2.1) (he ▸ hn.2.2)) k72 ?_)
          refine WL.e e_pick_t<|WL.e e_assign<|WL.next<|WP.ret ?_
          exact PO.finE Tryz.results29 (rv_tmp rv_nil) rfl hK
        · cases g4 
      · exact absurd g3 (by simp [e3]) 
    · exact absurd g2 (by simp [e2]) 
  · exact absurd g1 (by simp [e1]) 
theorem LeftDeeds_spec {g:World} {A:HP} {t u:Value} {ps:List PDeed} (hT:TwDs A t ps) (hA:DpL A u ps) (hn:ps.length≤1000000) (hs:∀ p ∈ ps,SmP 1000000 p):Spec Tryz.prog g 12 [t,u] [A] fun K R=>K (.bool true) (A::R):=by
  obtain ⟨ys,hT1,hW,hN⟩:=hT
  obtain ⟨xs,hX,hD,hM⟩:=hA
  have hYX:ys.map (·.2)=xs.map (·.2):=hN.trans hM.symm
  have hyl:ys.length=xs.length:=by have:=congrArg List.length hYX;simpa using this
  rw [← hM,List.length_map] at hn
  have hT0:=hT1
  obtain ⟨b,o,c,rfl,hc,hB⟩:=hT0
  have hU:=hT1.rl dxE
  rw [hyl] at hB
  have hnc:ys.length≤c:=by omega
  refine Spec.intro Tryz.func12 rfl Tryz.ntmps12 rfl fun R K hK=>?_
  refine WP.seq<|WP.reg<|WL.e e_assign<|WL.next<|WP.seq<|WP.seq<|WP.reg<|WL.e e_move<|WL.e (el_len (xs:=ys) sl22 hU)<|WL.e e_move<|WL.e (el_len (xs:=xs) sl22 hX)<|WL.e e_neq<|WL.e e_move ?_
  refine WL.bool 12 rfl (fun g1=>?_) (fun g1=>?_)
  · simp [hyl] at g1 
  · skip
    refine WL.e e_move<|WL.e (e_cap sl22 rfl (At.lit hnc))<|WL.e e_move<|WL.e (el_len (xs:=xs) sl22 hX)<|WL.e e_leq<|WL.e e_pick_f<|WL.next ?_
    refine WP.cond rfl (fun h1=>?_) (fun h1=>?_)
    · rw [decide_eq_true_eq] at h1;omega
    · skip
      refine WP.skip<|PO.next<|WP.seq<|WP.seq<|WP.reg<|WL.e e_assign<|WL.next<|WP.block<|WP.loopK (fun (i:Nat)=>[(5,.int .i64 i)]) (fun (i:Nat)=>A::R) [(0,_),(1,_)] (fun (i:Nat)=>i≤xs.length) (fun (i:Nat)=>xs.length - i) 0 (Nat.zero_le _) ?_
      intro i hi
      refine WP.seq<|WP.seq<|WP.reg<|WL.e e_move<|WL.e e_move<|WL.e (el_len (xs:=xs) sl22 hX)<|WL.e e_lss<|WL.next ?_
      refine WP.cond rfl (fun h2=>?_) (fun h2=>?_)
      · have hlt:i < xs.length:=by rw [decide_eq_true_eq] at h2;omega
        obtain ⟨x,hx⟩:∃ x,xs[i]?=some x:=⟨_,List.getElem?_eq_getElem hlt⟩
        obtain ⟨y,hy⟩:∃ y,ys[i]?=some y:=⟨_,List.getElem?_eq_getElem (by omega)⟩
        have hxy:y.2=x.2:=by
          have h5:=congrArg (·[i]?) hYX
          simpa [hx,hy] using h5
        refine WP.skip<|PO.next<|WP.seq<|WP.block<|WP.seq<|WP.draws mixedOk 10<|RW.e 0 rfl e_move<|RW.e 1 rfl e_move<|RW.e 2 rfl (el_ia (j:=i) (xs:=ys) sl22 hU (by omega))<|RW.e 3 rfl (el_loadN (vs:=dxC y) (j:=i) (a:=y) (xs:=ys) a39 dxE hU hy (hv:=ext_of (dxE.len y)))<|RW.e 4 rfl e_move<|RW.e 5 rfl e_move<|RW.e 6 rfl (el_ia (j:=i) (xs:=xs) sl22 hX hlt)<|RW.e 7 rfl (el_loadN (vs:=dxC x) (j:=i) (a:=x) (xs:=xs) a39 dxE hX hx (hv:=ext_of (dxE.len x))) ?_
        refine RW.any (is:=[8]) rfl ⟨?_,trivial⟩
        refine RWat.h rfl rfl rfl ?_
        refine (h_call (LeftDeed_spec (y:=y) (x:=x) (hW y (List.mem_of_getElem? hy)) (hD x (List.mem_of_getElem? hx)) hxy (hs x.2 (hM ▸ List.mem_map.2 ⟨x,List.mem_of_getElem? hx,rfl⟩))) k29 ?_)
        refine ⟨trivial,?_⟩
        refine RW.e 9 rfl e_not<|RW.done<|PO.next ?_
        refine WP.cond rfl (fun h3=>?_) (fun h3=>?_)
        · simp at h3
        · skip
          refine WP.skip<|PO.blockN<|PO.next<|WP.reg<|WL.e e_move<|WL.e (e_add (c:=((i+1:Nat):Int)) rfl rfl (by rw [w_i64 (by omega) (by omega)];omega))<|WL.e e_assign<|WL.nil ?_
          exact PO.againK (i+1) (by omega) (by omega)
      · skip
        refine WP.exit<|PO.past nofun<|PO.round nofun<|PO.blockX<|PO.next<|WP.seq<|WP.reg<|WL.e e_move<|WL.e e_move<|WL.e (el_len (xs:=xs) sl22 hX)<|WL.e (e_add (c:=((xs.length+1:Nat):Int)) rfl rfl (by rw [w_i64 (by omega) (by omega)];omega))<|WL.e (e_toA (n:=ys.length) (hi:=xs.length+1) sl22 hnc (by omega))<|WL.e e_move<|WL.e (el_len (xs:=xs) sl22 hX)<|WL.e (el_ia (j:=xs.length) (xs:=ys++[mkD]) sl22 hB (by simp;omega))<|WL.e (el_loadN (vs:=dxC mkD) (j:=xs.length) (a:=mkD) (xs:=ys++[mkD]) a39 dxE hB (by rw [← hyl];simp) (hv:=ext_of (dxE.len mkD))) ?_
        refine WL.h (h_alloc z39 fun b1=>?_)
        refine WL.h' (h_store s39 ?_)
        refine WL.next<|WP.seq<|WP.reg<|WL.e (e_fa f39_1)<|WL.e (e_load a5)<|WL.e (e_eql8 (b:=77))<|WL.e e_assign<|WL.next<|WP.ret ?_
        exact PO.finE Tryz.results12 (rv_tmp rv_nil) rfl hK
end Go.SL
