import Derived.Test.YtmeoolijekillaaGreatDoorQL20
set_option linter.unusedSimpArgs false
set_option linter.unusedVariables false
namespace Go.SL.Fc
open Go Go.Proofs Go.SL
theorem k23:callable Tryz.prog 23=true:=by kernel_rfl
theorem k24:callable Tryz.prog 24=true:=by kernel_rfl
theorem k27:callable Tryz.prog 27=true:=by kernel_rfl
theorem s4:szOf Tryz.prog 4=some 1:=by kernel_rfl
theorem sl60:slOf Tryz.prog 60=some (4,1,1):=by kernel_rfl
theorem z4:zeroOf Tryz.prog 4=some [.bool false]:=by kernel_rfl
end Go.SL.Fc
namespace Go.SL
open Go Go.Proofs Fc
set_option maxHeartbeats 8000000 in
theorem rSerial_spec {g:World} {A:HP} {u v:Value} {ps:List PDeed} {order:List Int} {r0 r1 r2:SV} {rows:List (List RowM)} (hD:DpL A u ps) (hO:RL A 1 intC v order) (hR:M3 A [r0,r1,r2] rows) (hn:ps.length≤60) (hs:∀ p ∈ ps,SmP 2000 p) (ho:order.length≤100) (hz:∀ p ∈ ps,SzP p) :
    Spec Tryz.prog g 11 [u,v,.agg #[r0.v,r1.v,r2.v]] [A] fun K R=>K (.bool (serM ps order rows)) (A::R):=by
  obtain ⟨xs,hX,hXD,hXM⟩:=hD
  have hxl:xs.length=ps.length:=by rw [← hXM,List.length_map]
  have hrl:rows.length=3:=hR.1.symm
  refine Spec.intro Tryz.func11 rfl Tryz.ntmps11 rfl fun R K hK=>?_
  refine WP.seq<|WP.reg ?_
  refine WL.h (h_box fun b1=>?_)
  refine WL.e e_assign<|WL.next<|WP.seq<|WP.reg<|WL.e e_move<|WL.e (el_len (xs:=xs) sl22 hX) ?_
  refine WL.h (hl_make (enc:=boolC) (n:=xs.length) false sl60 z4 (by omega) (fun a1 n1 c1=>?_))
  refine WL.e e_assign<|WL.next<|WP.seq<|WP.seq<|WP.reg<|WL.e e_assign<|WL.next<|WP.block<|WP.loopK (fun (z:Nat × List Bool)=>[(8,.int .i64 z.1)]) (fun (z:Nat × List Bool)=>Sl 4 1 boolC (.slice a1 n1 c1) (z.2)::cl b1 25 [r0.v,r1.v,r2.v]::A::R) [(0,_),(1,_),(5,_),(7,_)] (fun (z:Nat × List Bool)=>z.1≤order.length∧z.2.length=xs.length∧SeenB z.2 order z.1∧∀ j,j < z.1→ordAt ps order j=true) (fun (z:Nat × List Bool)=>order.length - z.1) (0,List.replicate xs.length false) (⟨Nat.zero_le _,List.length_replicate,SeenB.init order _,fun j hj=>absurd hj (Nat.not_lt_zero j)⟩) ?_
  rintro ⟨i,bs⟩ ⟨hi,hbl,hS,hall⟩
  simp only at hi hbl hS hall
  dsimp only
  refine WP.seq<|WP.seq<|WP.reg<|WL.e e_move<|WL.e e_move<|WL.e (el_len (xs:=order) sl23 hO)<|WL.e e_lss<|WL.next ?_
  refine WP.cond rfl (fun h1=>?_) (fun h1=>?_)
  · have hlt:i < order.length:=by rw [decide_eq_true_eq] at h1;omega
    obtain ⟨k,hk⟩:∃ k,order[i]?=some k:=⟨_,List.getElem?_eq_getElem hlt⟩
    refine WP.skip<|PO.next<|WP.seq<|WP.block<|WP.seq<|WP.seq<|WP.reg<|WL.e e_move<|WL.e e_move<|WL.e (el_ia (j:=i) (xs:=order) sl23 hO hlt)<|WL.e (el_load0 (j:=i) (xs:=order) (a:=k) a3 intE hO hk)<|WL.e e_lss<|WL.e e_move ?_
    refine WL.bool 33 rfl (fun g1=>?_) (fun g1=>?_)
    · have hbad:=ord_neg (ds:=ps) hk (of_decide_eq_true g1)
      refine WL.skip<|WL.skip<|WL.skip<|WL.skip<|WL.skip<|WL.skip<|WL.skip<|WL.e e_pick_t<|WL.e e_move<|WL.skip<|WL.skip<|WL.skip<|WL.skip<|WL.skip<|WL.skip<|WL.skip<|WL.e e_pick_t<|WL.e e_move<|WL.skip<|WL.skip<|WL.skip<|WL.skip<|WL.skip<|WL.skip ?_
      refine WL.skip<|WL.skip<|WL.skip<|WL.e e_pick_t<|WL.e e_move<|WL.skip<|WL.skip<|WL.skip<|WL.skip<|WL.skip<|WL.skip<|WL.skip<|WL.skip<|WL.skip<|WL.e e_pick_t<|WL.next<|WP.cond_t rfl<|WP.seq<|WP.reg<|WL.e e_assign<|WL.next<|WP.ret<|PO.past nofun<|PO.blockR ?_
      refine PO.past nofun<|PO.round nofun<|PO.blockR<|PO.past nofun ?_
      exact PO.finE Tryz.results11 (rv_tmp rv_nil) (by rw [ord_no hlt hbad rows];rfl) hK
    · obtain ⟨n,rfl⟩:∃ n:Nat,k=n:=⟨k.toNat,by have:=of_decide_eq_false g1;omega⟩
      refine WL.e e_move<|WL.e e_move<|WL.e (el_ia (j:=i) (xs:=order) sl23 hO hlt)<|WL.e (el_load0 (j:=i) (xs:=order) (a:=(n:Int)) a3 intE hO hk)<|WL.e e_move<|WL.e (el_len (xs:=xs) sl22 hX)<|WL.e e_geq<|WL.e e_pick_f<|WL.e e_move ?_
      refine WL.bool 42 rfl (fun g2=>?_) (fun g2=>?_)
      · have hbad:=ord_big (ds:=ps) hk (by have:=of_decide_eq_true g2;omega)
        refine WL.skip<|WL.skip<|WL.skip<|WL.skip<|WL.skip<|WL.skip<|WL.skip<|WL.e e_pick_t<|WL.e e_move<|WL.skip<|WL.skip<|WL.skip<|WL.skip<|WL.skip<|WL.skip<|WL.skip<|WL.skip<|WL.skip<|WL.e e_pick_t<|WL.e e_move<|WL.skip<|WL.skip<|WL.skip<|WL.skip ?_
        refine WL.skip<|WL.skip<|WL.skip<|WL.skip<|WL.skip<|WL.e e_pick_t<|WL.next<|WP.cond_t rfl<|WP.seq<|WP.reg<|WL.e e_assign<|WL.next<|WP.ret<|PO.past nofun<|PO.blockR<|PO.past nofun<|PO.round nofun<|PO.blockR<|PO.past nofun ?_
        exact PO.finE Tryz.results11 (rv_tmp rv_nil) (by rw [ord_no hlt hbad rows];rfl) hK
      · have hnl:n < xs.length:=by have:=of_decide_eq_false g2;omega
        obtain ⟨x,hx⟩:∃ x,xs[n]?=some x:=⟨_,List.getElem?_eq_getElem hnl⟩
        have hp:ps[n]?=some x.2:=by rw [← hXM,List.getElem?_map,hx];rfl
        have hse:=(hXD x (List.mem_of_getElem? hx)).site
        have hnb:n < bs.length:=by omega
        refine WL.e e_move<|WL.e e_move<|WL.e e_move<|WL.e (el_ia (j:=i) (xs:=order) sl23 hO hlt)<|WL.e (el_load0 (j:=i) (xs:=order) (a:=(n:Int)) a3 intE hO hk)<|WL.e (el_ia (j:=n) (xs:=bs) sl60 sl_rl hnb)<|WL.e (el_load0 (j:=n) (xs:=bs) (a:=decide ((n:Int) ∈ order.take i)) a4 boolE sl_rl (hS n hnb))<|WL.e e_pick_f<|WL.e e_move ?_
        refine WL.bool 51 rfl (fun g3=>?_) (fun g3=>?_)
        · have hbad:=ord_seen (ds:=ps) hk (of_decide_eq_true g3)
          refine WL.skip<|WL.skip<|WL.skip<|WL.skip<|WL.skip<|WL.skip<|WL.skip<|WL.skip<|WL.skip<|WL.e e_pick_t<|WL.e e_move<|WL.skip<|WL.skip<|WL.skip<|WL.skip<|WL.skip<|WL.skip<|WL.skip<|WL.skip<|WL.skip<|WL.e e_pick_t<|WL.next<|WP.cond_t rfl<|WP.seq ?_
          refine WP.reg<|WL.e e_assign<|WL.next<|WP.ret<|PO.past nofun<|PO.blockR<|PO.past nofun<|PO.round nofun<|PO.blockR<|PO.past nofun ?_
          exact PO.finE Tryz.results11 (rv_tmp rv_nil) (by rw [ord_no hlt hbad rows];rfl) hK
        · replace g3:=of_decide_eq_false g3
          refine WL.e e_move<|WL.e e_move<|WL.e e_move<|WL.e (el_ia (j:=i) (xs:=order) sl23 hO hlt)<|WL.e (el_load0 (j:=i) (xs:=order) (a:=(n:Int)) a3 intE hO hk)<|WL.e (el_ia (j:=n) (xs:=xs) sl22 hX hnl)<|WL.e (el_fa (z:=5) (j:=n) (xs:=xs) f39_1 hX hnl)<|WL.e (el_load (j:=n) (f:=1) (xs:=xs) (a:=x) a5 dxE hX hx)<|WL.e e_lss<|WL.e e_pick_f<|WL.e e_move ?_
          refine WL.bool 62 rfl (fun g4=>?_) (fun g4=>?_)
          · have hbad:=ord_site hk hp (by rw [hse];have:=of_decide_eq_true g4;omega)
            refine WL.skip<|WL.skip<|WL.skip<|WL.skip<|WL.skip<|WL.skip<|WL.skip<|WL.skip<|WL.skip<|WL.e e_pick_t<|WL.next<|WP.cond_t rfl<|WP.seq<|WP.reg<|WL.e e_assign<|WL.next<|WP.ret<|PO.past nofun<|PO.blockR<|PO.past nofun<|PO.round nofun<|PO.blockR<|PO.past nofun ?_
            exact PO.finE Tryz.results11 (rv_tmp rv_nil) (by rw [ord_no hlt hbad rows];rfl) hK
          · replace g4:1≤x.1.site.toNat:=by have:=of_decide_eq_false g4;omega
            refine WL.e e_move<|WL.e e_move<|WL.e e_move<|WL.e (el_ia (j:=i) (xs:=order) sl23 hO hlt)<|WL.e (el_load0 (j:=i) (xs:=order) (a:=(n:Int)) a3 intE hO hk)<|WL.e (el_ia (j:=n) (xs:=xs) sl22 hX hnl)<|WL.e (el_fa (z:=5) (j:=n) (xs:=xs) f39_1 hX hnl)<|WL.e (el_load (j:=n) (f:=1) (xs:=xs) (a:=x) a5 dxE hX hx)<|WL.e e_gtr<|WL.e e_pick_f<|WL.next ?_
            refine WP.cond rfl (fun h5=>?_) (fun h5=>?_)
            · have hbad:=ord_site hk hp (by rw [hse];have:=of_decide_eq_true h5;omega)
              refine WP.seq<|WP.reg<|WL.e e_assign<|WL.next<|WP.ret<|PO.past nofun<|PO.blockR<|PO.past nofun<|PO.round nofun<|PO.blockR<|PO.past nofun ?_
              exact PO.finE Tryz.results11 (rv_tmp rv_nil) (by rw [ord_no hlt hbad rows];rfl) hK
            · replace h5:x.1.site.toNat≤3:=by have:=of_decide_eq_false h5;omega
              refine WP.skip<|PO.next<|WP.reg<|WL.e e_move<|WL.e e_move<|WL.e e_move<|WL.e (el_ia (j:=i) (xs:=order) sl23 hO hlt)<|WL.e (el_load0 (j:=i) (xs:=order) (a:=(n:Int)) a3 intE hO hk)<|WL.e (el_ia (j:=n) (xs:=bs) sl60 sl_rl hnb) ?_
              refine WL.h' (hl_store (j:=n) (xs:=bs) true s4 boolE hnb ?_)
              refine WL.nil<|PO.blockN<|PO.next<|WP.reg<|WL.e e_move<|WL.e (e_add (c:=((i+1:Nat):Int)) rfl rfl (by rw [w_i64 (by omega) (by omega)];omega))<|WL.e e_assign<|WL.nil ?_
              exact PO.againK (i+1,bs.set n true) ⟨by simp only;omega,by simp only;rw [List.length_set];exact hbl,hS.step hk,fun j hj=>by
                simp only at hj
                rcases Nat.lt_or_ge j i with h9 | h9
                · exact hall j h9
                · obtain rfl:j=i:=by omega
                  exact ord_at hk hp (by rw [hse];omega) (by rw [hse];omega) g3⟩ (by simp only;omega)
  · have hok:=ord_yes (fun j hj=>hall j (by rw [decide_eq_false_iff_not] at h1;omega))
    refine WP.exit<|PO.past nofun<|PO.round nofun<|PO.blockX<|PO.next<|WP.seq<|WP.seq<|WP.reg<|WL.e e_move<|WL.e (el_len (xs:=order) sl23 hO)<|WL.e e_move<|WL.e (el_len (xs:=xs) sl22 hX)<|WL.e e_neq<|WL.next ?_
    refine WP.cond rfl (fun h6=>?_) (fun h6=>?_)
    · replace h6:order.length≠ps.length:=fun e=>by simp [e,hxl] at h6
      refine WP.seq<|WP.reg<|WL.e e_assign<|WL.next<|WP.ret<|PO.past nofun ?_
      exact PO.finE Tryz.results11 (rv_tmp rv_nil) (by rw [ser_len h6];rfl) hK
    · replace h6:order.length=ps.length:=by simp at h6;omega
      refine WP.skip<|PO.next<|WP.seq<|WP.reg ?_
      refine WL.h (h_alloc z25 fun b2=>?_)
      refine WL.next<|WP.seq<|WP.seq<|WP.reg<|WL.e e_assign<|WL.next<|WP.block<|WP.loopK (fun (z:Nat × List SV × List (List RowM) × HP)=>[(10,.int .i64 z.1)]) (fun (z:Nat × List SV × List (List RowM) × HP)=>cl b2 25 (svs z.2.1)::cl b1 25 [r0.v,r1.v,r2.v]::z.2.2.2::R) [(0,_),(1,_),(5,_),(9,_)] (fun (z:Nat × List SV × List (List RowM) × HP)=>z.1≤order.length∧foldD ps [[],[],[]] (order.take z.1)=some z.2.2.1∧OkM z.2.2.1 z.1∧M3 z.2.2.2 z.2.1 z.2.2.1∧Ge A z.2.2.2) (fun (z:Nat × List SV × List (List RowM) × HP)=>order.length - z.1) (0,[⟨none,0,0⟩,⟨none,0,0⟩,⟨none,0,0⟩],[[],[],[]],A) (⟨Nat.zero_le _,rfl,OkM.init,M3.init,Ge.refl A⟩) ?_
      rintro ⟨i,vs,M,B⟩ ⟨hi,hf,hM,h3,hG⟩
      simp only at hi hf hM h3 hG
      dsimp only
      refine WP.seq<|WP.seq<|WP.reg<|WL.e e_move<|WL.e e_move<|WL.e (el_len (xs:=order) sl23 (hO.ge hG))<|WL.e e_lss<|WL.next ?_
      refine WP.cond rfl (fun h7=>?_) (fun h7=>?_)
      · have hlt:i < order.length:=by rw [decide_eq_true_eq] at h7;omega
        obtain ⟨k,hk⟩:∃ k,order[i]?=some k:=⟨_,List.getElem?_eq_getElem hlt⟩
        obtain ⟨n,p,rfl,hp,hs1,hs2⟩:=ord_get hok hk
        obtain ⟨x,hx,rfl⟩:∃ x,xs[n]?=some x∧x.2=p:=by
          rw [← hXM,List.getElem?_map] at hp
          exact Option.map_eq_some_iff.1 hp
        have hnl:=idx_lt hx
        have hd:=hXD x (List.mem_of_getElem? hx)
        have hsm:=hs x.2 (List.mem_of_getElem? hp)
        have hzx:=hz x.2 (List.mem_of_getElem? hp)
        have hsm1:=hsm.1
        have hse:=hd.site
        obtain ⟨k1,k2,k3⟩:=hM.at x.2.site
        have hat:=hM.get hs1 hs2
        obtain ⟨sv,hv,hrv⟩:=h3.get hat
        rw [hse] at hs1 hs2 hv
        have hj:x.1.site.toNat - 1 < 3:=by omega
        have hr5:=runM_rows k1 x.2.ops
        refine WP.skip<|PO.next<|WP.seq<|WP.block<|WP.seq<|WP.reg<|WL.e e_move<|WL.e e_move<|WL.e e_move<|WL.e (el_ia (j:=i) (xs:=order) sl23 (hO.ge hG) hlt)<|WL.e (el_load0 (j:=i) (xs:=order) (a:=(n:Int)) a3 intE (hO.ge hG) hk)<|WL.e (el_ia (j:=n) (xs:=xs) sl22 (hX.ge hG) hnl)<|WL.e (el_loadN (vs:=dxC x) (j:=n) (a:=x) (xs:=xs) a39 dxE (hX.ge hG) hx (hv:=ext_of (dxE.len x))) ?_
        refine WL.h (h_alloc z39 fun b3=>?_)
        refine WL.h' (h_store s39 ?_)
        refine WL.next<|WP.seq<|WP.draws mixedOk 15<|RW.e 0 rfl (e_fa f39_1)<|RW.e 1 rfl (e_load a5)<|RW.e 2 rfl (e_sub (c:=((x.1.site.toNat - 1:Nat):Int)) rfl rfl (by simp [IntKind.wrap,IntKind.bits,IntKind.signed];omega))<|RW.e 3 rfl (e_iaA (j:=(x.1.site.toNat - 1)) ar25 hj)<|RW.e 4 rfl (e_load (l:=svs vs) a24 (hv:=svs_get hv))<|RW.e 5 rfl (e_fa f39_3)<|RW.e 6 rfl (e_load a36) ?_
        refine RW.any (is:=[7]) rfl ⟨?_,trivial⟩
        refine RWat.h rfl rfl rfl ?_
        refine (h_call (rRun_spec (rows:=(atM M x.2.site)) (l:=x.2.ops) hrv (hd.ops.ge hG) k1 k2 (by omega) hzx.op) k23 ?_)
        refine ⟨fun hbad B2 hG2=>?_,fun hgood s1 s2 B2 hG2 hR2 hL2=>?_⟩
        · skip
          refine ⟨trivial,?_⟩
          refine RW.e 8 rfl e_move<|RW.e 9 rfl e_extract<|RW.e 10 rfl e_extract<|RW.e 11 rfl e_extract<|RW.e 12 rfl e_assign<|RW.e 13 rfl e_assign<|RW.e 14 rfl e_assign<|RW.done<|PO.next<|WP.seq<|WP.seq<|WP.reg<|WL.e e_move<|WL.e e_neq<|WL.e e_move ?_
          refine WL.bool 111 rfl (fun g8=>?_) (fun g8=>?_)
          · skip
            refine WL.skip<|WL.skip<|WL.skip<|WL.skip<|WL.skip<|WL.e e_pick_t<|WL.next<|WP.cond_t rfl<|WP.seq<|WP.reg<|WL.e e_assign<|WL.next<|WP.ret<|PO.past nofun<|PO.blockR<|PO.past nofun<|PO.round nofun<|PO.blockR<|PO.past nofun<|PO.backP (hG.trans hG2) ?_
            exact PO.finE Tryz.results11 (rv_tmp rv_nil) (by rw [ser_none (i:=i+1) ((foldD_snoc hf hk).trans (step_no hp (fun e=>by rw [hbad] at e;cases e)))];rfl) hK
          · exact absurd g8 (by decide) 
        · skip
          refine ⟨trivial,?_⟩
          refine RW.e 8 rfl e_move<|RW.e 9 rfl e_extract<|RW.e 10 rfl e_extract<|RW.e 11 rfl e_extract<|RW.e 12 rfl e_assign<|RW.e 13 rfl e_assign<|RW.e 14 rfl e_assign<|RW.done<|PO.next<|WP.seq<|WP.seq<|WP.reg<|WL.e e_move<|WL.e e_neq<|WL.e e_move ?_
          refine WL.bool 111 rfl (fun g8=>?_) (fun g8=>?_)
          · exact absurd g8 (by decide) 
          · skip
            refine WL.e e_move<|WL.e (e_fa f39_4)<|WL.e (e_load a37) ?_
            refine WL.h (h_call (rSame_spec hR2 (hd.res.ge (hG.trans hG2)) (by rw [hr5.2.2];omega) (fun t ht=>by have:=runM_each _ _ t ht;omega)) k24 ?_)
            refine WL.e e_not<|WL.e e_pick_f<|WL.next ?_
            refine WP.cond rfl (fun h9=>?_) (fun h9=>?_)
            · replace h9:(runM (atM M x.2.site) x.2.ops).1≠x.2.res:=by simpa using h9
              refine WP.seq<|WP.reg<|WL.e e_assign<|WL.next<|WP.ret<|PO.past nofun<|PO.blockR<|PO.past nofun<|PO.round nofun<|PO.blockR<|PO.past nofun<|PO.backP (hG.trans hG2) ?_
              exact PO.finE Tryz.results11 (rv_tmp rv_nil) (by rw [ser_none (i:=i+1) ((foldD_snoc hf hk).trans (step_no hp (fun _=>h9)))];rfl) hK
            · replace h9:(runM (atM M x.2.site) x.2.ops).1=x.2.res:=by simpa using h9
              have hst:=(foldD_snoc hf hk).trans (step_yes hp hgood h9)
              have hM2:=hM.step hsm1 hgood
              refine WP.skip<|PO.next<|WP.seq<|WP.seq<|WP.reg<|WL.e (e_fa f39_0)<|WL.e (e_load a35)<|WL.e (e_neq32 (b:=0))<|WL.next ?_
              refine WP.cond rfl (fun h10=>?_) (fun h10=>?_)
              · replace h10:x.1.g≠0:=by simpa using h10
                refine WP.seq<|WP.reg<|WL.e e_move ?_
                refine WL.h (h_call (rFind_spec kT hL2 (by omega)) k25 ?_)
                refine WL.e e_move<|WL.e e_extract<|WL.e e_extract<|WL.e e_assign<|WL.e e_assign<|WL.next<|WP.seq<|WP.reg<|WL.e e_assign<|WL.next<|WP.seq<|WP.seq<|WP.reg<|WL.e e_move<|WL.next ?_
                refine WP.cond rfl (fun h13=>?_) (fun h13=>?_)
                · obtain ⟨tv,htv,htk⟩:=tick_has hr5.1 h13
                  refine WP.reg<|WL.e e_move<|WL.e e_move<|WL.e (el_ia (j:=lowI (runM (atM M x.2.site) x.2.ops).2 kT) (xs:=(runM (atM M x.2.site) x.2.ops).2) sl24 hL2 (idx_lt htv))<|WL.e (el_fa (z:=2) (j:=lowI (runM (atM M x.2.site) x.2.ops).2 kT) (xs:=(runM (atM M x.2.site) x.2.ops).2) f59_1 hL2 (idx_lt htv))<|WL.e (el_load (j:=lowI (runM (atM M x.2.site) x.2.ops).2 kT) (f:=1) (xs:=(runM (atM M x.2.site) x.2.ops).2) (a:=⟨kT,tv⟩) a35 rowE hL2 htv)<|WL.e (e_add32 (a:=tv) (b:=1))<|WL.e e_assign<|WL.next<|WP.draws mixedOk 8<|RW.e 0 rfl e_move<|RW.e 1 rfl e_move<|RW.e 3 rfl (e_fa f39_0)<|RW.e 4 rfl (e_load a35) ?_
                  refine RW.any (is:=[2]) rfl ⟨?_,trivial⟩
                  refine RWat.h rfl rfl rfl ?_
                  refine (h_call (rPut_spec kT (tv+1) hL2 (by omega)) k26 ?_)
                  intro a6 m6 c6 B3 hG3 hL3
                  refine ⟨⟨⟨_,rfl,.inl ⟨rfl,(e_load a35)⟩⟩,⟨_,rfl,.inl ⟨rfl,(e_fa f39_0)⟩⟩,trivial⟩,?_⟩
                  refine RW.any (is:=[5]) rfl ⟨?_,trivial⟩
                  refine RWat.h rfl rfl rfl ?_
                  refine (h_call (rMark_spec _) k27 ?_)
                  refine ⟨trivial,?_⟩
                  refine RW.any (is:=[6]) rfl ⟨?_,trivial⟩
                  refine RWat.h rfl rfl rfl ?_
                  refine (h_call (rPut_spec (markK x.1.g) 1 hL3 (by have:=(setR_spec hr5.1 kT (tv+1)).2.2;omega)) k26 ?_)
                  intro a7 m7 c7 B4 hG4 hL4
                  have htk2:setR (setR (runM (atM M x.2.site) x.2.ops).2 kT (tv+1)) (markK x.1.g) 1=markR (runM (atM M x.2.site) x.2.ops).2 x.1.g:=by unfold markR;rw [htk]
                  refine ⟨trivial,?_⟩
                  refine RW.any (is:=[7]) rfl ⟨?_,trivial⟩
                  refine RWat.h rfl rfl rfl<|HO.of_eo e_assign ?_
                  refine ⟨trivial,?_⟩
                  refine RW.done<|PO.next<|WP.reg<|WL.e (e_fa f39_1)<|WL.e (e_load a5)<|WL.e (e_sub (c:=((x.1.site.toNat - 1:Nat):Int)) rfl rfl (by simp [IntKind.wrap,IntKind.bits,IntKind.signed];omega))<|WL.e e_move<|WL.e (e_iaA (j:=(x.1.site.toNat - 1)) ar25 hj) ?_
                  refine WL.h' (h_store1 (o:=0+(x.1.site.toNat - 1) * 1) (l:=svs vs) (v:=.slice a7 m7 c7) s24 (by rw [svs_len,h3.1,hM.len];omega) rfl ?_)
                  rw [show (svs vs).set (0+(x.1.site.toNat - 1) * 1) (.slice a7 m7 c7)=svs (vs.set (x.1.site.toNat - 1) ⟨a7,m7,c7⟩) from svs_set vs _ ⟨a7,m7,c7⟩]
                  refine WL.nil<|PO.blockN<|PO.next<|WP.reg<|WL.e e_move<|WL.e (e_add (c:=((i+1:Nat):Int)) rfl rfl (by rw [w_i64 (by omega) (by omega)];omega))<|WL.e e_assign<|WL.nil ?_
                  rw [htk2] at hL4
                  have hle:(leftD (atM M x.2.site) x.2)=markR (runM (atM M x.2.site) x.2.ops).2 x.1.g:=by unfold leftD;rw [hd.g,if_neg h10]
                  rw [← hle] at hL4
                  exact PO.againK (i+1,vs.set (x.1.site.toNat - 1) ⟨a7,m7,c7⟩,M.set (x.2.site.toNat - 1) (leftD (atM M x.2.site) x.2),B4) ⟨by simp only;omega,hst,hM2,by simp only;rw [← hse];exact (h3.ge (hG2.trans (hG3.trans hG4))).set _ hL4,(hG.trans hG2).trans (hG3.trans hG4)⟩ (by simp only;omega)
                · have htk:=tick_no hr5.1 h13
                  refine WP.skip<|PO.next<|WP.draws mixedOk 8<|RW.e 0 rfl e_move<|RW.e 1 rfl e_move<|RW.e 3 rfl (e_fa f39_0)<|RW.e 4 rfl (e_load a35) ?_
                  refine RW.any (is:=[2]) rfl ⟨?_,trivial⟩
                  refine RWat.h rfl rfl rfl ?_
                  refine (h_call (rPut_spec kT (1) hL2 (by omega)) k26 ?_)
                  intro a6 m6 c6 B3 hG3 hL3
                  refine ⟨⟨⟨_,rfl,.inl ⟨rfl,(e_load a35)⟩⟩,⟨_,rfl,.inl ⟨rfl,(e_fa f39_0)⟩⟩,trivial⟩,?_⟩
                  refine RW.any (is:=[5]) rfl ⟨?_,trivial⟩
                  refine RWat.h rfl rfl rfl ?_
                  refine (h_call (rMark_spec _) k27 ?_)
                  refine ⟨trivial,?_⟩
                  refine RW.any (is:=[6]) rfl ⟨?_,trivial⟩
                  refine RWat.h rfl rfl rfl ?_
                  refine (h_call (rPut_spec (markK x.1.g) 1 hL3 (by have:=(setR_spec hr5.1 kT (1)).2.2;omega)) k26 ?_)
                  intro a7 m7 c7 B4 hG4 hL4
                  have htk2:setR (setR (runM (atM M x.2.site) x.2.ops).2 kT (1)) (markK x.1.g) 1=markR (runM (atM M x.2.site) x.2.ops).2 x.1.g:=by unfold markR;rw [htk]
                  refine ⟨trivial,?_⟩
                  refine RW.any (is:=[7]) rfl ⟨?_,trivial⟩
                  refine RWat.h rfl rfl rfl<|HO.of_eo e_assign ?_
                  refine ⟨trivial,?_⟩
                  refine RW.done<|PO.next<|WP.reg<|WL.e (e_fa f39_1)<|WL.e (e_load a5)<|WL.e (e_sub (c:=((x.1.site.toNat - 1:Nat):Int)) rfl rfl (by simp [IntKind.wrap,IntKind.bits,IntKind.signed];omega))<|WL.e e_move<|WL.e (e_iaA (j:=(x.1.site.toNat - 1)) ar25 hj) ?_
                  refine WL.h' (h_store1 (o:=0+(x.1.site.toNat - 1) * 1) (l:=svs vs) (v:=.slice a7 m7 c7) s24 (by rw [svs_len,h3.1,hM.len];omega) rfl ?_)
                  rw [show (svs vs).set (0+(x.1.site.toNat - 1) * 1) (.slice a7 m7 c7)=svs (vs.set (x.1.site.toNat - 1) ⟨a7,m7,c7⟩) from svs_set vs _ ⟨a7,m7,c7⟩]
                  refine WL.nil<|PO.blockN<|PO.next<|WP.reg<|WL.e e_move<|WL.e (e_add (c:=((i+1:Nat):Int)) rfl rfl (by rw [w_i64 (by omega) (by omega)];omega))<|WL.e e_assign<|WL.nil ?_
                  rw [htk2] at hL4
                  have hle:(leftD (atM M x.2.site) x.2)=markR (runM (atM M x.2.site) x.2.ops).2 x.1.g:=by unfold leftD;rw [hd.g,if_neg h10]
                  rw [← hle] at hL4
                  exact PO.againK (i+1,vs.set (x.1.site.toNat - 1) ⟨a7,m7,c7⟩,M.set (x.2.site.toNat - 1) (leftD (atM M x.2.site) x.2),B4) ⟨by simp only;omega,hst,hM2,by simp only;rw [← hse];exact (h3.ge (hG2.trans (hG3.trans hG4))).set _ hL4,(hG.trans hG2).trans (hG3.trans hG4)⟩ (by simp only;omega)
              · replace h10:x.1.g=0:=by simpa using h10
                refine WP.skip<|PO.next<|WP.reg<|WL.e (e_fa f39_1)<|WL.e (e_load a5)<|WL.e (e_sub (c:=((x.1.site.toNat - 1:Nat):Int)) rfl rfl (by simp [IntKind.wrap,IntKind.bits,IntKind.signed];omega))<|WL.e e_move<|WL.e (e_iaA (j:=(x.1.site.toNat - 1)) ar25 hj) ?_
                refine WL.h' (h_store1 (o:=0+(x.1.site.toNat - 1) * 1) (l:=svs vs) (v:=s2.v) s24 (by rw [svs_len,h3.1,hM.len];omega) rfl ?_)
                rw [show (svs vs).set (0+(x.1.site.toNat - 1) * 1) (s2.v)=svs (vs.set (x.1.site.toNat - 1) ⟨s2.a,s2.n,s2.c⟩) from svs_set vs _ ⟨s2.a,s2.n,s2.c⟩]
                refine WL.nil<|PO.blockN<|PO.next<|WP.reg<|WL.e e_move<|WL.e (e_add (c:=((i+1:Nat):Int)) rfl rfl (by rw [w_i64 (by omega) (by omega)];omega))<|WL.e e_assign<|WL.nil ?_
                have hle:(leftD (atM M x.2.site) x.2)=(runM (atM M x.2.site) x.2.ops).2:=by unfold leftD;rw [hd.g,if_pos h10]
                rw [← hle] at hL2
                exact PO.againK (i+1,vs.set (x.1.site.toNat - 1) s2,M.set (x.2.site.toNat - 1) (leftD (atM M x.2.site) x.2),B2) ⟨by simp only;omega,hst,hM2,by simp only;rw [← hse];exact (h3.ge hG2).set _ hL2,hG.trans hG2⟩ (by simp only;omega)
      · rw [List.take_of_length_le (show order.length≤i by rw [decide_eq_false_iff_not] at h7;omega)] at hf
        refine WP.exit<|PO.past nofun<|PO.round nofun<|PO.blockX<|PO.next<|WP.seq<|WP.seq<|WP.reg<|WL.e e_assign<|WL.next<|WP.block<|WP.loopK (fun (i2:Nat)=>[(18,.int .i64 i2)]) (fun (i2:Nat)=>cl b2 25 (svs vs)::cl b1 25 [r0.v,r1.v,r2.v]::B::R) [(5,_),(9,_)] (fun (i2:Nat)=>i2≤3∧M.take i2=rows.take i2) (fun (i2:Nat)=>3 - i2) 0 (⟨Nat.zero_le _,rfl⟩) ?_
        rintro i2 ⟨hi2,he⟩
        refine WP.seq<|WP.seq<|WP.reg<|WL.e e_move<|WL.e e_lss<|WL.next ?_
        refine WP.cond rfl (fun h11=>?_) (fun h11=>?_)
        · replace h11:i2 < 3:=by rw [decide_eq_true_eq] at h11;omega
          have hMl:=hM.len
          obtain ⟨l1,hl1⟩:∃ l,M[i2]?=some l:=⟨_,List.getElem?_eq_getElem (by omega)⟩
          obtain ⟨l2,hl2⟩:∃ l,rows[i2]?=some l:=⟨_,List.getElem?_eq_getElem (by omega)⟩
          obtain ⟨v1,hv1,hw1⟩:=h3.get hl1
          obtain ⟨v2,hv2,hw2⟩:=hR.get hl2
          have hb1:=(hM.ok l1 (List.mem_of_getElem? hl1)).2.2
          refine WP.skip<|PO.next<|WP.seq<|WP.block<|WP.seq<|WP.draws mixedOk 8<|RW.e 0 rfl e_move<|RW.e 1 rfl (e_iaA (j:=i2) ar25 h11)<|RW.e 2 rfl (e_load (l:=svs vs) a24 (hv:=svs_get hv1))<|RW.e 3 rfl e_move<|RW.e 4 rfl (e_iaA (j:=i2) ar25 h11)<|RW.e 5 rfl (e_load (l:=[r0.v,r1.v,r2.v]) a24 (hv:=svs_get (vs:=[r0,r1,r2]) hv2)) ?_
          refine RW.any (is:=[6]) rfl ⟨?_,trivial⟩
          refine RWat.h rfl rfl rfl ?_
          refine (h_call (rSameRows_spec hw1 (hw2.ge hG) (by omega)) k28 ?_)
          refine ⟨trivial,?_⟩
          refine RW.e 7 rfl e_not<|RW.done<|PO.next ?_
          refine WP.cond rfl (fun h12=>?_) (fun h12=>?_)
          · replace h12:l1≠l2:=by simpa using h12
            refine WP.seq<|WP.reg<|WL.e e_assign<|WL.next<|WP.ret<|PO.blockR<|PO.past nofun<|PO.round nofun<|PO.blockR<|PO.past nofun<|PO.backP hG ?_
            exact PO.finE Tryz.results11 (rv_tmp rv_nil) (by rw [ser_rows hok h6 hf,decide_eq_false (ne_at hl1 hl2 h12)];rfl) hK
          · replace h12:l1=l2:=by simpa using h12
            refine WP.skip<|PO.blockN<|PO.next<|WP.reg<|WL.e e_move<|WL.e (e_add (c:=((i2+1:Nat):Int)) rfl rfl (by rw [w_i64 (by omega) (by omega)];omega))<|WL.e e_assign<|WL.nil ?_
            exact PO.againK (i2+1) ⟨by omega,eq_step he hl1 hl2 h12⟩ (by omega)
        · have hMl:=hM.len
          rw [decide_eq_false_iff_not] at h11
          replace he:M=rows:=by rwa [List.take_of_length_le (by omega),List.take_of_length_le (by omega)] at he
          refine WP.exit<|PO.past nofun<|PO.round nofun<|PO.blockX<|PO.next<|WP.seq<|WP.reg<|WL.e e_assign<|WL.next<|WP.ret<|PO.backP hG ?_
          exact PO.finE Tryz.results11 (rv_tmp rv_nil) (by rw [ser_rows hok h6 hf,decide_eq_true he];rfl) hK
end Go.SL
namespace Go.SL.Fc
open Go Go.Proofs Go.SL
theorem k243:callable Tryz.prog 243=true:=by kernel_rfl
theorem k288:callable Tryz.prog 288=true:=by kernel_rfl
theorem k289:callable Tryz.prog 289=true:=by kernel_rfl
theorem k290:callable Tryz.prog 290=true:=by kernel_rfl
theorem k325:callable Tryz.prog 325=true:=by kernel_rfl
theorem k82:callable Tryz.prog 82=true:=by kernel_rfl
theorem sl33:slOf Tryz.prog 33=some (35,1,4):=by kernel_rfl
end Go.SL.Fc
namespace Go.SL
open Go Go.Proofs Fc
open Go.Sort
theorem isNaN32_spec {g:World} (x:UInt32):Spec Tryz.prog g 82 [.int .u32 x.toNat] [] fun K R=>K (.bool false) R:=by
 refine Spec.intro Tryz.func82 rfl Tryz.ntmps82 rfl fun R K hK=>?_
 refine WP.seq<|WP.reg<|WL.e e_assign<|WL.next<|WP.seq<|WP.reg<|WL.e e_move<|WL.e e_move<|WL.e (e_neq32)<|WL.e e_assign<|WL.next<|WP.ret ?_
 exact PO.finE Tryz.results82 (rv_tmp rv_nil) (by simp) hK
theorem Less32_spec {g:World} (x y:UInt32):Spec Tryz.prog g 243 [.int .u32 x.toNat,.int .u32 y.toNat] [] fun K R=>K (.bool (lt32 x y)) R:=by
 refine Spec.intro Tryz.func243 rfl Tryz.ntmps243 rfl fun R K hK=>?_
 refine WP.seq<|WP.reg<|WL.e e_assign<|WL.next<|WP.seq<|WP.reg<|WL.e e_move ?_
 refine WL.h (h_call (isNaN32_spec _) k82 ?_)
 refine WL.e e_move ?_
 refine WL.bool 7 rfl (fun h=>?_) (fun h=>?_)
 ·cases h 
 ·skip
  refine WL.skip<|WL.skip<|WL.skip<|WL.e e_pick_f<|WL.e e_move<|WL.e e_move<|WL.e e_move<|WL.e (e_lss32)<|WL.e e_pick_f<|WL.e e_assign<|WL.next<|WP.ret ?_
  exact PO.fin Tryz.results243 (rv_tmp rv_nil) hK
theorem Ins32_spec {g:World} {u:Value} (d:Array UInt32) (a b:Nat) (hb:b≤d.size) (ha:a≤d.size) (hn:d.size≤68719476736):Spec Tryz.prog g 237 [u,.int .i64 a,.int .i64 b] [Sl 35 1 u32C u (d).toList] fun K R=>K (.tuple #[]) (Sl 35 1 u32C u (insertionSort lt32 d a b).toList::R):=by
 refine Spec.intro Tryz.func237 rfl Tryz.ntmps237 rfl fun R K hK=>?_
 refine WP.seq<|WP.reg<|WL.e e_move<|WL.e (e_addN (b:=1))<|WL.e e_assign<|WL.next<|WP.block<|WP.loopK (fun (x:Nat × Array UInt32)=>[(6,.int .i64 x.1)]) (fun (x:Nat × Array UInt32)=>Sl 35 1 u32C u (x.2).toList::R) [(0,_),(1,_),(2,_)] (fun (x:Nat × Array UInt32)=>x.2.size=d.size∧a < x.1∧(x.1≤a+1∨x.1≤b)∧insOuter lt32 a b x.1 x.2=insertionSort lt32 d a b) (fun (x:Nat × Array UInt32)=>b - x.1) (a+1,d) (⟨rfl,by simp only;omega,by simp only;omega,rfl⟩) ?_
 rintro ⟨i,d1⟩ ⟨hs,hi1,hi2,he⟩
 simp only at hs hi1 hi2 he
 dsimp only
 refine WP.seq<|WP.seq<|WP.reg<|WL.e e_move<|WL.e e_move<|WL.e e_lss<|WL.next ?_
 refine WP.cond rfl (fun h1=>?_) (fun h1=>?_)
 ·replace h1:i < b:=by rw [decide_eq_true_eq] at h1;omega
  refine WP.skip<|PO.next<|WP.seq<|WP.block<|WP.seq<|WP.reg<|WL.e e_move<|WL.e e_assign<|WL.next<|WP.block<|WP.loopK (fun (x:Nat × Array UInt32)=>[(7,.int .i64 x.1)]) (fun (x:Nat × Array UInt32)=>Sl 35 1 u32C u (x.2).toList::R) [(0,_),(1,_),(2,_),(6,_),(10,_),(11,_),(12,_),(15,_)] (fun (x:Nat × Array UInt32)=>x.2.size=d.size∧a≤x.1∧x.1≤i∧insInner lt32 a x.1 x.2=insInner lt32 a i d1) (fun (x:Nat × Array UInt32)=>x.1) (i,d1) (⟨hs,by simp only;omega,Nat.le_refl _,rfl⟩) ?_
  rintro ⟨j,d2⟩ ⟨hs2,hj1,hj2,he2⟩
  simp only at hs2 hj1 hj2 he2
  dsimp only
  refine WP.seq<|WP.seq<|WP.draws mixedOk 15<|RW.e 0 rfl e_move<|RW.e 1 rfl e_move<|RW.e 2 rfl e_gtr<|RW.e 3 rfl e_move ?_
  refine RW.bool 19 rfl (fun g=>?_) (fun g=>?_)
  ·have hgj:a < j:=by rw [decide_eq_true_eq] at g;omega
   refine RW.e 4 rfl e_move<|RW.e 5 rfl e_move<|RW.e 6 rfl (ea_ia sl33)<|RW.e 7 rfl (ea_load a35)<|RW.e 8 rfl e_move<|RW.e 9 rfl e_move<|RW.e 10 rfl (e_subN (b:=1))<|RW.e 11 rfl (ea_ia sl33)<|RW.e 12 rfl (ea_load a35) ?_
   refine RW.any (is:=[13]) rfl ⟨?_,trivial⟩
   refine RWat.h rfl rfl rfl ?_
   refine (h_call (Less32_spec _ _) k243 ?_)
   refine ⟨trivial,?_⟩
   refine RW.e 14 rfl e_pick_t<|RW.done<|PO.next ?_
   refine WP.cond rfl (fun h3=>?_) (fun h3=>?_)
   ·skip
    refine WP.skip<|PO.next<|WP.seq<|WP.block<|WP.draws mixedOk 18<|RW.e 0 rfl e_move<|RW.e 1 rfl e_move<|RW.e 2 rfl e_move<|RW.e 3 rfl e_move<|RW.e 4 rfl (e_subN (b:=1))<|RW.e 5 rfl e_move<|RW.e 6 rfl e_move<|RW.e 7 rfl (e_subN (b:=1))<|RW.e 8 rfl (ea_ia sl33)<|RW.e 9 rfl (ea_load a35)<|RW.e 10 rfl e_move<|RW.e 11 rfl e_move<|RW.e 12 rfl (ea_ia sl33)<|RW.e 13 rfl (ea_load a35)<|RW.e 14 rfl (ea_ia sl33) ?_
    refine RW.any (is:=[15]) rfl ⟨?_,trivial⟩
    refine RWat.h' rfl rfl rfl ?_
    refine (ha_store s35 ?_)
    refine ⟨⟨⟨_,rfl,.inl ⟨rfl,(e_subN (b:=1))⟩⟩,⟨_,rfl,.inl ⟨rfl,e_move⟩⟩,⟨_,rfl,.inl ⟨rfl,e_move⟩⟩,trivial⟩,?_⟩
    refine RW.e 16 rfl (ea_ia sl33) ?_
    refine RW.any (is:=[17]) rfl ⟨?_,trivial⟩
    refine RWat.h' rfl rfl rfl ?_
    refine (ha_store s35 ?_)
    refine ⟨trivial,?_⟩
    refine RW.done<|PO.blockN<|PO.next<|WP.reg<|WL.e e_move<|WL.e (e_subN (b:=1))<|WL.e e_assign<|WL.nil ?_
    exact PO.againK (j - 1,swp d2 j (j - 1)) ⟨by simp only [swp_size];omega,by simp only;omega,by simp only;omega,by simp only;rw [← he2,ins_step hgj h3]⟩ (by simp only;omega)
   ·skip
    refine WP.exit<|PO.past nofun<|PO.round nofun<|PO.blockX<|PO.blockN<|PO.next<|WP.reg<|WL.e e_move<|WL.e (e_addN (b:=1))<|WL.e e_assign<|WL.nil ?_
    exact PO.againK (i+1,d2) ⟨by simp only;omega,by simp only;omega,by simp only;omega,by simp only;rw [← he,insO_step h1,← he2,ins_stop (fun _=>h3)]⟩ (by simp only;omega)
  ·have hgj:¬ a < j:=by rw [decide_eq_false_iff_not] at g;omega
   refine RW.skip 4 rfl<|RW.skip 5 rfl<|RW.skip 6 rfl<|RW.skip 7 rfl<|RW.skip 8 rfl<|RW.skip 9 rfl<|RW.skip 10 rfl<|RW.skip 11 rfl<|RW.skip 12 rfl<|RW.skip 13 rfl<|RW.e 14 rfl e_pick_f<|RW.done<|PO.next<|WP.cond_f rfl<|WP.exit<|PO.past nofun<|PO.round nofun<|PO.blockX<|PO.blockN<|PO.next<|WP.reg<|WL.e e_move<|WL.e (e_addN (b:=1))<|WL.e e_assign ?_
   refine WL.nil ?_
   exact PO.againK (i+1,d2) ⟨by simp only;omega,by simp only;omega,by simp only;omega,by simp only;rw [← he,insO_step h1,← he2,ins_stop (fun hh=>absurd hh (by omega))]⟩ (by simp only;omega)
 ·replace h1:¬ i < b:=by rw [decide_eq_false_iff_not] at h1;omega
  refine WP.exit<|PO.past nofun<|PO.round nofun<|PO.blockX ?_
  rw [insO_stop h1] at he
  rw [← he] at hK
  exact PO.fin Tryz.results237 rv_nil hK
set_option maxHeartbeats 1000000 in
theorem Sift32_spec {g:World} {u:Value} (d:Array UInt32) (root hi fs:Nat) (hb:fs+hi≤d.size) (hr:root≤d.size) (hn:d.size≤68719476736):Spec Tryz.prog g 288 [u,.int .i64 root,.int .i64 hi,.int .i64 fs] [Sl 35 1 u32C u (d).toList] fun K R=>K (.tuple #[]) (Sl 35 1 u32C u (siftDown lt32 hi fs root d).toList::R):=by
 refine Spec.intro Tryz.func288 rfl Tryz.ntmps288 rfl fun R K hK=>?_
 refine WP.seq<|WP.reg<|WL.e e_move<|WL.e e_assign<|WL.next<|WP.block<|WP.loopK (fun (x:Nat × Array UInt32)=>[(8,.int .i64 x.1)]) (fun (x:Nat × Array UInt32)=>Sl 35 1 u32C u (x.2).toList::R) [(0,_),(2,_),(3,_)] (fun (x:Nat × Array UInt32)=>x.2.size=d.size∧x.1≤d.size∧siftDown lt32 hi fs x.1 x.2=siftDown lt32 hi fs root d) (fun (x:Nat × Array UInt32)=>hi - x.1) (root,d) (⟨rfl,hr,rfl⟩) ?_
 rintro ⟨rt,d1⟩ ⟨hs,hr1,he⟩
 simp only at hs hr1 he
 dsimp only
 refine WP.block<|WP.seq<|WP.reg<|WL.e e_move<|WL.e (e_mulN (a:=2))<|WL.e (e_addN (b:=1))<|WL.e e_assign<|WL.next<|WP.seq<|WP.seq<|WP.reg<|WL.e e_move<|WL.e e_move<|WL.e e_geq<|WL.next ?_
 refine WP.cond rfl (fun h1=>?_) (fun h1=>?_)
 ·replace h1:2 * rt+1≥hi:=by rw [decide_eq_true_eq] at h1;omega
  refine WP.exit<|PO.past nofun<|PO.blockY rfl<|PO.round nofun<|PO.blockX ?_
  rw [sd_stop h1] at he
  rw [← he] at hK
  exact PO.fin Tryz.results288 rv_nil hK
 ·replace h1:¬ (2 * rt+1≥hi):=by rw [decide_eq_false_iff_not] at h1;omega
  refine WP.skip<|PO.next<|WP.seq<|WP.seq<|WP.draws mixedOk 20<|RW.e 0 rfl e_move<|RW.e 1 rfl (e_addN (b:=1))<|RW.e 2 rfl e_move<|RW.e 3 rfl e_lss<|RW.e 4 rfl e_move ?_
  refine RW.bool 21 rfl (fun g=>?_) (fun g=>?_)
  ·replace g:2 * rt+1+1 < hi:=by rw [decide_eq_true_eq] at g;omega
   refine RW.e 5 rfl e_move<|RW.e 6 rfl e_move<|RW.e 7 rfl e_move<|RW.e 8 rfl (e_addN)<|RW.e 9 rfl (ea_ia sl33)<|RW.e 10 rfl (ea_load a35)<|RW.e 11 rfl e_move<|RW.e 12 rfl e_move<|RW.e 13 rfl e_move<|RW.e 14 rfl (e_addN)<|RW.e 15 rfl (e_addN (b:=1))<|RW.e 16 rfl (ea_ia sl33)<|RW.e 17 rfl (ea_load a35) ?_
   refine RW.any (is:=[18]) rfl ⟨?_,trivial⟩
   refine RWat.h rfl rfl rfl ?_
   refine (h_call (Less32_spec _ _) k243 ?_)
   refine ⟨trivial,?_⟩
   refine RW.e 19 rfl e_pick_t<|RW.done<|PO.next ?_
   refine WP.cond rfl (fun h3=>?_) (fun h3=>?_)
   ·have hst:=sd_r h1 g h3
    refine WP.reg<|WL.e e_move<|WL.e (e_addN (b:=1))<|WL.e e_assign<|WL.next<|WP.seq<|WP.seq<|WP.draws mixedOk 14<|RW.e 0 rfl e_move<|RW.e 1 rfl e_move<|RW.e 2 rfl e_move<|RW.e 3 rfl (e_addN)<|RW.e 4 rfl (ea_ia sl33)<|RW.e 5 rfl (ea_load a35)<|RW.e 6 rfl e_move<|RW.e 7 rfl e_move<|RW.e 8 rfl e_move<|RW.e 9 rfl (e_addN)<|RW.e 10 rfl (ea_ia sl33)<|RW.e 11 rfl (ea_load a35) ?_
    refine RW.any (is:=[12]) rfl ⟨?_,trivial⟩
    refine RWat.h rfl rfl rfl ?_
    refine (h_call (Less32_spec _ _) k243 ?_)
    refine ⟨trivial,?_⟩
    refine RW.e 13 rfl e_not<|RW.done<|PO.next ?_
    refine WP.cond rfl (fun h4=>?_) (fun h4=>?_)
    ·replace h4:=nt h4
     refine WP.ret<|PO.past nofun<|PO.blockR<|PO.round nofun<|PO.blockR ?_
     rw [show siftDown lt32 hi fs root d=d1 by rw [← he,hst,if_neg (by rw [h4];simp)]] at hK
     exact PO.fin Tryz.results288 rv_nil hK
    ·replace h4:=nf h4
     refine WP.skip<|PO.next<|WP.seq<|WP.draws mixedOk 24<|RW.e 0 rfl e_move<|RW.e 1 rfl e_move<|RW.e 2 rfl e_move<|RW.e 3 rfl (e_addN)<|RW.e 4 rfl e_move<|RW.e 5 rfl e_move<|RW.e 6 rfl e_move<|RW.e 7 rfl (e_addN)<|RW.e 8 rfl e_move<|RW.e 9 rfl e_move<|RW.e 10 rfl e_move<|RW.e 11 rfl (e_addN)<|RW.e 12 rfl (ea_ia sl33)<|RW.e 13 rfl (ea_load a35)<|RW.e 14 rfl e_move<|RW.e 15 rfl e_move<|RW.e 16 rfl e_move<|RW.e 17 rfl (e_addN)<|RW.e 18 rfl (ea_ia sl33)<|RW.e 19 rfl (ea_load a35) ?_
     refine RW.e 20 rfl (ea_ia sl33) ?_
     refine RW.any (is:=[21]) rfl ⟨?_,trivial⟩
     refine RWat.h' rfl rfl rfl ?_
     refine (ha_store s35 ?_)
     refine ⟨⟨⟨_,rfl,.inl ⟨rfl,(e_addN)⟩⟩,⟨_,rfl,.inl ⟨rfl,e_move⟩⟩,⟨_,rfl,.inl ⟨rfl,e_move⟩⟩,⟨_,rfl,.inl ⟨rfl,e_move⟩⟩,trivial⟩,?_⟩
     refine RW.e 22 rfl (ea_ia sl33) ?_
     refine RW.any (is:=[23]) rfl ⟨?_,trivial⟩
     refine RWat.h' rfl rfl rfl ?_
     refine (ha_store s35 ?_)
     refine ⟨trivial,?_⟩
     refine RW.done<|PO.next<|WP.reg<|WL.e e_move<|WL.e e_assign<|WL.nil<|PO.blockN ?_
     exact PO.againK ((2 * rt+1+1),swp d1 (fs+rt) (fs+(2 * rt+1+1))) ⟨by simp only [swp_size];omega,by simp only;omega,by simp only;rw [← he,hst,if_pos h4]⟩ (by simp only;omega)
   ·have hst:=sd_l h1 (fun _=>h3)
    refine WP.skip<|PO.next<|WP.seq<|WP.seq<|WP.draws mixedOk 14<|RW.e 0 rfl e_move<|RW.e 1 rfl e_move<|RW.e 2 rfl e_move<|RW.e 3 rfl (e_addN)<|RW.e 4 rfl (ea_ia sl33)<|RW.e 5 rfl (ea_load a35)<|RW.e 6 rfl e_move<|RW.e 7 rfl e_move<|RW.e 8 rfl e_move<|RW.e 9 rfl (e_addN)<|RW.e 10 rfl (ea_ia sl33)<|RW.e 11 rfl (ea_load a35) ?_
    refine RW.any (is:=[12]) rfl ⟨?_,trivial⟩
    refine RWat.h rfl rfl rfl ?_
    refine (h_call (Less32_spec _ _) k243 ?_)
    refine ⟨trivial,?_⟩
    refine RW.e 13 rfl e_not<|RW.done<|PO.next ?_
    refine WP.cond rfl (fun h4=>?_) (fun h4=>?_)
    ·replace h4:=nt h4
     refine WP.ret<|PO.past nofun<|PO.blockR<|PO.round nofun<|PO.blockR ?_
     rw [show siftDown lt32 hi fs root d=d1 by rw [← he,hst,if_neg (by rw [h4];simp)]] at hK
     exact PO.fin Tryz.results288 rv_nil hK
    ·replace h4:=nf h4
     refine WP.skip<|PO.next<|WP.seq<|WP.draws mixedOk 24<|RW.e 0 rfl e_move<|RW.e 1 rfl e_move<|RW.e 2 rfl e_move<|RW.e 3 rfl (e_addN)<|RW.e 4 rfl e_move<|RW.e 5 rfl e_move<|RW.e 6 rfl e_move<|RW.e 7 rfl (e_addN)<|RW.e 8 rfl e_move<|RW.e 9 rfl e_move<|RW.e 10 rfl e_move<|RW.e 11 rfl (e_addN)<|RW.e 12 rfl (ea_ia sl33)<|RW.e 13 rfl (ea_load a35)<|RW.e 14 rfl e_move<|RW.e 15 rfl e_move<|RW.e 16 rfl e_move<|RW.e 17 rfl (e_addN)<|RW.e 18 rfl (ea_ia sl33)<|RW.e 19 rfl (ea_load a35) ?_
     refine RW.e 20 rfl (ea_ia sl33) ?_
     refine RW.any (is:=[21]) rfl ⟨?_,trivial⟩
     refine RWat.h' rfl rfl rfl ?_
     refine (ha_store s35 ?_)
     refine ⟨⟨⟨_,rfl,.inl ⟨rfl,(e_addN)⟩⟩,⟨_,rfl,.inl ⟨rfl,e_move⟩⟩,⟨_,rfl,.inl ⟨rfl,e_move⟩⟩,⟨_,rfl,.inl ⟨rfl,e_move⟩⟩,trivial⟩,?_⟩
     refine RW.e 22 rfl (ea_ia sl33) ?_
     refine RW.any (is:=[23]) rfl ⟨?_,trivial⟩
     refine RWat.h' rfl rfl rfl ?_
     refine (ha_store s35 ?_)
     refine ⟨trivial,?_⟩
     refine RW.done<|PO.next<|WP.reg<|WL.e e_move<|WL.e e_assign<|WL.nil<|PO.blockN ?_
     exact PO.againK ((2 * rt+1),swp d1 (fs+rt) (fs+(2 * rt+1))) ⟨by simp only [swp_size];omega,by simp only;omega,by simp only;rw [← he,hst,if_pos h4]⟩ (by simp only;omega)
  ·replace g:¬ (2 * rt+1+1 < hi):=by rw [decide_eq_false_iff_not] at g;omega
   refine RW.skip 5 rfl<|RW.skip 6 rfl<|RW.skip 7 rfl<|RW.skip 8 rfl<|RW.skip 9 rfl<|RW.skip 10 rfl<|RW.skip 11 rfl<|RW.skip 12 rfl<|RW.skip 13 rfl<|RW.skip 14 rfl<|RW.skip 15 rfl<|RW.skip 16 rfl<|RW.skip 17 rfl<|RW.skip 18 rfl<|RW.e 19 rfl e_pick_f<|RW.done<|PO.next<|WP.cond_f rfl<|WP.skip<|PO.next<|WP.seq<|WP.seq<|WP.draws mixedOk 14<|RW.e 0 rfl e_move ?_
   refine RW.e 1 rfl e_move<|RW.e 2 rfl e_move<|RW.e 3 rfl (e_addN)<|RW.e 4 rfl (ea_ia sl33)<|RW.e 5 rfl (ea_load a35)<|RW.e 6 rfl e_move<|RW.e 7 rfl e_move<|RW.e 8 rfl e_move<|RW.e 9 rfl (e_addN)<|RW.e 10 rfl (ea_ia sl33)<|RW.e 11 rfl (ea_load a35) ?_
   refine RW.any (is:=[12]) rfl ⟨?_,trivial⟩
   refine RWat.h rfl rfl rfl ?_
   refine (h_call (Less32_spec _ _) k243 ?_)
   refine ⟨trivial,?_⟩
   refine RW.e 13 rfl e_not<|RW.done<|PO.next ?_
   refine WP.cond rfl (fun h4=>?_) (fun h4=>?_)
   ·have hst:=sd_l (d:=d1) (first:=fs) h1 (fun h=>absurd h g)
    replace h4:=nt h4
    refine WP.ret<|PO.past nofun<|PO.blockR<|PO.round nofun<|PO.blockR ?_
    rw [show siftDown lt32 hi fs root d=d1 by rw [← he,hst,if_neg (by rw [h4];simp)]] at hK
    exact PO.fin Tryz.results288 rv_nil hK
   ·have hst:=sd_l (d:=d1) (first:=fs) h1 (fun h=>absurd h g)
    replace h4:=nf h4
    refine WP.skip<|PO.next<|WP.seq<|WP.draws mixedOk 24<|RW.e 0 rfl e_move<|RW.e 1 rfl e_move<|RW.e 2 rfl e_move<|RW.e 3 rfl (e_addN)<|RW.e 4 rfl e_move<|RW.e 5 rfl e_move<|RW.e 6 rfl e_move<|RW.e 7 rfl (e_addN)<|RW.e 8 rfl e_move<|RW.e 9 rfl e_move<|RW.e 10 rfl e_move<|RW.e 11 rfl (e_addN)<|RW.e 12 rfl (ea_ia sl33)<|RW.e 13 rfl (ea_load a35)<|RW.e 14 rfl e_move<|RW.e 15 rfl e_move<|RW.e 16 rfl e_move<|RW.e 17 rfl (e_addN)<|RW.e 18 rfl (ea_ia sl33)<|RW.e 19 rfl (ea_load a35) ?_
    refine RW.e 20 rfl (ea_ia sl33) ?_
    refine RW.any (is:=[21]) rfl ⟨?_,trivial⟩
    refine RWat.h' rfl rfl rfl ?_
    refine (ha_store s35 ?_)
    refine ⟨⟨⟨_,rfl,.inl ⟨rfl,(e_addN)⟩⟩,⟨_,rfl,.inl ⟨rfl,e_move⟩⟩,⟨_,rfl,.inl ⟨rfl,e_move⟩⟩,⟨_,rfl,.inl ⟨rfl,e_move⟩⟩,trivial⟩,?_⟩
    refine RW.e 22 rfl (ea_ia sl33) ?_
    refine RW.any (is:=[23]) rfl ⟨?_,trivial⟩
    refine RWat.h' rfl rfl rfl ?_
    refine (ha_store s35 ?_)
    refine ⟨trivial,?_⟩
    refine RW.done<|PO.next<|WP.reg<|WL.e e_move<|WL.e e_assign<|WL.nil<|PO.blockN ?_
    exact PO.againK ((2 * rt+1),swp d1 (fs+rt) (fs+(2 * rt+1))) ⟨by simp only [swp_size];omega,by simp only;omega,by simp only;rw [← he,hst,if_pos h4]⟩ (by simp only;omega)
set_option maxHeartbeats 1000000 in
theorem Heap32_spec {g:World} {u:Value} (d:Array UInt32) (a b:Nat) (hab:a < b) (hb:b≤d.size) (hn:d.size≤68719476736):Spec Tryz.prog g 238 [u,.int .i64 a,.int .i64 b] [Sl 35 1 u32C u (d).toList] fun K R=>K (.tuple #[]) (Sl 35 1 u32C u (heapSort lt32 d a b).toList::R):=by
 refine Spec.intro Tryz.func238 rfl Tryz.ntmps238 rfl fun R K hK=>?_
 refine WP.seq<|WP.reg<|WL.e e_move<|WL.e e_assign<|WL.next<|WP.seq<|WP.reg<|WL.e e_assign<|WL.next<|WP.seq<|WP.reg<|WL.e e_move<|WL.e e_move<|WL.e (e_subN)<|WL.e e_assign<|WL.next<|WP.seq<|WP.seq<|WP.reg<|WL.e e_move<|WL.e (e_subN (b:=1))<|WL.e (e_quo (c:=(((b - a - 1) / 2+1:Nat):Int) - 1) rfl rfl (by decide) (by rw [Int.tdiv_eq_ediv_of_nonneg (by omega),w_i64 (by omega) (by omega)];omega))<|WL.e e_assign<|WL.next ?_
 refine WP.block<|WP.loopK (fun (x:Nat × Array UInt32)=>[(9,.int .i64 ((x.1:Int) - 1))]) (fun (x:Nat × Array UInt32)=>Sl 35 1 u32C u (x.2).toList::R) [(0,_),(6,_),(7,_),(8,_)] (fun (x:Nat × Array UInt32)=>x.2.size=d.size∧x.1≤(b - a - 1) / 2+1∧heapBuild lt32 (b - a) a x.1 x.2=heapBuild lt32 (b - a) a ((b - a - 1) / 2+1) d) (fun (x:Nat × Array UInt32)=>x.1) ((b - a - 1) / 2+1,d) (⟨rfl,Nat.le_refl _,rfl⟩) ?_
 rintro ⟨k,d1⟩ ⟨hs,hk,he⟩
 simp only at hs hk he
 dsimp only
 refine WP.seq<|WP.seq<|WP.reg<|WL.e e_move<|WL.e e_geq<|WL.next ?_
 refine WP.cond rfl (fun h1=>?_) (fun h1=>?_)
 ·replace h1:0 < k:=by rw [decide_eq_true_eq] at h1;omega
  rw [show ((k:Int) - 1)=((k - 1:Nat):Int) by omega]
  refine WP.skip<|PO.next<|WP.seq<|WP.block<|WP.reg<|WL.e e_move<|WL.e e_move<|WL.e e_move<|WL.e e_move ?_
  refine WL.h (h_call (Sift32_spec d1 (k - 1) (b - a) a (by omega) (by omega) (by omega)) k288 ?_)
  refine WL.nil<|PO.blockN<|PO.next<|WP.reg<|WL.e e_move<|WL.e (e_sub (c:=((k - 1:Nat):Int) - 1) rfl rfl (w_i64 (by omega) (by omega)))<|WL.e e_assign<|WL.nil ?_
  exact PO.againK (k - 1,siftDown lt32 (b - a) a (k - 1) d1) ⟨by simp only [sdn_size];omega,by simp only;omega,by simp only;rw [← he];obtain ⟨m,rfl⟩:∃ m,k=m+1:=⟨k - 1,by omega⟩;rw [Nat.add_sub_cancel,heapBuild]⟩ (by simp only;omega)
 ·replace h1:k=0:=by rw [decide_eq_false_iff_not] at h1;omega
  subst h1
  obtain ⟨d0,hd0⟩:∃ d0,d0=heapBuild lt32 (b - a) a ((b - a - 1) / 2+1) d:=⟨_,rfl⟩
  rw [← hd0,heapBuild] at he
  subst he
  refine WP.exit<|PO.past nofun<|PO.round nofun<|PO.blockX<|PO.next<|WP.seq<|WP.reg<|WL.e e_move<|WL.e (e_sub (c:=((b - a:Nat):Int) - 1) rfl rfl (w_i64 (by omega) (by omega)))<|WL.e e_assign<|WL.next<|WP.block<|WP.loopK (fun (x:Nat × Array UInt32)=>[(10,.int .i64 ((x.1:Int) - 1))]) (fun (x:Nat × Array UInt32)=>Sl 35 1 u32C u (x.2).toList::R) [(0,_),(6,_),(7,_)] (fun (x:Nat × Array UInt32)=>x.2.size=d.size∧x.1≤b - a∧heapPop lt32 a x.1 x.2=heapPop lt32 a (b - a) d1) (fun (x:Nat × Array UInt32)=>x.1) (b - a,d1) (⟨hs,Nat.le_refl _,rfl⟩) ?_
  rintro ⟨k,d2⟩ ⟨hs2,hk2,he2⟩
  simp only at hs2 hk2 he2
  dsimp only
  refine WP.seq<|WP.seq<|WP.reg<|WL.e e_move<|WL.e e_geq<|WL.next ?_
  refine WP.cond rfl (fun h2=>?_) (fun h2=>?_)
  ·replace h2:0 < k:=by rw [decide_eq_true_eq] at h2;omega
   rw [show ((k:Int) - 1)=((k - 1:Nat):Int) by omega]
   refine WP.skip<|PO.next<|WP.seq<|WP.block<|WP.seq<|WP.draws mixedOk 20<|RW.e 0 rfl e_move<|RW.e 1 rfl e_move<|RW.e 2 rfl e_move<|RW.e 3 rfl e_move<|RW.e 4 rfl e_move<|RW.e 5 rfl (e_addN)<|RW.e 6 rfl e_move<|RW.e 7 rfl e_move<|RW.e 8 rfl e_move<|RW.e 9 rfl (e_addN)<|RW.e 10 rfl (ea_ia sl33)<|RW.e 11 rfl (ea_load a35)<|RW.e 12 rfl e_move<|RW.e 13 rfl e_move<|RW.e 14 rfl (ea_ia sl33)<|RW.e 15 rfl (ea_load a35)<|RW.e 16 rfl (ea_ia sl33) ?_
   refine RW.any (is:=[17]) rfl ⟨?_,trivial⟩
   refine RWat.h' rfl rfl rfl ?_
   refine (ha_store s35 ?_)
   refine ⟨⟨⟨_,rfl,.inl ⟨rfl,(e_addN)⟩⟩,⟨_,rfl,.inl ⟨rfl,e_move⟩⟩,⟨_,rfl,.inl ⟨rfl,e_move⟩⟩,⟨_,rfl,.inl ⟨rfl,e_move⟩⟩,trivial⟩,?_⟩
   refine RW.e 18 rfl (ea_ia sl33) ?_
   refine RW.any (is:=[19]) rfl ⟨?_,trivial⟩
   refine RWat.h' rfl rfl rfl ?_
   refine (ha_store s35 ?_)
   refine ⟨trivial,?_⟩
   refine RW.done<|PO.next<|WP.reg<|WL.e e_move<|WL.e e_move<|WL.e e_move<|WL.e e_move ?_
   refine WL.h (h_call (Sift32_spec (swp d2 a (a+(k - 1))) 0 (k - 1) a (by rw [swp_size];omega) (Nat.zero_le _) (by rw [swp_size];omega)) k288 ?_)
   refine WL.nil<|PO.blockN<|PO.next<|WP.reg<|WL.e e_move<|WL.e (e_sub (c:=((k - 1:Nat):Int) - 1) rfl rfl (w_i64 (by omega) (by omega)))<|WL.e e_assign<|WL.nil ?_
   exact PO.againK (k - 1,siftDown lt32 (k - 1) a 0 (swp d2 a (a+(k - 1)))) ⟨by simp only [sdn_size,swp_size];omega,by simp only;omega,by simp only;rw [← he2];obtain ⟨m,rfl⟩:∃ m,k=m+1:=⟨k - 1,by omega⟩;rw [Nat.add_sub_cancel,heapPop]⟩ (by simp only;omega)
  ·replace h2:k=0:=by rw [decide_eq_false_iff_not] at h2;omega
   subst h2
   rw [heapPop] at he2
   refine WP.exit<|PO.past nofun<|PO.round nofun<|PO.blockX ?_
   rw [show heapSort lt32 d a b=d2 by rw [he2,hd0];rfl] at hK
   exact PO.fin Tryz.results238 rv_nil hK
theorem Rev32_spec {g:World} {u:Value} (d:Array UInt32) (a b:Nat) (hab:a < b) (hb:b≤d.size) (hn:d.size≤68719476736):Spec Tryz.prog g 241 [u,.int .i64 a,.int .i64 b] [Sl 35 1 u32C u (d).toList] fun K R=>K (.tuple #[]) (Sl 35 1 u32C u (reverseRange d a b).toList::R):=by
 refine Spec.intro Tryz.func241 rfl Tryz.ntmps241 rfl fun R K hK=>?_
 refine WP.seq<|WP.reg<|WL.e e_move<|WL.e e_assign<|WL.next<|WP.seq<|WP.reg<|WL.e e_move<|WL.e (e_subN (b:=1))<|WL.e e_assign<|WL.next<|WP.block<|WP.loopK (fun (x:Nat × Nat × Array UInt32)=>[(6,.int .i64 x.1),(7,.int .i64 x.2.1)]) (fun (x:Nat × Nat × Array UInt32)=>Sl 35 1 u32C u (x.2.2).toList::R) [(0,_)] (fun (x:Nat × Nat × Array UInt32)=>x.2.2.size=d.size∧x.1≤b∧x.2.1 < b∧reverseLoop x.1 x.2.1 x.2.2=reverseLoop a (b - 1) d) (fun (x:Nat × Nat × Array UInt32)=>x.2.1+1 - x.1) (a,b - 1,d) (⟨rfl,by simp only;omega,by simp only;omega,rfl⟩) ?_
 rintro ⟨i,j,d1⟩ ⟨hs,hi,hj,he⟩
 simp only at hs hi hj he
 dsimp only
 refine WP.seq<|WP.seq<|WP.reg<|WL.e e_move<|WL.e e_move<|WL.e e_lss<|WL.next ?_
 refine WP.cond rfl (fun h1=>?_) (fun h1=>?_)
 ·replace h1:i < j:=by rw [decide_eq_true_eq] at h1;omega
  refine WP.skip<|PO.next<|WP.block<|WP.seq<|WP.draws mixedOk 16<|RW.e 0 rfl e_move<|RW.e 1 rfl e_move<|RW.e 2 rfl e_move<|RW.e 3 rfl e_move<|RW.e 4 rfl e_move<|RW.e 5 rfl e_move<|RW.e 6 rfl (ea_ia sl33)<|RW.e 7 rfl (ea_load a35)<|RW.e 8 rfl e_move<|RW.e 9 rfl e_move<|RW.e 10 rfl (ea_ia sl33)<|RW.e 11 rfl (ea_load a35)<|RW.e 12 rfl (ea_ia sl33) ?_
  refine RW.any (is:=[13]) rfl ⟨?_,trivial⟩
  refine RWat.h' rfl rfl rfl ?_
  refine (ha_store s35 ?_)
  refine ⟨⟨⟨_,rfl,.inl ⟨rfl,e_move⟩⟩,⟨_,rfl,.inl ⟨rfl,e_move⟩⟩,trivial⟩,?_⟩
  refine RW.e 14 rfl (ea_ia sl33) ?_
  refine RW.any (is:=[15]) rfl ⟨?_,trivial⟩
  refine RWat.h' rfl rfl rfl ?_
  refine (ha_store s35 ?_)
  refine ⟨trivial,?_⟩
  refine RW.done<|PO.next<|WP.seq<|WP.reg<|WL.e e_move<|WL.e (e_addN (b:=1))<|WL.e e_assign<|WL.next<|WP.reg<|WL.e e_move<|WL.e (e_subN (b:=1))<|WL.e e_assign<|WL.nil<|PO.blockN ?_
  exact PO.againK (i+1,j - 1,swp d1 i j) ⟨by simp only [swp_size];omega,by simp only;omega,by simp only;omega,by simp only;rw [← he,rev_step h1]⟩ (by simp only;omega)
 ·replace h1:¬ (i < j):=by rw [decide_eq_false_iff_not] at h1;omega
  refine WP.exit<|PO.past nofun<|PO.round nofun<|PO.blockX ?_
  rw [rev_stop h1] at he
  rw [show reverseRange d a b=d1 from he.symm] at hK
  exact PO.fin Tryz.results241 rv_nil hK
theorem Ord32_spec {g:World} {u:Value} {q:Nat} (d:Array UInt32) (a b sw:Nat) (ha:a < d.size) (hb:b < d.size) (hs:sw≤1000000):Spec Tryz.prog g 325 [u,.int .i64 a,.int .i64 b,.pointer (some ⟨q,0,none⟩)] [Sl 35 1 u32C u (d).toList,cl q 3 [.int .i64 ((sw:Nat):Int)]] fun K R=>K (.tuple #[.int .i64 ((order2 lt32 d a b sw).1:Nat),.int .i64 ((order2 lt32 d a b sw).2.1:Nat)]) (Sl 35 1 u32C u (d).toList::cl q 3 [.int .i64 (((order2 lt32 d a b sw).2.2:Nat):Int)]::R):=by
 refine Spec.intro Tryz.func325 rfl Tryz.ntmps325 rfl fun R K hK=>?_
 refine WP.seq<|WP.reg<|WL.e e_assign<|WL.e e_assign<|WL.next<|WP.seq<|WP.seq<|WP.draws mixedOk 9<|RW.e 0 rfl e_move<|RW.e 1 rfl e_move<|RW.e 2 rfl (ea_ia sl33)<|RW.e 3 rfl (ea_load a35)<|RW.e 4 rfl e_move<|RW.e 5 rfl e_move<|RW.e 6 rfl (ea_ia sl33)<|RW.e 7 rfl (ea_load a35) ?_
 refine RW.any (is:=[8]) rfl ⟨?_,trivial⟩
 refine RWat.h rfl rfl rfl ?_
 refine (h_call (Less32_spec _ _) k243 ?_)
 refine ⟨trivial,?_⟩
 refine RW.done<|PO.next ?_
 refine WP.cond rfl (fun h1=>?_) (fun h1=>?_)
 ·rw [ord_t h1] at hK
  refine WP.seq<|WP.reg<|WL.e e_move<|WL.e e_nil<|WL.e (e_load a3)<|WL.e (e_addN (b:=1))<|WL.e e_nil ?_
  refine WL.h' (h_store s3 ?_)
  refine WL.next<|WP.seq<|WP.reg<|WL.e e_move<|WL.e e_move<|WL.e e_assign<|WL.e e_assign<|WL.next<|WP.ret<|PO.past nofun ?_
  exact PO.fin Tryz.results325 (rv_tmp (rv_tmp rv_nil)) hK
 ·rw [ord_f h1] at hK
  refine WP.skip<|PO.next<|WP.seq<|WP.reg<|WL.e e_move<|WL.e e_move<|WL.e e_assign<|WL.e e_assign<|WL.next<|WP.ret ?_
  exact PO.fin Tryz.results325 (rv_tmp (rv_tmp rv_nil)) hK
theorem Med32_spec {g:World} {u:Value} {q:Nat} (d:Array UInt32) (a b c sw:Nat) (ha:a < d.size) (hb:b < d.size) (hc:c < d.size) (hs:sw≤1000):Spec Tryz.prog g 290 [u,.int .i64 a,.int .i64 b,.int .i64 c,.pointer (some ⟨q,0,none⟩)] [Sl 35 1 u32C u (d).toList,cl q 3 [.int .i64 ((sw:Nat):Int)]] fun K R=>K (.int .i64 ((median lt32 d a b c sw).1:Nat)) (Sl 35 1 u32C u (d).toList::cl q 3 [.int .i64 (((median lt32 d a b c sw).2:Nat):Int)]::R):=by
 refine Spec.intro Tryz.func290 rfl Tryz.ntmps290 rfl fun R K hK=>?_
 refine WP.seq<|WP.reg<|WL.e e_assign<|WL.next<|WP.seq<|WP.reg<|WL.e e_move<|WL.e e_move<|WL.e e_move<|WL.e e_move ?_
 refine WL.h (h_call (Ord32_spec d a b sw ha hb (by omega)) k325 ?_)
 obtain ⟨p1,p2,p3⟩:=ord_lt (d:=d) (sw:=sw) ha hb
 obtain ⟨r1,hr1⟩:∃ r,r=order2 lt32 d a b sw:=⟨_,rfl⟩
 rw [← hr1] at p1 p2 p3 ⊢
 refine WL.e e_move<|WL.e e_extract<|WL.e e_extract<|WL.e e_assign<|WL.e e_assign<|WL.next<|WP.seq<|WP.reg<|WL.e e_move<|WL.e e_move<|WL.e e_move<|WL.e e_move ?_
 refine WL.h (h_call (Ord32_spec d r1.2.1 c r1.2.2 p2 hc (by omega)) k325 ?_)
 obtain ⟨p4,p5,p6⟩:=ord_lt (d:=d) (sw:=r1.2.2) p2 hc
 obtain ⟨r2,hr2⟩:∃ r,r=order2 lt32 d r1.2.1 c r1.2.2:=⟨_,rfl⟩
 rw [← hr2] at p4 p5 p6 ⊢
 refine WL.e e_move<|WL.e e_extract<|WL.e e_extract<|WL.e e_assign<|WL.e e_assign<|WL.next<|WP.seq<|WP.reg<|WL.e e_move<|WL.e e_move<|WL.e e_move<|WL.e e_move ?_
 refine WL.h (h_call (Ord32_spec d r1.1 r2.1 r2.2.2 p1 p4 (by omega)) k325 ?_)
 rw [show median lt32 d a b c sw=((order2 lt32 d r1.1 r2.1 r2.2.2).2.1,(order2 lt32 d r1.1 r2.1 r2.2.2).2.2) by rw [hr2,hr1];rfl] at hK
 refine WL.e e_move<|WL.e e_extract<|WL.e e_extract<|WL.e e_assign<|WL.e e_assign<|WL.next<|WP.seq<|WP.reg<|WL.e e_move<|WL.e e_assign<|WL.next<|WP.ret ?_
 exact PO.fin Tryz.results290 (rv_tmp rv_nil) hK
theorem MedA32_spec {g:World} {u:Value} {q:Nat} (d:Array UInt32) (a sw:Nat) (h1:1≤a) (ha:a+1 < d.size) (hn:d.size≤68719476736) (hs:sw≤1000):Spec Tryz.prog g 289 [u,.int .i64 a,.pointer (some ⟨q,0,none⟩)] [Sl 35 1 u32C u (d).toList,cl q 3 [.int .i64 ((sw:Nat):Int)]] fun K R=>K (.int .i64 ((medianAdjacent lt32 d a sw).1:Nat)) (Sl 35 1 u32C u (d).toList::cl q 3 [.int .i64 (((medianAdjacent lt32 d a sw).2:Nat):Int)]::R):=by
 refine Spec.intro Tryz.func289 rfl Tryz.ntmps289 rfl fun R K hK=>?_
 refine WP.seq<|WP.reg<|WL.e e_assign<|WL.next<|WP.seq<|WP.reg<|WL.e e_move<|WL.e e_move<|WL.e (e_subN (b:=1))<|WL.e e_move<|WL.e e_move<|WL.e (e_addN (b:=1))<|WL.e e_move ?_
 refine WL.h (h_call (Med32_spec d (a - 1) a (a+1) sw (by omega) (by omega) ha hs) k290 ?_)
 refine WL.e e_assign<|WL.next<|WP.ret ?_
 exact PO.fin Tryz.results289 (rv_tmp rv_nil) hK
set_option maxHeartbeats 1000000 in
theorem Piv32_spec {g:World} {u:Value} (d:Array UInt32) (a b:Nat) (hab:a < b) (hb:b≤d.size) (hn:d.size≤68719476736):Spec Tryz.prog g 240 [u,.int .i64 a,.int .i64 b] [Sl 35 1 u32C u (d).toList] fun K R=>K (.tuple #[.int .i64 ((choosePivot lt32 d a b).1:Nat),.int .i64 (hv (choosePivot lt32 d a b).2:Nat)]) (Sl 35 1 u32C u (d).toList::R):=by
 refine Spec.intro Tryz.func240 rfl Tryz.ntmps240 rfl fun R K hK=>?_
 refine WP.seq<|WP.reg<|WL.e e_assign<|WL.e e_assign<|WL.next<|WP.seq<|WP.reg<|WL.e e_move<|WL.e e_move<|WL.e (e_subN)<|WL.e e_assign<|WL.next<|WP.seq<|WP.reg ?_
 refine WL.h (h_alloc z3 fun b1=>?_)
 refine WL.next<|WP.seq<|WP.reg<|WL.e e_move<|WL.e e_move<|WL.e (e_quoN (b:=4))<|WL.e (e_mulN (b:=1))<|WL.e (e_addN)<|WL.e e_assign<|WL.next<|WP.seq<|WP.reg<|WL.e e_move<|WL.e e_move<|WL.e (e_quoN (b:=4))<|WL.e (e_mulN (b:=2))<|WL.e (e_addN)<|WL.e e_assign<|WL.next<|WP.seq<|WP.reg<|WL.e e_move<|WL.e e_move<|WL.e (e_quoN (b:=4)) ?_
 refine WL.e (e_mulN (b:=3))<|WL.e (e_addN)<|WL.e e_assign<|WL.next<|WP.seq<|WP.seq<|WP.reg<|WL.e e_move<|WL.e e_geq<|WL.next ?_
 refine WP.cond rfl (fun h8=>?_) (fun h8=>?_)
 ·replace h8:b - a≥8:=by rw [decide_eq_true_eq] at h8;omega
  refine WP.seq<|WP.seq<|WP.reg<|WL.e e_move<|WL.e e_geq<|WL.next ?_
  refine WP.cond rfl (fun h50=>?_) (fun h50=>?_)
  ·replace h50:b - a≥50:=by rw [decide_eq_true_eq] at h50;omega
   refine WP.seq<|WP.reg<|WL.e e_move<|WL.e e_move ?_
   refine WL.h (h_call (MedA32_spec d (a+(b - a) / 4 * 1) 0 (by omega) (by omega) (by omega) (by omega)) k289 ?_)
   obtain ⟨r1,e1⟩:∃ r,medianAdjacent lt32 d (a+(b - a) / 4 * 1) 0=r:=⟨_,rfl⟩
   obtain ⟨p1,p2⟩:r1.1 < d.size∧r1.2≤3:=by rw [← e1];exact med_lt (by omega) (by omega) (by omega)
   rw [e1]
   refine WL.e e_assign<|WL.next<|WP.seq<|WP.reg<|WL.e e_move<|WL.e e_move ?_
   refine WL.h (h_call (MedA32_spec d (a+(b - a) / 4 * 2) r1.2 (by omega) (by omega) (by omega) (by omega)) k289 ?_)
   obtain ⟨r2,e2⟩:∃ r,medianAdjacent lt32 d (a+(b - a) / 4 * 2) r1.2=r:=⟨_,rfl⟩
   obtain ⟨p3,p4⟩:r2.1 < d.size∧r2.2≤r1.2+3:=by rw [← e2];exact med_lt (by omega) (by omega) (by omega)
   rw [e2]
   refine WL.e e_assign<|WL.next<|WP.reg<|WL.e e_move<|WL.e e_move ?_
   refine WL.h (h_call (MedA32_spec d (a+(b - a) / 4 * 3) r2.2 (by omega) (by omega) (by omega) (by omega)) k289 ?_)
   obtain ⟨r3,e3⟩:∃ r,medianAdjacent lt32 d (a+(b - a) / 4 * 3) r2.2=r:=⟨_,rfl⟩
   obtain ⟨p5,p6⟩:r3.1 < d.size∧r3.2≤r2.2+3:=by rw [← e3];exact med_lt (by omega) (by omega) (by omega)
   rw [e3]
   refine WL.e e_assign<|WL.next<|WP.reg<|WL.e e_move<|WL.e e_move<|WL.e e_move<|WL.e e_move ?_
   refine WL.h (h_call (Med32_spec d r1.1 r2.1 r3.1 r3.2 p1 p3 p5 (by omega)) k290 ?_)
   obtain ⟨r4,e4⟩:∃ r,median lt32 d r1.1 r2.1 r3.1 r3.2=r:=⟨_,rfl⟩
   rw [e4]
   rw [cp3 h8 h50 e1 e2 e3 e4] at hK
   clear e1
   refine WL.e e_assign<|WL.next<|WP.seq<|WP.reg<|WL.e (e_load a3)<|WL.next<|WP.block<|WP.seq<|WP.reg<|WL.e e_eql<|WL.e e_assign<|WL.next ?_
   refine WP.cond rfl (fun e0=>?_) (fun e0=>?_)
   ·replace e0:r4.2=0:=by simpa using e0
    rw [cpH,if_pos e0] at hK
    refine WP.seq<|WP.reg<|WL.e e_move<|WL.e e_assign<|WL.e e_assign<|WL.next<|WP.ret<|PO.blockR ?_
    exact PO.fin Tryz.results240 (rv_tmp (rv_tmp rv_nil)) hK
   ·replace e0:¬ r4.2=0:=by simpa using e0
    refine WP.seq<|WP.reg<|WL.e e_eql<|WL.e e_assign<|WL.next ?_
    refine WP.cond rfl (fun e1=>?_) (fun e1=>?_)
    ·replace e1:r4.2=12:=by have:=eq_of_beq e1;omega
     rw [cpH,if_neg e0,if_pos e1] at hK
     refine WP.seq<|WP.reg<|WL.e e_move<|WL.e e_assign<|WL.e e_assign<|WL.next<|WP.ret<|PO.blockR ?_
     exact PO.fin Tryz.results240 (rv_tmp (rv_tmp rv_nil)) hK
    ·replace e1:¬ r4.2=12:=fun h=>by rw [h] at e1;exact absurd e1 (by decide)
     rw [cpH,if_neg e0,if_neg e1] at hK
     refine WP.seq<|WP.reg<|WL.e e_move<|WL.e e_assign<|WL.e e_assign<|WL.next<|WP.ret<|PO.blockR ?_
     exact PO.fin Tryz.results240 (rv_tmp (rv_tmp rv_nil)) hK
  ·replace h50:¬ (b - a≥50):=by rw [decide_eq_false_iff_not] at h50;omega
   refine WP.skip<|PO.next<|WP.reg<|WL.e e_move<|WL.e e_move<|WL.e e_move<|WL.e e_move ?_
   refine WL.h (h_call (Med32_spec d (a+(b - a) / 4 * 1) (a+(b - a) / 4 * 2) (a+(b - a) / 4 * 3) 0 (by omega) (by omega) (by omega) (by omega)) k290 ?_)
   rw [cp2 h8 h50] at hK
   obtain ⟨r4,e4⟩:∃ r,median lt32 d (a+(b - a) / 4 * 1) (a+(b - a) / 4 * 2) (a+(b - a) / 4 * 3) 0=r:=⟨_,rfl⟩
   rw [e4] at hK ⊢
   refine WL.e e_assign<|WL.next<|WP.seq<|WP.reg<|WL.e (e_load a3)<|WL.next<|WP.block<|WP.seq<|WP.reg<|WL.e e_eql<|WL.e e_assign<|WL.next ?_
   refine WP.cond rfl (fun e0=>?_) (fun e0=>?_)
   ·replace e0:r4.2=0:=by simpa using e0
    rw [cpH,if_pos e0] at hK
    refine WP.seq<|WP.reg<|WL.e e_move<|WL.e e_assign<|WL.e e_assign<|WL.next<|WP.ret<|PO.blockR ?_
    exact PO.fin Tryz.results240 (rv_tmp (rv_tmp rv_nil)) hK
   ·replace e0:¬ r4.2=0:=by simpa using e0
    refine WP.seq<|WP.reg<|WL.e e_eql<|WL.e e_assign<|WL.next ?_
    refine WP.cond rfl (fun e1=>?_) (fun e1=>?_)
    ·replace e1:r4.2=12:=by have:=eq_of_beq e1;omega
     rw [cpH,if_neg e0,if_pos e1] at hK
     refine WP.seq<|WP.reg<|WL.e e_move<|WL.e e_assign<|WL.e e_assign<|WL.next<|WP.ret<|PO.blockR ?_
     exact PO.fin Tryz.results240 (rv_tmp (rv_tmp rv_nil)) hK
    ·replace e1:¬ r4.2=12:=fun h=>by rw [h] at e1;exact absurd e1 (by decide)
     rw [cpH,if_neg e0,if_neg e1] at hK
     refine WP.seq<|WP.reg<|WL.e e_move<|WL.e e_assign<|WL.e e_assign<|WL.next<|WP.ret<|PO.blockR ?_
     exact PO.fin Tryz.results240 (rv_tmp (rv_tmp rv_nil)) hK
 ·replace h8:¬ (b - a≥8):=by rw [decide_eq_false_iff_not] at h8;omega
  refine WP.skip<|PO.next<|WP.seq<|WP.reg<|WL.e (e_load a3)<|WL.next<|WP.block<|WP.seq<|WP.reg<|WL.e e_eql<|WL.e e_assign<|WL.next ?_
  refine WP.cond rfl (fun e0=>?_) (fun e0=>?_)
  ·rw [cp1 h8] at hK
   refine WP.seq<|WP.reg<|WL.e e_move<|WL.e e_assign<|WL.e e_assign<|WL.next<|WP.ret<|PO.blockR ?_
   exact PO.fin Tryz.results240 (rv_tmp (rv_tmp rv_nil)) hK
  ·exact absurd e0 (by decide)
end Go.SL
