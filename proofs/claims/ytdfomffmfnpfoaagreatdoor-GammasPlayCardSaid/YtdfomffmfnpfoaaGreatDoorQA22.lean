import Derived.Test.YtdfomffmfnpfoaaGreatDoorQA21
set_option linter.unusedSimpArgs false
set_option linter.unusedVariables false
namespace Go.SL.Fc
open Go Go.Proofs Go.SL
theorem a101:aggOf Tryz.prog 101=some none:=by kernel_rfl
theorem f104_4:fldOf Tryz.prog 104 4=some 4:=by kernel_rfl
theorem f143_0:fldOf Tryz.prog 143 0=some 0:=by kernel_rfl
theorem f143_1:fldOf Tryz.prog 143 1=some 2:=by kernel_rfl
theorem k58:callable Tryz.prog 58=true:=by kernel_rfl
theorem k59:callable Tryz.prog 59=true:=by kernel_rfl
theorem k60:callable Tryz.prog 60=true:=by kernel_rfl
theorem k61:callable Tryz.prog 61=true:=by kernel_rfl
theorem k63:callable Tryz.prog 63=true:=by kernel_rfl
theorem k64:callable Tryz.prog 64=true:=by kernel_rfl
theorem p143:placesOf Tryz.prog 143=some [(0,2),(2,1)]:=by kernel_rfl
theorem s101:szOf Tryz.prog 101=some 1:=by kernel_rfl
theorem s110:szOf Tryz.prog 110=some 3:=by kernel_rfl
theorem sl101:slOf Tryz.prog 101=some (143,3,40):=by kernel_rfl
theorem z143:zeroOf Tryz.prog 143=some [.string .empty,.string .empty,.int .u32 0]:=by kernel_rfl
end Go.SL.Fc
namespace Go.SL
open Go Go.Proofs Fc
theorem rf_rd {p:Nat} {s:RefV} {t:TxU UInt32 RtD} (h:t ∈ s.txs):Rd (Rf p s) 3 (.slice (some ⟨t.q,0,none⟩) 1 1) 1 [.int .u32 t.id.toNat,.int .u32 t.x.num.toNat,t.x.sv.v]:=fun S ⟨x,hS⟩=>by
 obtain ⟨S1,_,_,l1,_,h1,_⟩:=(Pick.s (Pick.s (Pick.s (Pick.s Pick.z)))).to hS
 exact (rt_rd (T:=110) (E:=123) h S1 h1).le l1
theorem rRes_w {l:List RowM} {x:OpM} (h:writes x=true):rRes l x=[]:=by
 have h2:x.kind=2∨x.kind=3:=by simpa [writes] using h
 unfold rRes
 rcases h2 with h2 | h2 <;> simp [h2]
theorem rRes_r {l:List RowM} {x:OpM} (hl:Rising l) (hx:opOk x=true) (h:writes x=false):rRes l x=scanR l (spanOf x) 256:=by
 have h2:x.kind≠2∧x.kind≠3:=by simpa [writes] using h
 unfold rRes
 by_cases h1:x.kind=1
 ·rw [if_pos h1,← scan_one hl,show spanOf x=one x.key by simp [spanOf,one,h1]]
 ·by_cases h4:x.kind=4
  ·rw [if_neg h1,if_pos h4]
  ·rw [opOk_none h1 h2.1 h2.2 h4] at hx;cases hx
set_option maxHeartbeats 16000000 in
theorem rDo_spec {g:World} {p b:Nat} {s:RefV} (n:UInt32) (x:OpM) (hs:RefOk s b) (hr:Rising s.rows) (hxk:x.key.size≤9223372036854775807) (hxt:x.to.size≤9223372036854775807):Spec Tryz.prog g 18 [.pointer (some ⟨p,0,none⟩),.int .u32 n.toNat,x.v] [Rf p s] fun K R=>match rDo s n x with
   | .err s' e=>K (.tuple #[.agg #[.slice none 0 0],.int .i64 e]) (Rf p s'::R)
   | .put t c=>∀ sv,K (.tuple #[.agg #[.slice none 0 0],.int .i64 0]) (Rf p (rPut s t c sv)::R)
   | .look t=>∀ sv a m c,K (.tuple #[.agg #[.slice a m c],.int .i64 0]) (Sl 78 2 RowM.c (.slice a m c) (scanR (changeR s.rows t.x.own) (spanOf x) 256)::Rf p (rLook s t (spanOf x) sv)::R):=by
 have hbb:=hs.bb
 have htl:=hs.tl
 have hsum:=hs.sum
 have hnsum:=hs.nsum
 have hlk:=hs.looks
 refine Spec.intro Tryz.func18 rfl Tryz.ntmps18 rfl fun R K hK=>?_
 refine WP.seq<|WP.reg ?_
 refine WL.h (h_box fun b1=>?_)
 refine WL.h (h_alloc z61 fun b2=>?_)
 refine WL.e e_assign<|WL.next<|WP.seq<|WP.seq<|WP.reg<|WL.e (e_loadN a51) ?_
 refine WL.h (h_call (rOp_spec x hxk hxt) k58 ?_)
 refine WL.e e_not<|WL.next ?_
 refine WP.cond rfl (fun h1=>?_) (fun h1=>?_)
 ·replace h1:opOk x=false:=by simpa using h1
  rw [show rDo s n x=.err s 1 by simp [rDo,h1]] at hK
  refine WP.seq<|WP.reg<|WL.e (e_build z61 p61 (.z (.slice none 0 0)<|.n)) ?_
  refine WL.h' (h_store s61 ?_)
  refine WL.e e_assign<|WL.next<|WP.ret<|PO.past nofun ?_
  exact PO.fin Tryz.results18 (rv_cellN a61 (rv_tmp rv_nil)) hK
 ·replace h1:opOk x=true:=by simpa using h1
  have hsz:=opOk_sz h1
  refine WP.skip<|PO.next<|WP.seq<|WP.reg<|WL.e e_move<|WL.e e_move ?_
  refine WL.h (h_call (rFindT_spec (s:=s) n (by omega)) k40 ?_)
  refine WL.e e_assign<|WL.next<|WP.seq<|WP.seq<|WP.reg<|WL.e e_move<|WL.e (e_peq pt107)<|WL.next ?_
  refine WP.cond rfl (fun h2=>?_) (fun h2=>?_)
  ·have hf:findU s.txs n=none:=by cases e:findU s.txs n with
    | none=>rfl
    | some t=>rw [e] at h2;cases h2
   rw [show rDo s n x=.err s 6 by simp [rDo,h1,hf]] at hK
   refine WP.seq<|WP.reg<|WL.e (e_build z61 p61 (.z (.slice none 0 0)<|.n)) ?_
   refine WL.h' (h_store s61 ?_)
   refine WL.e e_assign<|WL.next<|WP.ret<|PO.past nofun ?_
   exact PO.fin Tryz.results18 (rv_cellN a61 (rv_tmp rv_nil)) hK
  ·obtain ⟨t,hf⟩:∃ t,findU s.txs n=some t:=by cases e:findU s.txs n with
    | none=>rw [e] at h2;cases h2
    | some t=>exact ⟨t,rfl⟩
   rw [hf,Option.map_some]
   have ht:=findU_mem hf
   have hol:=hs.own_le ht
   have hown:=hs.kown t ht
   obtain ⟨hid,X,Y,e,_,_⟩:=findU_mid hf
   refine WP.skip<|PO.next<|WP.seq<|WP.reg<|WL.e (e_loadN a51) ?_
   refine WL.h (h_call (rOf_spec x) k59 ?_)
   refine WL.h (h_alloc z132 fun b3=>?_)
   refine WL.h' (h_store s132 ?_)
   refine WL.next<|WP.seq<|WP.reg<|WL.e (e_loadN a51) ?_
   refine WL.h (h_call (rWrites_spec x) k60 ?_)
   refine WL.e e_assign<|WL.next<|WP.seq<|WP.draws mixedOk 8<|RW.e 0 rfl e_move<|RW.e 1 rfl e_move<|RW.e 2 rfl e_nil<|RW.e 3 rfl (e_fa f110_1)<|RW.e 4 rfl (e_load_rd (k:=1) a48 rfl (rf_rd ht) rfl)<|RW.e 5 rfl (e_loadN a132) ?_
   refine RW.any (is:=[6]) rfl ⟨?_,trivial⟩
   refine RWat.h rfl rfl rfl ?_
   refine (h_call (rLate_spec t.x.num (spanOf x) hs hsz.2) k61 ?_)
   refine ⟨trivial,?_⟩
   refine RW.e 7 rfl e_assign<|RW.done<|PO.next<|WP.seq<|WP.seq<|WP.reg<|WL.e e_assign<|WL.next<|WP.block<|WP.opn (Rf_op (p:=p) (s:=s)) fun x=>?_
   obtain ⟨A,u,w,lk,lv,hu,hw⟩:=x
   dsimp only
   refine WP.loopK (fun (y:Nat × Bool)=>[(12,.int .i64 y.1),(11,.bool y.2)]) (fun (y:Nat × Bool)=>cl p 104 [u.v,w.v,.int .u32 (s.last).toNat,.int .u32 (s.kept).toNat,lk.v,lv.v]::A::Sl 143 3 lokC (lk.v) (s.looks)::Sl 107 1 ptC (lv.v) (s.txs)::Rts 110 123 s.txs::cl b1 51 (OpM.c x)::cl b2 61 [.slice none 0 0]::cl b3 132 [.string (spanOf x).a,.string (spanOf x).b]::R) [(0,_),(1,_),(5,_),(6,_),(7,_),(8,_),(9,_),(10,_)] (fun (y:Nat × Bool)=>y.1≤s.looks.length∧y.2=(rLate s t.x.num (spanOf x) || (writes x && rLooks (s.looks.take y.1) t.x.num (spanOf x)))) (fun (y:Nat × Bool)=>s.looks.length - y.1) (0,rLate s t.x.num (spanOf x)) (⟨Nat.zero_le _,by simp [rLooks]⟩) ?_
   rintro ⟨i,v5⟩ ⟨hi,hv5⟩
   simp only at hi hv5
   dsimp only
   refine WP.seq<|WP.seq<|WP.reg<|WL.e e_move<|WL.e e_move<|WL.e e_nil<|WL.e (e_fa f104_4)<|WL.e (e_load a101)<|WL.e (el_len (xs:=s.looks) sl101 sl_rl)<|WL.e e_lss<|WL.e e_move ?_
   refine WL.join 48 (.bool (decide (i < s.looks.length) && writes x)) (.c (.c .n)) ?_ ?_
   ·refine WL.bool 46 rfl (fun hg=>?_) (fun hg=>?_)
    ·skip
     refine WL.e e_move<|WL.e e_pick_t ?_
     exact WL.nil (PO.joined rfl (by simp at hg;simp [hg]))
    ·skip
     refine WL.skip<|WL.e e_pick_f ?_
     exact WL.nil (PO.joined rfl (by simp at hg;simp;intro h;omega))
   refine WL.next ?_
   refine WP.cond rfl (fun h4=>?_) (fun h4=>?_)
   ·replace h4:i < s.looks.length∧writes x=true:=by simpa using h4
    have hlt:=h4.1
    obtain ⟨y,hx⟩:∃ y,s.looks[i]?=some y:=⟨_,List.getElem?_eq_getElem hlt⟩
    have hky:=hs.klooks y (List.mem_of_getElem? hx)
    refine WP.skip<|PO.next<|WP.seq<|WP.block<|WP.draws mixedOk 29<|RW.e 0 rfl e_move<|RW.e 1 rfl e_move ?_
    refine RW.bool 52 rfl (fun e1=>?_) (fun e1=>?_)
    ·skip
     refine RW.skip 2 rfl<|RW.skip 3 rfl<|RW.skip 4 rfl<|RW.skip 5 rfl<|RW.skip 6 rfl<|RW.skip 7 rfl<|RW.skip 8 rfl<|RW.skip 9 rfl<|RW.skip 10 rfl<|RW.skip 11 rfl<|RW.skip 12 rfl<|RW.skip 13 rfl<|RW.skip 14 rfl<|RW.skip 15 rfl<|RW.skip 16 rfl<|RW.skip 17 rfl<|RW.skip 18 rfl<|RW.skip 19 rfl<|RW.skip 20 rfl<|RW.skip 21 rfl<|RW.skip 22 rfl<|RW.skip 23 rfl<|RW.skip 24 rfl<|RW.skip 25 rfl ?_
     refine RW.skip 26 rfl<|RW.e 27 rfl e_pick_t ?_
     refine RW.any (is:=[28]) rfl ⟨?_,trivial⟩
     refine RWat.h rfl rfl rfl<|HO.of_eo e_assign ?_
     refine ⟨trivial,?_⟩
     refine RW.done<|PO.blockN<|PO.next<|WP.reg<|WL.e e_move<|WL.e (e_add (c:=((i+1:Nat):Int)) rfl rfl (by rw [w_i64 (by omega) (by omega)];omega))<|WL.e e_assign<|WL.nil ?_
     exact PO.againK (i+1,true) ⟨by simp only;omega,by simp only;rw [rLooks_snoc hx];rw [hv5] at e1;simp only [Bool.true_eq];revert e1;simp only [h4.2,Bool.true_and,Bool.or_eq_true];rintro (e1 | e1) <;> simp [e1]⟩ (by simp only;omega)
    ·skip
     refine RW.e 2 rfl e_move<|RW.e 3 rfl e_nil<|RW.e 4 rfl (e_fa f104_4)<|RW.e 5 rfl (e_load a101)<|RW.e 6 rfl e_move<|RW.e 7 rfl (el_ia (j:=i) (xs:=s.looks) sl101 sl_rl hlt)<|RW.e 8 rfl (el_fa (z:=3) (j:=i) (xs:=s.looks) f143_1 sl_rl hlt)<|RW.e 9 rfl (el_load (f:=2) (j:=i) (xs:=s.looks) (a:=y) a48 lkE sl_rl hx)<|RW.e 10 rfl e_move<|RW.e 11 rfl e_nil<|RW.e 12 rfl (e_fa f110_1)<|RW.e 13 rfl (e_load_rd (k:=1) a48 rfl (rt_rd (T:=110) (E:=123) ht) rfl)<|RW.e 14 rfl (e_gtr32)<|RW.e 15 rfl e_move ?_
     refine RW.bool 66 rfl (fun e2=>?_) (fun e2=>?_)
     ·skip
      refine RW.e 16 rfl e_move<|RW.e 17 rfl e_nil<|RW.e 18 rfl (e_fa f104_4)<|RW.e 19 rfl (e_load a101)<|RW.e 20 rfl e_move<|RW.e 21 rfl (el_ia (j:=i) (xs:=s.looks) sl101 sl_rl hlt)<|RW.e 22 rfl (el_fa (z:=3) (j:=i) (xs:=s.looks) f143_0 sl_rl hlt)<|RW.e 23 rfl (e_loadN_rd (z:=3) (n:=s.looks.length) (m:=2) (k:=i * 3+0) a132 rfl (sl_rl (E:=143) (enc:=lokC) (u:=lk.v) (xs:=s.looks)) (lk_at hx) (by omega) (by decide))<|RW.e 24 rfl (e_loadN a132) ?_
      refine RW.any (is:=[25]) rfl ⟨?_,trivial⟩
      refine RWat.h rfl rfl rfl ?_
      refine (h_call (rMeet_spec y.1 (spanOf x) hky hsz) k62 ?_)
      refine ⟨trivial,?_⟩
      refine RW.e 26 rfl e_pick_t<|RW.e 27 rfl e_pick_f ?_
      refine RW.any (is:=[28]) rfl ⟨?_,trivial⟩
      refine RWat.h rfl rfl rfl<|HO.of_eo e_assign ?_
      refine ⟨trivial,?_⟩
      refine RW.done<|PO.blockN<|PO.next<|WP.reg<|WL.e e_move<|WL.e (e_add (c:=((i+1:Nat):Int)) rfl rfl (by rw [w_i64 (by omega) (by omega)];omega))<|WL.e e_assign<|WL.nil ?_
      exact PO.againK (i+1,meet y.1 (spanOf x)) ⟨by simp only;omega,by simp only;rw [rLooks_snoc hx];rw [hv5] at e1;revert e1;simp only [h4.2,Bool.true_and,Bool.or_eq_false_iff];rintro ⟨e1,e3⟩;simp [e1,e3,e2]⟩ (by simp only;omega)
     ·skip
      refine RW.skip 16 rfl<|RW.skip 17 rfl<|RW.skip 18 rfl<|RW.skip 19 rfl<|RW.skip 20 rfl<|RW.skip 21 rfl<|RW.skip 22 rfl<|RW.skip 23 rfl<|RW.skip 24 rfl<|RW.skip 25 rfl<|RW.e 26 rfl e_pick_f<|RW.e 27 rfl e_pick_f ?_
      refine RW.any (is:=[28]) rfl ⟨?_,trivial⟩
      refine RWat.h rfl rfl rfl<|HO.of_eo e_assign ?_
      refine ⟨trivial,?_⟩
      refine RW.done<|PO.blockN<|PO.next<|WP.reg<|WL.e e_move<|WL.e (e_add (c:=((i+1:Nat):Int)) rfl rfl (by rw [w_i64 (by omega) (by omega)];omega))<|WL.e e_assign<|WL.nil ?_
      exact PO.againK (i+1,false) ⟨by simp only;omega,by simp only;rw [rLooks_snoc hx];rw [hv5] at e1;revert e1;simp only [h4.2,Bool.true_and,Bool.or_eq_false_iff];rintro ⟨e1,e3⟩;simp [e1,e3,e2]⟩ (by simp only;omega)
   ·have hv5:v5=(rLate s t.x.num (spanOf x) || (writes x && rLooks s.looks t.x.num (spanOf x))):=by
     cases hw:writes x with
     | false=>simpa [hw] using hv5
     | true=>rw [hw] at h4 hv5;rw [List.take_of_length_le (by simpa using h4)] at hv5;exact hv5
    refine WP.exit<|PO.past nofun<|PO.round nofun<|PO.blockX<|PO.next<|WP.seq<|WP.reg<|WL.e e_assign<|WL.next<|WP.seq<|WP.seq<|WP.reg<|WL.e e_assign<|WL.next<|WP.block<|WP.loopK (fun (y:Nat × Bool × Bool)=>[(14,.int .i64 y.1),(11,.bool y.2.1),(13,.bool y.2.2)]) (fun (y:Nat × Bool × Bool)=>cl p 104 [u.v,w.v,.int .u32 (s.last).toNat,.int .u32 (s.kept).toNat,lk.v,lv.v]::A::Sl 143 3 lokC (lk.v) (s.looks)::Sl 107 1 ptC (lv.v) (s.txs)::Rts 110 123 s.txs::cl b1 51 (OpM.c x)::cl b2 61 [.slice none 0 0]::cl b3 132 [.string (spanOf x).a,.string (spanOf x).b]::R) [(0,_),(1,_),(5,_),(6,_),(7,_),(8,_),(9,_),(10,_)] (fun (y:Nat × Bool × Bool)=>y.1≤s.txs.length∧y.2.1=(v5 || rOth (s.txs.take y.1) t.id (spanOf x) fun m=>writes x && decide (t.x.num < m))∧y.2.2=rOth (s.txs.take y.1) t.id (spanOf x) fun m=>decide (m < t.x.num)) (fun (y:Nat × Bool × Bool)=>s.txs.length - y.1) (0,v5,false) (⟨Nat.zero_le _,by simp [rOth],by simp [rOth]⟩) ?_
    rintro ⟨i,v6,v7⟩ ⟨hi,hv6,hv7⟩
    simp only at hi hv6 hv7
    dsimp only
    refine WP.seq<|WP.seq<|WP.reg<|WL.e e_move<|WL.e e_move<|WL.e e_nil<|WL.e (e_fa f104_5)<|WL.e (e_load a102)<|WL.e (el_len (xs:=s.txs) sl102 sl_rl)<|WL.e e_lss<|WL.next ?_
    refine WP.cond rfl (fun h5=>?_) (fun h5=>?_)
    ·have hlt:i < s.txs.length:=by simp at h5;omega
     obtain ⟨o,hx⟩:∃ x,s.txs[i]?=some x:=⟨_,List.getElem?_eq_getElem hlt⟩
     have ho:=List.mem_of_getElem? hx
     have hoo:=hs.own_le ho
     refine WP.skip<|PO.next<|WP.seq<|WP.block<|WP.seq<|WP.reg<|WL.e e_move<|WL.e e_nil<|WL.e (e_fa f104_5)<|WL.e (e_load a102)<|WL.e e_move<|WL.e (el_ia (j:=i) (xs:=s.txs) sl102 sl_rl hlt)<|WL.e (el_load0 (j:=i) (xs:=s.txs) (a:=o) a107 ptE sl_rl hx)<|WL.e e_assign<|WL.next<|WP.seq<|WP.reg<|WL.e e_move<|WL.e e_move<|WL.e (e_ppR (.inr rfl) Tryz.underlying107 s110 (by decide) hs.ids.nodup ho ht)<|WL.e e_move ?_
     refine WL.bool 98 rfl (fun d1=>?_) (fun d1=>?_)
     ·replace d1:o.id≠t.id:=by simpa [eqOp] using d1
      refine WL.e e_move<|WL.e (e_loadN a132) ?_
      refine WL.h (h_call (rUnder_spec ho (spanOf x) (by omega) (hs.kown o ho) hsz) k63 ?_)
      refine WL.e e_pick_t<|WL.next ?_
      refine WP.cond rfl (fun d2=>?_) (fun d2=>?_)
      ·skip
       refine WP.seq<|WP.draws mixedOk 16<|RW.e 0 rfl e_move<|RW.e 1 rfl e_move ?_
       refine RW.bool 104 rfl (fun f1=>?_) (fun f1=>?_)
       ·skip
        refine RW.skip 2 rfl<|RW.skip 3 rfl<|RW.skip 4 rfl<|RW.skip 5 rfl<|RW.skip 6 rfl<|RW.skip 7 rfl<|RW.skip 8 rfl<|RW.skip 9 rfl<|RW.skip 10 rfl<|RW.skip 11 rfl<|RW.skip 12 rfl<|RW.skip 13 rfl<|RW.e 14 rfl e_pick_t ?_
        refine RW.any (is:=[15]) rfl ⟨?_,trivial⟩
        refine RWat.h rfl rfl rfl<|HO.of_eo e_assign ?_
        refine ⟨trivial,?_⟩
        refine RW.done<|PO.next<|WP.draws mixedOk 13<|RW.e 0 rfl e_move<|RW.e 1 rfl e_move ?_
        refine RW.bool 119 rfl (fun f5=>?_) (fun f5=>?_)
        ·skip
         refine RW.skip 2 rfl<|RW.skip 3 rfl<|RW.skip 4 rfl<|RW.skip 5 rfl<|RW.skip 6 rfl<|RW.skip 7 rfl<|RW.skip 8 rfl<|RW.skip 9 rfl<|RW.skip 10 rfl<|RW.e 11 rfl e_pick_t ?_
         refine RW.any (is:=[12]) rfl ⟨?_,trivial⟩
         refine RWat.h rfl rfl rfl<|HO.of_eo e_assign ?_
         refine ⟨trivial,?_⟩
         refine RW.done<|PO.blockN<|PO.next<|WP.reg<|WL.e e_move<|WL.e (e_add (c:=((i+1:Nat):Int)) rfl rfl (by rw [w_i64 (by omega) (by omega)];omega))<|WL.e e_assign<|WL.nil ?_
         exact PO.againK (i+1,true,true) ⟨by simp only;omega,by simp only;rw [rOth_snoc hx];rw [← Bool.or_assoc,← hv6];simp [f1],by simp only;rw [rOth_snoc hx];rw [← hv7];simp [f5]⟩ (by simp only;omega)
        ·skip
         refine RW.e 2 rfl e_move<|RW.e 3 rfl e_nil<|RW.e 4 rfl (e_fa f110_1)<|RW.e 5 rfl (e_load_rd (k:=1) a48 rfl (rt_rd (ho)) rfl)<|RW.e 6 rfl e_move<|RW.e 7 rfl e_nil<|RW.e 8 rfl (e_fa f110_1)<|RW.e 9 rfl (e_load_rd (k:=1) a48 rfl (rt_rd (T:=110) (E:=123) ht) rfl)<|RW.e 10 rfl (e_lss32)<|RW.e 11 rfl e_pick_f ?_
         refine RW.any (is:=[12]) rfl ⟨?_,trivial⟩
         refine RWat.h rfl rfl rfl<|HO.of_eo e_assign ?_
         refine ⟨trivial,?_⟩
         refine RW.done<|PO.blockN<|PO.next<|WP.reg<|WL.e e_move<|WL.e (e_add (c:=((i+1:Nat):Int)) rfl rfl (by rw [w_i64 (by omega) (by omega)];omega))<|WL.e e_assign<|WL.nil ?_
         exact PO.againK (i+1,true,decide (o.x.num < t.x.num)) ⟨by simp only;omega,by simp only;rw [rOth_snoc hx];rw [← Bool.or_assoc,← hv6];simp [f1],by simp only;rw [rOth_snoc hx];rw [← hv7];simp [f5,d1,d2]⟩ (by simp only;omega)
       ·skip
        refine RW.e 2 rfl e_move<|RW.e 3 rfl e_move ?_
        refine RW.bool 106 rfl (fun f2=>?_) (fun f2=>?_)
        ·skip
         refine RW.e 4 rfl e_move<|RW.e 5 rfl e_nil<|RW.e 6 rfl (e_fa f110_1)<|RW.e 7 rfl (e_load_rd (k:=1) a48 rfl (rt_rd (ho)) rfl)<|RW.e 8 rfl e_move<|RW.e 9 rfl e_nil<|RW.e 10 rfl (e_fa f110_1)<|RW.e 11 rfl (e_load_rd (k:=1) a48 rfl (rt_rd (T:=110) (E:=123) ht) rfl)<|RW.e 12 rfl (e_gtr32)<|RW.e 13 rfl e_pick_t<|RW.e 14 rfl e_pick_f ?_
         refine RW.any (is:=[15]) rfl ⟨?_,trivial⟩
         refine RWat.h rfl rfl rfl<|HO.of_eo e_assign ?_
         refine ⟨trivial,?_⟩
         refine RW.done<|PO.next<|WP.draws mixedOk 13<|RW.e 0 rfl e_move<|RW.e 1 rfl e_move ?_
         refine RW.bool 119 rfl (fun f5=>?_) (fun f5=>?_)
         ·skip
          refine RW.skip 2 rfl<|RW.skip 3 rfl<|RW.skip 4 rfl<|RW.skip 5 rfl<|RW.skip 6 rfl<|RW.skip 7 rfl<|RW.skip 8 rfl<|RW.skip 9 rfl<|RW.skip 10 rfl<|RW.e 11 rfl e_pick_t ?_
          refine RW.any (is:=[12]) rfl ⟨?_,trivial⟩
          refine RWat.h rfl rfl rfl<|HO.of_eo e_assign ?_
          refine ⟨trivial,?_⟩
          refine RW.done<|PO.blockN<|PO.next<|WP.reg<|WL.e e_move<|WL.e (e_add (c:=((i+1:Nat):Int)) rfl rfl (by rw [w_i64 (by omega) (by omega)];omega))<|WL.e e_assign<|WL.nil ?_
          exact PO.againK (i+1,decide (t.x.num < o.x.num),true) ⟨by simp only;omega,by simp only;rw [rOth_snoc hx];rw [← Bool.or_assoc,← hv6];simp [f1,f2,d1,d2],by simp only;rw [rOth_snoc hx];rw [← hv7];simp [f5]⟩ (by simp only;omega)
         ·skip
          refine RW.e 2 rfl e_move<|RW.e 3 rfl e_nil<|RW.e 4 rfl (e_fa f110_1)<|RW.e 5 rfl (e_load_rd (k:=1) a48 rfl (rt_rd (ho)) rfl)<|RW.e 6 rfl e_move<|RW.e 7 rfl e_nil<|RW.e 8 rfl (e_fa f110_1)<|RW.e 9 rfl (e_load_rd (k:=1) a48 rfl (rt_rd (T:=110) (E:=123) ht) rfl)<|RW.e 10 rfl (e_lss32)<|RW.e 11 rfl e_pick_f ?_
          refine RW.any (is:=[12]) rfl ⟨?_,trivial⟩
          refine RWat.h rfl rfl rfl<|HO.of_eo e_assign ?_
          refine ⟨trivial,?_⟩
          refine RW.done<|PO.blockN<|PO.next<|WP.reg<|WL.e e_move<|WL.e (e_add (c:=((i+1:Nat):Int)) rfl rfl (by rw [w_i64 (by omega) (by omega)];omega))<|WL.e e_assign<|WL.nil ?_
          exact PO.againK (i+1,decide (t.x.num < o.x.num),decide (o.x.num < t.x.num)) ⟨by simp only;omega,by simp only;rw [rOth_snoc hx];rw [← Bool.or_assoc,← hv6];simp [f1,f2,d1,d2],by simp only;rw [rOth_snoc hx];rw [← hv7];simp [f5,d1,d2]⟩ (by simp only;omega)
        ·skip
         refine RW.skip 4 rfl<|RW.skip 5 rfl<|RW.skip 6 rfl<|RW.skip 7 rfl<|RW.skip 8 rfl<|RW.skip 9 rfl<|RW.skip 10 rfl<|RW.skip 11 rfl<|RW.skip 12 rfl<|RW.e 13 rfl e_pick_f<|RW.e 14 rfl e_pick_f ?_
         refine RW.any (is:=[15]) rfl ⟨?_,trivial⟩
         refine RWat.h rfl rfl rfl<|HO.of_eo e_assign ?_
         refine ⟨trivial,?_⟩
         refine RW.done<|PO.next<|WP.draws mixedOk 13<|RW.e 0 rfl e_move<|RW.e 1 rfl e_move ?_
         refine RW.bool 119 rfl (fun f5=>?_) (fun f5=>?_)
         ·skip
          refine RW.skip 2 rfl<|RW.skip 3 rfl<|RW.skip 4 rfl<|RW.skip 5 rfl<|RW.skip 6 rfl<|RW.skip 7 rfl<|RW.skip 8 rfl<|RW.skip 9 rfl<|RW.skip 10 rfl<|RW.e 11 rfl e_pick_t ?_
          refine RW.any (is:=[12]) rfl ⟨?_,trivial⟩
          refine RWat.h rfl rfl rfl<|HO.of_eo e_assign ?_
          refine ⟨trivial,?_⟩
          refine RW.done<|PO.blockN<|PO.next<|WP.reg<|WL.e e_move<|WL.e (e_add (c:=((i+1:Nat):Int)) rfl rfl (by rw [w_i64 (by omega) (by omega)];omega))<|WL.e e_assign<|WL.nil ?_
          exact PO.againK (i+1,false,true) ⟨by simp only;omega,by simp only;rw [rOth_snoc hx];rw [← Bool.or_assoc,← hv6];simp [f1,f2],by simp only;rw [rOth_snoc hx];rw [← hv7];simp [f5]⟩ (by simp only;omega)
         ·skip
          refine RW.e 2 rfl e_move<|RW.e 3 rfl e_nil<|RW.e 4 rfl (e_fa f110_1)<|RW.e 5 rfl (e_load_rd (k:=1) a48 rfl (rt_rd (ho)) rfl)<|RW.e 6 rfl e_move<|RW.e 7 rfl e_nil<|RW.e 8 rfl (e_fa f110_1)<|RW.e 9 rfl (e_load_rd (k:=1) a48 rfl (rt_rd (T:=110) (E:=123) ht) rfl)<|RW.e 10 rfl (e_lss32)<|RW.e 11 rfl e_pick_f ?_
          refine RW.any (is:=[12]) rfl ⟨?_,trivial⟩
          refine RWat.h rfl rfl rfl<|HO.of_eo e_assign ?_
          refine ⟨trivial,?_⟩
          refine RW.done<|PO.blockN<|PO.next<|WP.reg<|WL.e e_move<|WL.e (e_add (c:=((i+1:Nat):Int)) rfl rfl (by rw [w_i64 (by omega) (by omega)];omega))<|WL.e e_assign<|WL.nil ?_
          exact PO.againK (i+1,false,decide (o.x.num < t.x.num)) ⟨by simp only;omega,by simp only;rw [rOth_snoc hx];rw [← Bool.or_assoc,← hv6];simp [f1,f2],by simp only;rw [rOth_snoc hx];rw [← hv7];simp [f5,d1,d2]⟩ (by simp only;omega)
      ·skip
       refine WP.skip<|PO.blockN<|PO.next<|WP.reg<|WL.e e_move<|WL.e (e_add (c:=((i+1:Nat):Int)) rfl rfl (by rw [w_i64 (by omega) (by omega)];omega))<|WL.e e_assign<|WL.nil ?_
       exact PO.againK (i+1,v6,v7) ⟨by simp only;omega,by simp only;rw [rOth_snoc hx];rw [← Bool.or_assoc,← hv6];simp [d2],by simp only;rw [rOth_snoc hx];rw [← hv7];simp [d2]⟩ (by simp only;omega)
     ·replace d1:o.id=t.id:=by simpa [eqOp] using d1
      refine WL.skip<|WL.skip<|WL.skip<|WL.e e_pick_f<|WL.next<|WP.cond_f rfl<|WP.skip<|PO.blockN<|PO.next<|WP.reg<|WL.e e_move<|WL.e (e_add (c:=((i+1:Nat):Int)) rfl rfl (by rw [w_i64 (by omega) (by omega)];omega))<|WL.e e_assign<|WL.nil ?_
      exact PO.againK (i+1,v6,v7) ⟨by simp only;omega,by simp only;rw [rOth_snoc hx];rw [← Bool.or_assoc,← hv6];simp [d1],by simp only;rw [rOth_snoc hx];rw [← hv7];simp [d1]⟩ (by simp only;omega)
    ·rw [List.take_of_length_le (show s.txs.length≤i by simp at h5;omega)] at hv6 hv7
     refine WP.exit<|PO.past nofun<|PO.round nofun<|PO.blockX<|PO.next<|WP.seq<|WP.seq<|WP.reg<|WL.e e_move<|WL.next ?_
     refine WP.cond rfl (fun k1=>?_) (fun k1=>?_)
     ·replace k1:rAborts s t (spanOf x) (writes x)=true:=by rw [rAborts,← hv5,← hv6];exact k1
      rw [show rDo s n x=.err (rEnds s n) 9 by rw [rDo,if_pos h1,hf];dsimp only;rw [if_pos k1]] at hK
      refine WP.cls (A:=Rf p (s)) (B:=[cl p 104 [u.v,w.v,.int .u32 (s.last).toNat,.int .u32 (s.kept).toNat,lk.v,lv.v],A,Sl 143 3 lokC (lk.v) (s.looks),Sl 107 1 ptC (lv.v) (s.txs),Rts 110 123 s.txs]) (fun S h=>⟨⟨A,u,w,lk,lv,hu,hw⟩,h⟩) ?_
      refine WP.seq<|WP.reg<|WL.e e_move<|WL.e e_move ?_
      refine WL.h (h_call (rEnds_spec (s:=s) n hf hs.ids.nodup (by omega)) k48 ?_)
      refine WL.next<|WP.seq<|WP.reg<|WL.e (e_build z61 p61 (.z (.slice none 0 0)<|.n)) ?_
      refine WL.h' (h_store s61 ?_)
      refine WL.e e_assign<|WL.next<|WP.ret<|PO.past nofun ?_
      exact PO.fin Tryz.results18 (rv_cellN a61 (rv_tmp rv_nil)) hK
     ·replace k1:¬ rAborts s t (spanOf x) (writes x)=true:=by rw [rAborts,← hv5,← hv6,k1];simp
      refine WP.skip<|PO.next<|WP.seq<|WP.seq<|WP.reg<|WL.e e_move<|WL.next ?_
      refine WP.cond rfl (fun k2=>?_) (fun k2=>?_)
      ·replace k2:rWaits s t (spanOf x)=true:=by rw [rWaits,← hv7];exact k2
       rw [show rDo s n x=.err s 8 by rw [rDo,if_pos h1,hf];dsimp only;rw [if_neg k1,if_pos k2]] at hK
       refine WP.seq<|WP.reg<|WL.e (e_build z61 p61 (.z (.slice none 0 0)<|.n)) ?_
       refine WL.h' (h_store s61 ?_)
       refine WL.e e_assign<|WL.next<|WP.ret<|PO.past nofun<|PO.cls (A:=Rf p (s)) (B:=[cl p 104 [u.v,w.v,.int .u32 (s.last).toNat,.int .u32 (s.kept).toNat,lk.v,lv.v],A,Sl 143 3 lokC (lk.v) (s.looks),Sl 107 1 ptC (lv.v) (s.txs),Rts 110 123 s.txs]) (fun S h=>⟨⟨A,u,w,lk,lv,hu,hw⟩,h⟩) ?_
       exact PO.fin Tryz.results18 (rv_cellN a61 (rv_tmp rv_nil)) hK
      ·replace k2:¬ rWaits s t (spanOf x)=true:=by rw [rWaits,← hv7,k2];simp
       refine WP.skip<|PO.next<|WP.seq<|WP.seq<|WP.reg<|WL.e e_move<|WL.e e_not<|WL.next ?_
       refine WP.cond rfl (fun k3=>?_) (fun k3=>?_)
       ·replace k3:writes x=false:=by simpa using k3
        rw [show rDo s n x=.look t by rw [rDo,if_pos h1,hf];dsimp only;rw [if_neg k1,if_neg k2,if_neg (by simp [k3])]] at hK
        refine WP.draws mixedOk 16<|RW.e 0 rfl e_move<|RW.e 1 rfl e_move<|RW.e 2 rfl e_nil<|RW.e 3 rfl (e_fa f104_4)<|RW.e 4 rfl (e_load a101)<|RW.e 5 rfl (e_loadN a132)<|RW.e 6 rfl e_move<|RW.e 7 rfl e_nil<|RW.e 8 rfl (e_fa f110_1)<|RW.e 9 rfl (e_load_rd (k:=1) a48 rfl (rt_rd (T:=110) (E:=123) ht) rfl)<|RW.e 10 rfl (e_build z143 p143 (.a2 (.tmp 144) rfl<|.o (.tmp 148) rfl<|.n)) ?_
        refine RW.any (is:=[11]) rfl ⟨?_,trivial⟩
        refine RWat.h rfl rfl rfl ?_
        refine (h_bs sl101 z143 (.a3 (.tmp 149) rfl<|.n) fun b4=>?_)
        refine ⟨⟨⟨_,rfl,.inl ⟨rfl,(e_load a101)⟩⟩,⟨_,rfl,.inl ⟨rfl,(e_fa f104_4)⟩⟩,⟨_,rfl,.inl ⟨rfl,e_nil⟩⟩,⟨_,rfl,.inl ⟨rfl,e_move⟩⟩,⟨_,rfl,.inl ⟨rfl,e_move⟩⟩,trivial⟩,?_⟩
        refine RW.any (is:=[12]) rfl ⟨?_,trivial⟩
        refine RWat.h rfl rfl rfl ?_
        refine (hl_append (xs:=s.looks) sl101 lkE z143 (lit_rl lkE [(spanOf x,t.x.num)] rfl) (by simp;omega) fun a4 m4 c4=>?_)
        refine ⟨⟨⟨_,rfl,.inl ⟨rfl,e_move⟩⟩,trivial⟩,?_⟩
        refine RW.e 13 rfl e_nil<|RW.e 14 rfl (e_fa f104_4) ?_
        refine RW.any (is:=[15]) rfl ⟨?_,trivial⟩
        refine RWat.h' rfl rfl rfl ?_
        refine (h_store s101 ?_)
        refine ⟨trivial,?_⟩
        refine RW.done<|PO.next<|WP.seq<|WP.draws mixedOk 17<|RW.e 0 rfl e_move<|RW.e 1 rfl e_nil<|RW.e 2 rfl (e_fa f104_0)<|RW.e 3 rfl (e_load a59)<|RW.e 4 rfl e_move<|RW.e 5 rfl e_nil<|RW.e 6 rfl (e_fa f110_2)<|RW.e 7 rfl (e_load_rd (k:=2) a96 rfl (rt_rd (T:=110) (E:=123) ht) rfl)<|RW.e 9 rfl (e_loadN a51) ?_
        refine RW.any (is:=[8,14]) rfl ⟨?_,?_,trivial⟩
        ·skip
         refine RWat.h rfl rfl rfl ?_
         refine (h_call (rOwn_spec hu (own_rl (T:=110) (E:=123) ht) (by omega)) k46 ?_)
         intro a1 m1 c1 B1 hG1 hR1
         obtain ⟨hrr,_⟩:=changeR_rising t.x.own hr
         refine ⟨⟨⟨_,rfl,.inl ⟨rfl,(e_loadN a51)⟩⟩,trivial⟩,?_⟩
         refine RW.any (is:=[10,14]) rfl ⟨?_,?_,trivial⟩
         ·skip
          refine RWat.h rfl rfl rfl ?_
          refine (h_call (rDoes_spec x hR1 (by have:=changeR_len t.x.own s.rows;omega) (changeR_sz hown hs.krows) h1) k64 ?_)
          intro a5 m5 c5 a6 m6 c6 hz
          rw [rRes_r hrr h1 k3,show rChs x=[] by rw [rChs,if_neg (by simp [k3])]]
          refine ⟨trivial,?_⟩
          refine RW.e 11 rfl e_move<|RW.e 12 rfl e_extract<|RW.e 13 rfl e_extract ?_
          refine RW.any (is:=[14]) rfl ⟨?_,trivial⟩
          refine RWat.h rfl rfl rfl ?_
          refine (h_alloc z61 fun b5=>?_)
          refine ⟨⟨⟨_,rfl,.inl ⟨rfl,e_extract⟩⟩,⟨_,rfl,.inl ⟨rfl,e_extract⟩⟩,⟨_,rfl,.inl ⟨rfl,e_move⟩⟩,trivial⟩,?_⟩
          refine RW.any (is:=[15]) rfl ⟨?_,trivial⟩
          refine RWat.h' rfl rfl rfl ?_
          refine (h_store s61 ?_)
          refine ⟨⟨⟨_,rfl,.inl ⟨rfl,e_extract⟩⟩,trivial⟩,?_⟩
          refine RW.e 16 rfl e_assign<|RW.done<|PO.next<|WP.seq<|WP.reg<|WL.e e_move<|WL.e e_move<|WL.e e_nil<|WL.e (e_fa f110_2)<|WL.e (e_load_rd (k:=2) a96 rfl (rt_rd (T:=110) (E:=123) ht) rfl)<|WL.e e_move<|WL.opn (TxsU_out (TP:=RtP 110 123) e) fun _=>?_
          refine WL.h (hl_append (xs:=t.x.own) sl96 chgE z123 (sl_rl (E:=123) (xs:=([]:List ChgM))) (by simp;omega) fun a7 m7 c7=>?_)
          rw [List.append_nil]
          refine WL.e e_nil<|WL.e (e_fa f110_2) ?_
          refine WL.h' (h_store s96 ?_)
          refine WL.next<|WP.seq<|WP.reg<|WL.e (e_loadN a61) ?_
          refine WL.h' (h_store s61 ?_)
          refine WL.e e_assign<|WL.next<|WP.ret ?_
          have hset:setU s.txs t.id ⟨t.x.num,t.x.own,⟨a7,m7,c7⟩⟩=X++({ t with x:=⟨t.x.num,t.x.own,⟨a7,m7,c7⟩⟩ }:TxU UInt32 RtD)::Y:=by rw [e];exact setU_mid (e ▸ hs.ids.nodup) _
          have hpt:Sl 107 1 ptC (lv.v) (s.txs)=Sl 107 1 ptC (lv.v) (X++({ t with x:=⟨t.x.num,t.x.own,⟨a7,m7,c7⟩⟩ }:TxU UInt32 RtD)::Y):=by rw [e];simp [Sl,ptC]
          rw [hpt]
          refine PO.cls (A:=Rts 110 123 (X++({ t with x:=⟨t.x.num,t.x.own,⟨a7,m7,c7⟩⟩ }:TxU UInt32 RtD)::Y)) (B:=[cl t.q 110 [.int .u32 t.id.toNat,.int .u32 t.x.num.toNat,.slice a7 m7 c7],Sl 123 3 ChgM.c (.slice a7 m7 c7) (t.x.own),Rts 110 123 (X++Y)]) (fun S h=>TxsU_in (t:=({ t with x:=⟨t.x.num,t.x.own,⟨a7,m7,c7⟩⟩ }:TxU UInt32 RtD)) S h) ?_
          have hK:=hK ⟨a7,m7,c7⟩ a5 m5 c5
          rw [rLook,hset] at hK
          refine PO.cls (A:=Rf p ({ s with looks:=s.looks++[(spanOf x,t.x.num)],txs:=X++({ t with x:=⟨t.x.num,t.x.own,⟨a7,m7,c7⟩⟩ }:TxU UInt32 RtD)::Y })) (B:=[cl p 104 [u.v,w.v,.int .u32 (s.last).toNat,.int .u32 (s.kept).toNat,.slice a4 m4 c4,lv.v],B1,Sl 143 3 lokC (.slice a4 m4 c4) (s.looks++[(spanOf x,t.x.num)]),Sl 107 1 ptC (lv.v) (X++({ t with x:=⟨t.x.num,t.x.own,⟨a7,m7,c7⟩⟩ }:TxU UInt32 RtD)::Y),Rts 110 123 (X++({ t with x:=⟨t.x.num,t.x.own,⟨a7,m7,c7⟩⟩ }:TxU UInt32 RtD)::Y)]) (fun S h=>⟨⟨B1,u,w,⟨a4,m4,c4⟩,lv,hu.ge hG1,hw.ge hG1⟩,h⟩) ?_
          exact PO.fin Tryz.results18 (rv_cellN a61 (rv_tmp rv_nil)) hK
         ·skip
          refine RWat.h rfl rfl rfl ?_
          refine (h_alloc z61 fun b6=>?_)
          refine ⟨⟨⟨_,rfl,.inl ⟨rfl,(e_loadN a51)⟩⟩,trivial⟩,?_⟩
          refine RW.any (is:=[10]) rfl ⟨?_,trivial⟩
          refine RWat.h rfl rfl rfl ?_
          refine (h_call (rDoes_spec x hR1 (by have:=changeR_len t.x.own s.rows;omega) (changeR_sz hown hs.krows) h1) k64 ?_)
          intro a5 m5 c5 a6 m6 c6 hz
          rw [rRes_r hrr h1 k3,show rChs x=[] by rw [rChs,if_neg (by simp [k3])]]
          refine ⟨trivial,?_⟩
          refine RW.e 11 rfl e_move<|RW.e 12 rfl e_extract<|RW.e 13 rfl e_extract ?_
          refine RW.any (is:=[15]) rfl ⟨?_,trivial⟩
          refine RWat.h' rfl rfl rfl ?_
          refine (h_store s61 ?_)
          refine ⟨⟨⟨_,rfl,.inl ⟨rfl,e_extract⟩⟩,trivial⟩,?_⟩
          refine RW.e 16 rfl e_assign<|RW.done<|PO.next<|WP.seq<|WP.reg<|WL.e e_move<|WL.e e_move<|WL.e e_nil<|WL.e (e_fa f110_2)<|WL.e (e_load_rd (k:=2) a96 rfl (rt_rd (T:=110) (E:=123) ht) rfl)<|WL.e e_move<|WL.opn (TxsU_out (TP:=RtP 110 123) e) fun _=>?_
          refine WL.h (hl_append (xs:=t.x.own) sl96 chgE z123 (sl_rl (E:=123) (xs:=([]:List ChgM))) (by simp;omega) fun a7 m7 c7=>?_)
          rw [List.append_nil]
          refine WL.e e_nil<|WL.e (e_fa f110_2) ?_
          refine WL.h' (h_store s96 ?_)
          refine WL.next<|WP.seq<|WP.reg<|WL.e (e_loadN a61) ?_
          refine WL.h' (h_store s61 ?_)
          refine WL.e e_assign<|WL.next<|WP.ret ?_
          have hset:setU s.txs t.id ⟨t.x.num,t.x.own,⟨a7,m7,c7⟩⟩=X++({ t with x:=⟨t.x.num,t.x.own,⟨a7,m7,c7⟩⟩ }:TxU UInt32 RtD)::Y:=by rw [e];exact setU_mid (e ▸ hs.ids.nodup) _
          have hpt:Sl 107 1 ptC (lv.v) (s.txs)=Sl 107 1 ptC (lv.v) (X++({ t with x:=⟨t.x.num,t.x.own,⟨a7,m7,c7⟩⟩ }:TxU UInt32 RtD)::Y):=by rw [e];simp [Sl,ptC]
          rw [hpt]
          refine PO.cls (A:=Rts 110 123 (X++({ t with x:=⟨t.x.num,t.x.own,⟨a7,m7,c7⟩⟩ }:TxU UInt32 RtD)::Y)) (B:=[cl t.q 110 [.int .u32 t.id.toNat,.int .u32 t.x.num.toNat,.slice a7 m7 c7],Sl 123 3 ChgM.c (.slice a7 m7 c7) (t.x.own),Rts 110 123 (X++Y)]) (fun S h=>TxsU_in (t:=({ t with x:=⟨t.x.num,t.x.own,⟨a7,m7,c7⟩⟩ }:TxU UInt32 RtD)) S h) ?_
          have hK:=hK ⟨a7,m7,c7⟩ a5 m5 c5
          rw [rLook,hset] at hK
          refine PO.cls (A:=Rf p ({ s with looks:=s.looks++[(spanOf x,t.x.num)],txs:=X++({ t with x:=⟨t.x.num,t.x.own,⟨a7,m7,c7⟩⟩ }:TxU UInt32 RtD)::Y })) (B:=[cl p 104 [u.v,w.v,.int .u32 (s.last).toNat,.int .u32 (s.kept).toNat,.slice a4 m4 c4,lv.v],B1,Sl 143 3 lokC (.slice a4 m4 c4) (s.looks++[(spanOf x,t.x.num)]),Sl 107 1 ptC (lv.v) (X++({ t with x:=⟨t.x.num,t.x.own,⟨a7,m7,c7⟩⟩ }:TxU UInt32 RtD)::Y),Rts 110 123 (X++({ t with x:=⟨t.x.num,t.x.own,⟨a7,m7,c7⟩⟩ }:TxU UInt32 RtD)::Y)]) (fun S h=>⟨⟨B1,u,w,⟨a4,m4,c4⟩,lv,hu.ge hG1,hw.ge hG1⟩,h⟩) ?_
          exact PO.fin Tryz.results18 (rv_cellN a61 (rv_tmp rv_nil)) hK
        ·skip
         refine RWat.h rfl rfl rfl ?_
         refine (h_alloc z61 fun b7=>?_)
         refine ⟨⟨⟨_,rfl,.inl ⟨rfl,(e_loadN a51)⟩⟩,⟨_,rfl,.inl ⟨rfl,(e_load_rd (k:=2) a96 rfl (rt_rd (T:=110) (E:=123) ht) rfl)⟩⟩,⟨_,rfl,.inl ⟨rfl,(e_fa f110_2)⟩⟩,⟨_,rfl,.inl ⟨rfl,e_nil⟩⟩,⟨_,rfl,.inl ⟨rfl,e_move⟩⟩,⟨_,rfl,.inl ⟨rfl,(e_load a59)⟩⟩,⟨_,rfl,.inl ⟨rfl,(e_fa f104_0)⟩⟩,⟨_,rfl,.inl ⟨rfl,e_nil⟩⟩,⟨_,rfl,.inl ⟨rfl,e_move⟩⟩,trivial⟩,?_⟩
         refine RW.any (is:=[8]) rfl ⟨?_,trivial⟩
         refine RWat.h rfl rfl rfl ?_
         refine (h_call (rOwn_spec hu (own_rl (T:=110) (E:=123) ht) (by omega)) k46 ?_)
         intro a1 m1 c1 B1 hG1 hR1
         obtain ⟨hrr,_⟩:=changeR_rising t.x.own hr
         refine ⟨⟨⟨_,rfl,.inl ⟨rfl,(e_loadN a51)⟩⟩,trivial⟩,?_⟩
         refine RW.any (is:=[10]) rfl ⟨?_,trivial⟩
         refine RWat.h rfl rfl rfl ?_
         refine (h_call (rDoes_spec x hR1 (by have:=changeR_len t.x.own s.rows;omega) (changeR_sz hown hs.krows) h1) k64 ?_)
         intro a5 m5 c5 a6 m6 c6 hz
         rw [rRes_r hrr h1 k3,show rChs x=[] by rw [rChs,if_neg (by simp [k3])]]
         refine ⟨trivial,?_⟩
         refine RW.e 11 rfl e_move<|RW.e 12 rfl e_extract<|RW.e 13 rfl e_extract ?_
         refine RW.any (is:=[15]) rfl ⟨?_,trivial⟩
         refine RWat.h' rfl rfl rfl ?_
         refine (h_store s61 ?_)
         refine ⟨⟨⟨_,rfl,.inl ⟨rfl,e_extract⟩⟩,trivial⟩,?_⟩
         refine RW.e 16 rfl e_assign<|RW.done<|PO.next<|WP.seq<|WP.reg<|WL.e e_move<|WL.e e_move<|WL.e e_nil<|WL.e (e_fa f110_2)<|WL.e (e_load_rd (k:=2) a96 rfl (rt_rd (T:=110) (E:=123) ht) rfl)<|WL.e e_move<|WL.opn (TxsU_out (TP:=RtP 110 123) e) fun _=>?_
         refine WL.h (hl_append (xs:=t.x.own) sl96 chgE z123 (sl_rl (E:=123) (xs:=([]:List ChgM))) (by simp;omega) fun a7 m7 c7=>?_)
         rw [List.append_nil]
         refine WL.e e_nil<|WL.e (e_fa f110_2) ?_
         refine WL.h' (h_store s96 ?_)
         refine WL.next<|WP.seq<|WP.reg<|WL.e (e_loadN a61) ?_
         refine WL.h' (h_store s61 ?_)
         refine WL.e e_assign<|WL.next<|WP.ret ?_
         have hset:setU s.txs t.id ⟨t.x.num,t.x.own,⟨a7,m7,c7⟩⟩=X++({ t with x:=⟨t.x.num,t.x.own,⟨a7,m7,c7⟩⟩ }:TxU UInt32 RtD)::Y:=by rw [e];exact setU_mid (e ▸ hs.ids.nodup) _
         have hpt:Sl 107 1 ptC (lv.v) (s.txs)=Sl 107 1 ptC (lv.v) (X++({ t with x:=⟨t.x.num,t.x.own,⟨a7,m7,c7⟩⟩ }:TxU UInt32 RtD)::Y):=by rw [e];simp [Sl,ptC]
         rw [hpt]
         refine PO.cls (A:=Rts 110 123 (X++({ t with x:=⟨t.x.num,t.x.own,⟨a7,m7,c7⟩⟩ }:TxU UInt32 RtD)::Y)) (B:=[cl t.q 110 [.int .u32 t.id.toNat,.int .u32 t.x.num.toNat,.slice a7 m7 c7],Sl 123 3 ChgM.c (.slice a7 m7 c7) (t.x.own),Rts 110 123 (X++Y)]) (fun S h=>TxsU_in (t:=({ t with x:=⟨t.x.num,t.x.own,⟨a7,m7,c7⟩⟩ }:TxU UInt32 RtD)) S h) ?_
         have hK:=hK ⟨a7,m7,c7⟩ a5 m5 c5
         rw [rLook,hset] at hK
         refine PO.cls (A:=Rf p ({ s with looks:=s.looks++[(spanOf x,t.x.num)],txs:=X++({ t with x:=⟨t.x.num,t.x.own,⟨a7,m7,c7⟩⟩ }:TxU UInt32 RtD)::Y })) (B:=[cl p 104 [u.v,w.v,.int .u32 (s.last).toNat,.int .u32 (s.kept).toNat,.slice a4 m4 c4,lv.v],B1,Sl 143 3 lokC (.slice a4 m4 c4) (s.looks++[(spanOf x,t.x.num)]),Sl 107 1 ptC (lv.v) (X++({ t with x:=⟨t.x.num,t.x.own,⟨a7,m7,c7⟩⟩ }:TxU UInt32 RtD)::Y),Rts 110 123 (X++({ t with x:=⟨t.x.num,t.x.own,⟨a7,m7,c7⟩⟩ }:TxU UInt32 RtD)::Y)]) (fun S h=>⟨⟨B1,u,w,⟨a4,m4,c4⟩,lv,hu.ge hG1,hw.ge hG1⟩,h⟩) ?_
         exact PO.fin Tryz.results18 (rv_cellN a61 (rv_tmp rv_nil)) hK
       ·replace k3:writes x=true:=by simpa using k3
        rw [show rDo s n x=.put t (chgOf x) by rw [rDo,if_pos h1,hf];dsimp only;rw [if_neg k1,if_neg k2,if_pos k3]] at hK
        refine WP.skip<|PO.next<|WP.seq<|WP.draws mixedOk 17<|RW.e 0 rfl e_move<|RW.e 1 rfl e_nil<|RW.e 2 rfl (e_fa f104_0)<|RW.e 3 rfl (e_load a59)<|RW.e 4 rfl e_move<|RW.e 5 rfl e_nil<|RW.e 6 rfl (e_fa f110_2)<|RW.e 7 rfl (e_load_rd (k:=2) a96 rfl (rt_rd (T:=110) (E:=123) ht) rfl)<|RW.e 9 rfl (e_loadN a51) ?_
        refine RW.any (is:=[8,14]) rfl ⟨?_,?_,trivial⟩
        ·skip
         refine RWat.h rfl rfl rfl ?_
         refine (h_call (rOwn_spec hu (own_rl (T:=110) (E:=123) ht) (by omega)) k46 ?_)
         intro a1 m1 c1 B1 hG1 hR1
         obtain ⟨hrr,_⟩:=changeR_rising t.x.own hr
         refine ⟨⟨⟨_,rfl,.inl ⟨rfl,(e_loadN a51)⟩⟩,trivial⟩,?_⟩
         refine RW.any (is:=[10,14]) rfl ⟨?_,?_,trivial⟩
         ·skip
          refine RWat.h rfl rfl rfl ?_
          refine (h_call (rDoes_spec x hR1 (by have:=changeR_len t.x.own s.rows;omega) (changeR_sz hown hs.krows) h1) k64 ?_)
          intro a5 m5 c5 a6 m6 c6 hz
          obtain ⟨rfl,rfl,rfl⟩:=hz k3
          rw [rRes_w k3,show rChs x=[chgOf x] by rw [rChs,if_pos k3]]
          refine ⟨trivial,?_⟩
          refine RW.e 11 rfl e_move<|RW.e 12 rfl e_extract<|RW.e 13 rfl e_extract ?_
          refine RW.any (is:=[14]) rfl ⟨?_,trivial⟩
          refine RWat.h rfl rfl rfl ?_
          refine (h_alloc z61 fun b8=>?_)
          refine ⟨⟨⟨_,rfl,.inl ⟨rfl,e_extract⟩⟩,⟨_,rfl,.inl ⟨rfl,e_extract⟩⟩,⟨_,rfl,.inl ⟨rfl,e_move⟩⟩,trivial⟩,?_⟩
          refine RW.any (is:=[15]) rfl ⟨?_,trivial⟩
          refine RWat.h' rfl rfl rfl ?_
          refine (h_store s61 ?_)
          refine ⟨⟨⟨_,rfl,.inl ⟨rfl,e_extract⟩⟩,trivial⟩,?_⟩
          refine RW.e 16 rfl e_assign<|RW.done<|PO.next<|WP.seq<|WP.reg<|WL.e e_move<|WL.e e_move<|WL.e e_nil<|WL.e (e_fa f110_2)<|WL.e (e_load_rd (k:=2) a96 rfl (rt_rd (T:=110) (E:=123) ht) rfl)<|WL.e e_move<|WL.opn (TxsU_out (TP:=RtP 110 123) e) fun _=>?_
          refine WL.h (hl_append (xs:=t.x.own) sl96 chgE z123 (sl_rl (E:=123) (xs:=[chgOf x])) (by simp;omega) fun a7 m7 c7=>?_)
          refine WL.e e_nil<|WL.e (e_fa f110_2) ?_
          refine WL.h' (h_store s96 ?_)
          refine WL.next<|WP.seq<|WP.reg<|WL.e (e_loadN a61) ?_
          refine WL.h' (h_store s61 ?_)
          refine WL.e e_assign<|WL.next<|WP.ret ?_
          have hset:setU s.txs t.id ⟨t.x.num,t.x.own++[chgOf x],⟨a7,m7,c7⟩⟩=X++({ t with x:=⟨t.x.num,t.x.own++[chgOf x],⟨a7,m7,c7⟩⟩ }:TxU UInt32 RtD)::Y:=by rw [e];exact setU_mid (e ▸ hs.ids.nodup) _
          have hpt:Sl 107 1 ptC (lv.v) (s.txs)=Sl 107 1 ptC (lv.v) (X++({ t with x:=⟨t.x.num,t.x.own++[chgOf x],⟨a7,m7,c7⟩⟩ }:TxU UInt32 RtD)::Y):=by rw [e];simp [Sl,ptC]
          rw [hpt]
          refine PO.cls (A:=Rts 110 123 (X++({ t with x:=⟨t.x.num,t.x.own++[chgOf x],⟨a7,m7,c7⟩⟩ }:TxU UInt32 RtD)::Y)) (B:=[cl t.q 110 [.int .u32 t.id.toNat,.int .u32 t.x.num.toNat,.slice a7 m7 c7],Sl 123 3 ChgM.c (.slice a7 m7 c7) (t.x.own++[chgOf x]),Rts 110 123 (X++Y)]) (fun S h=>TxsU_in (t:=({ t with x:=⟨t.x.num,t.x.own++[chgOf x],⟨a7,m7,c7⟩⟩ }:TxU UInt32 RtD)) S h) ?_
          have hK:=hK ⟨a7,m7,c7⟩
          rw [rPut,hset] at hK
          refine PO.cls (A:=Rf p ({ s with txs:=X++({ t with x:=⟨t.x.num,t.x.own++[chgOf x],⟨a7,m7,c7⟩⟩ }:TxU UInt32 RtD)::Y })) (B:=[cl p 104 [u.v,w.v,.int .u32 (s.last).toNat,.int .u32 (s.kept).toNat,lk.v,lv.v],B1,Sl 143 3 lokC (lk.v) (s.looks),Sl 107 1 ptC (lv.v) (X++({ t with x:=⟨t.x.num,t.x.own++[chgOf x],⟨a7,m7,c7⟩⟩ }:TxU UInt32 RtD)::Y),Rts 110 123 (X++({ t with x:=⟨t.x.num,t.x.own++[chgOf x],⟨a7,m7,c7⟩⟩ }:TxU UInt32 RtD)::Y)]) (fun S h=>⟨⟨B1,u,w,lk,lv,hu.ge hG1,hw.ge hG1⟩,h⟩) ?_
          exact PO.fin Tryz.results18 (rv_cellN a61 (rv_tmp rv_nil)) hK
         ·skip
          refine RWat.h rfl rfl rfl ?_
          refine (h_alloc z61 fun b9=>?_)
          refine ⟨⟨⟨_,rfl,.inl ⟨rfl,(e_loadN a51)⟩⟩,trivial⟩,?_⟩
          refine RW.any (is:=[10]) rfl ⟨?_,trivial⟩
          refine RWat.h rfl rfl rfl ?_
          refine (h_call (rDoes_spec x hR1 (by have:=changeR_len t.x.own s.rows;omega) (changeR_sz hown hs.krows) h1) k64 ?_)
          intro a5 m5 c5 a6 m6 c6 hz
          obtain ⟨rfl,rfl,rfl⟩:=hz k3
          rw [rRes_w k3,show rChs x=[chgOf x] by rw [rChs,if_pos k3]]
          refine ⟨trivial,?_⟩
          refine RW.e 11 rfl e_move<|RW.e 12 rfl e_extract<|RW.e 13 rfl e_extract ?_
          refine RW.any (is:=[15]) rfl ⟨?_,trivial⟩
          refine RWat.h' rfl rfl rfl ?_
          refine (h_store s61 ?_)
          refine ⟨⟨⟨_,rfl,.inl ⟨rfl,e_extract⟩⟩,trivial⟩,?_⟩
          refine RW.e 16 rfl e_assign<|RW.done<|PO.next<|WP.seq<|WP.reg<|WL.e e_move<|WL.e e_move<|WL.e e_nil<|WL.e (e_fa f110_2)<|WL.e (e_load_rd (k:=2) a96 rfl (rt_rd (T:=110) (E:=123) ht) rfl)<|WL.e e_move<|WL.opn (TxsU_out (TP:=RtP 110 123) e) fun _=>?_
          refine WL.h (hl_append (xs:=t.x.own) sl96 chgE z123 (sl_rl (E:=123) (xs:=[chgOf x])) (by simp;omega) fun a7 m7 c7=>?_)
          refine WL.e e_nil<|WL.e (e_fa f110_2) ?_
          refine WL.h' (h_store s96 ?_)
          refine WL.next<|WP.seq<|WP.reg<|WL.e (e_loadN a61) ?_
          refine WL.h' (h_store s61 ?_)
          refine WL.e e_assign<|WL.next<|WP.ret ?_
          have hset:setU s.txs t.id ⟨t.x.num,t.x.own++[chgOf x],⟨a7,m7,c7⟩⟩=X++({ t with x:=⟨t.x.num,t.x.own++[chgOf x],⟨a7,m7,c7⟩⟩ }:TxU UInt32 RtD)::Y:=by rw [e];exact setU_mid (e ▸ hs.ids.nodup) _
          have hpt:Sl 107 1 ptC (lv.v) (s.txs)=Sl 107 1 ptC (lv.v) (X++({ t with x:=⟨t.x.num,t.x.own++[chgOf x],⟨a7,m7,c7⟩⟩ }:TxU UInt32 RtD)::Y):=by rw [e];simp [Sl,ptC]
          rw [hpt]
          refine PO.cls (A:=Rts 110 123 (X++({ t with x:=⟨t.x.num,t.x.own++[chgOf x],⟨a7,m7,c7⟩⟩ }:TxU UInt32 RtD)::Y)) (B:=[cl t.q 110 [.int .u32 t.id.toNat,.int .u32 t.x.num.toNat,.slice a7 m7 c7],Sl 123 3 ChgM.c (.slice a7 m7 c7) (t.x.own++[chgOf x]),Rts 110 123 (X++Y)]) (fun S h=>TxsU_in (t:=({ t with x:=⟨t.x.num,t.x.own++[chgOf x],⟨a7,m7,c7⟩⟩ }:TxU UInt32 RtD)) S h) ?_
          have hK:=hK ⟨a7,m7,c7⟩
          rw [rPut,hset] at hK
          refine PO.cls (A:=Rf p ({ s with txs:=X++({ t with x:=⟨t.x.num,t.x.own++[chgOf x],⟨a7,m7,c7⟩⟩ }:TxU UInt32 RtD)::Y })) (B:=[cl p 104 [u.v,w.v,.int .u32 (s.last).toNat,.int .u32 (s.kept).toNat,lk.v,lv.v],B1,Sl 143 3 lokC (lk.v) (s.looks),Sl 107 1 ptC (lv.v) (X++({ t with x:=⟨t.x.num,t.x.own++[chgOf x],⟨a7,m7,c7⟩⟩ }:TxU UInt32 RtD)::Y),Rts 110 123 (X++({ t with x:=⟨t.x.num,t.x.own++[chgOf x],⟨a7,m7,c7⟩⟩ }:TxU UInt32 RtD)::Y)]) (fun S h=>⟨⟨B1,u,w,lk,lv,hu.ge hG1,hw.ge hG1⟩,h⟩) ?_
          exact PO.fin Tryz.results18 (rv_cellN a61 (rv_tmp rv_nil)) hK
        ·skip
         refine RWat.h rfl rfl rfl ?_
         refine (h_alloc z61 fun b10=>?_)
         refine ⟨⟨⟨_,rfl,.inl ⟨rfl,(e_loadN a51)⟩⟩,⟨_,rfl,.inl ⟨rfl,(e_load_rd (k:=2) a96 rfl (rt_rd (T:=110) (E:=123) ht) rfl)⟩⟩,⟨_,rfl,.inl ⟨rfl,(e_fa f110_2)⟩⟩,⟨_,rfl,.inl ⟨rfl,e_nil⟩⟩,⟨_,rfl,.inl ⟨rfl,e_move⟩⟩,⟨_,rfl,.inl ⟨rfl,(e_load a59)⟩⟩,⟨_,rfl,.inl ⟨rfl,(e_fa f104_0)⟩⟩,⟨_,rfl,.inl ⟨rfl,e_nil⟩⟩,⟨_,rfl,.inl ⟨rfl,e_move⟩⟩,trivial⟩,?_⟩
         refine RW.any (is:=[8]) rfl ⟨?_,trivial⟩
         refine RWat.h rfl rfl rfl ?_
         refine (h_call (rOwn_spec hu (own_rl (T:=110) (E:=123) ht) (by omega)) k46 ?_)
         intro a1 m1 c1 B1 hG1 hR1
         obtain ⟨hrr,_⟩:=changeR_rising t.x.own hr
         refine ⟨⟨⟨_,rfl,.inl ⟨rfl,(e_loadN a51)⟩⟩,trivial⟩,?_⟩
         refine RW.any (is:=[10]) rfl ⟨?_,trivial⟩
         refine RWat.h rfl rfl rfl ?_
         refine (h_call (rDoes_spec x hR1 (by have:=changeR_len t.x.own s.rows;omega) (changeR_sz hown hs.krows) h1) k64 ?_)
         intro a5 m5 c5 a6 m6 c6 hz
         obtain ⟨rfl,rfl,rfl⟩:=hz k3
         rw [rRes_w k3,show rChs x=[chgOf x] by rw [rChs,if_pos k3]]
         refine ⟨trivial,?_⟩
         refine RW.e 11 rfl e_move<|RW.e 12 rfl e_extract<|RW.e 13 rfl e_extract ?_
         refine RW.any (is:=[15]) rfl ⟨?_,trivial⟩
         refine RWat.h' rfl rfl rfl ?_
         refine (h_store s61 ?_)
         refine ⟨⟨⟨_,rfl,.inl ⟨rfl,e_extract⟩⟩,trivial⟩,?_⟩
         refine RW.e 16 rfl e_assign<|RW.done<|PO.next<|WP.seq<|WP.reg<|WL.e e_move<|WL.e e_move<|WL.e e_nil<|WL.e (e_fa f110_2)<|WL.e (e_load_rd (k:=2) a96 rfl (rt_rd (T:=110) (E:=123) ht) rfl)<|WL.e e_move<|WL.opn (TxsU_out (TP:=RtP 110 123) e) fun _=>?_
         refine WL.h (hl_append (xs:=t.x.own) sl96 chgE z123 (sl_rl (E:=123) (xs:=[chgOf x])) (by simp;omega) fun a7 m7 c7=>?_)
         refine WL.e e_nil<|WL.e (e_fa f110_2) ?_
         refine WL.h' (h_store s96 ?_)
         refine WL.next<|WP.seq<|WP.reg<|WL.e (e_loadN a61) ?_
         refine WL.h' (h_store s61 ?_)
         refine WL.e e_assign<|WL.next<|WP.ret ?_
         have hset:setU s.txs t.id ⟨t.x.num,t.x.own++[chgOf x],⟨a7,m7,c7⟩⟩=X++({ t with x:=⟨t.x.num,t.x.own++[chgOf x],⟨a7,m7,c7⟩⟩ }:TxU UInt32 RtD)::Y:=by rw [e];exact setU_mid (e ▸ hs.ids.nodup) _
         have hpt:Sl 107 1 ptC (lv.v) (s.txs)=Sl 107 1 ptC (lv.v) (X++({ t with x:=⟨t.x.num,t.x.own++[chgOf x],⟨a7,m7,c7⟩⟩ }:TxU UInt32 RtD)::Y):=by rw [e];simp [Sl,ptC]
         rw [hpt]
         refine PO.cls (A:=Rts 110 123 (X++({ t with x:=⟨t.x.num,t.x.own++[chgOf x],⟨a7,m7,c7⟩⟩ }:TxU UInt32 RtD)::Y)) (B:=[cl t.q 110 [.int .u32 t.id.toNat,.int .u32 t.x.num.toNat,.slice a7 m7 c7],Sl 123 3 ChgM.c (.slice a7 m7 c7) (t.x.own++[chgOf x]),Rts 110 123 (X++Y)]) (fun S h=>TxsU_in (t:=({ t with x:=⟨t.x.num,t.x.own++[chgOf x],⟨a7,m7,c7⟩⟩ }:TxU UInt32 RtD)) S h) ?_
         have hK:=hK ⟨a7,m7,c7⟩
         rw [rPut,hset] at hK
         refine PO.cls (A:=Rf p ({ s with txs:=X++({ t with x:=⟨t.x.num,t.x.own++[chgOf x],⟨a7,m7,c7⟩⟩ }:TxU UInt32 RtD)::Y })) (B:=[cl p 104 [u.v,w.v,.int .u32 (s.last).toNat,.int .u32 (s.kept).toNat,lk.v,lv.v],B1,Sl 143 3 lokC (lk.v) (s.looks),Sl 107 1 ptC (lv.v) (X++({ t with x:=⟨t.x.num,t.x.own++[chgOf x],⟨a7,m7,c7⟩⟩ }:TxU UInt32 RtD)::Y),Rts 110 123 (X++({ t with x:=⟨t.x.num,t.x.own++[chgOf x],⟨a7,m7,c7⟩⟩ }:TxU UInt32 RtD)::Y)]) (fun S h=>⟨⟨B1,u,w,lk,lv,hu.ge hG1,hw.ge hG1⟩,h⟩) ?_
         exact PO.fin Tryz.results18 (rv_cellN a61 (rv_tmp rv_nil)) hK
end Go.SL
