import Derived.Test.YtjllpjpokkmaiaaGreatDoorQB18
set_option linter.unusedSimpArgs false
set_option linter.unusedVariables false
namespace Go.SL.Fc
open Go Go.Proofs Go.SL
theorem k140:callable Tryz.prog 140=true:=by kernel_rfl
theorem k190:callable Tryz.prog 190=true:=by kernel_rfl
theorem k191:callable Tryz.prog 191=true:=by kernel_rfl
theorem k208:callable Tryz.prog 208=true:=by kernel_rfl
end Go.SL.Fc
namespace Go.SL
open Go Go.Proofs Fc
theorem rLess_spec {g:World} (a b:ByteArray) (ha:a.size≤9223372036854775807):Spec Tryz.prog g 208 [.string a,.string b] [] fun K R=>K (.bool (sLt a b)) R:=by
 refine Spec.intro Tryz.func208 rfl Tryz.ntmps208 rfl fun R K hK=>?_
 refine WP.seq<|WP.reg<|WL.e e_assign<|WL.next<|WP.seq<|WP.seq<|WP.reg<|WL.e e_assign<|WL.next<|WP.block<|WP.loopK (fun (i:Nat)=>[(5,.int .i64 i)]) (fun (i:Nat)=>R) [(0,_),(1,_)] (fun (i:Nat)=>i≤a.size∧i≤b.size∧a.toList.take i=b.toList.take i) (fun (i:Nat)=>a.size - i) 0 (⟨Nat.zero_le _,Nat.zero_le _,rfl⟩) ?_
 rintro i ⟨h1,h2,he⟩
 refine WP.seq<|WP.seq<|WP.reg<|WL.e e_move<|WL.e e_move<|WL.e (e_len_str Tryz.underlying9)<|WL.e e_lss<|WL.e e_move ?_
 refine WL.join 15 (.bool (decide (i < a.size∧i < b.size))) (.c (.c (.c (.c (.c .n))))) ?_ ?_
 ·refine WL.bool 10 rfl (fun hg=>?_) (fun hg=>?_)
  ·skip
   refine WL.e e_move<|WL.e e_move<|WL.e (e_len_str Tryz.underlying9)<|WL.e e_lss<|WL.e e_pick_t ?_
   exact WL.nil (PO.joined rfl (by simp at hg;simp [hg]))
  ·skip
   refine WL.skip<|WL.skip<|WL.skip<|WL.skip<|WL.e e_pick_f ?_
   exact WL.nil (PO.joined rfl (by simp at hg;simp;omega))
 refine WL.next ?_
 refine WP.cond rfl (fun h3=>?_) (fun h3=>?_)
 ·obtain ⟨h4,h5⟩:=of_decide_eq_true h3
  obtain ⟨x,hx⟩:∃ x,a[i]?=some x:=⟨_,getElem?_pos a i (by omega)⟩
  obtain ⟨y,hy⟩:∃ y,b[i]?=some y:=⟨_,getElem?_pos b i (by omega)⟩
  refine WP.skip<|PO.next<|WP.seq<|WP.block<|WP.seq<|WP.draws mixedOk 7<|RW.e 0 rfl e_move<|RW.e 1 rfl e_move<|RW.e 2 rfl (e_idxS (n:=i) (b:=x) Tryz.underlying9 (hb:=hx))<|RW.e 3 rfl e_move<|RW.e 4 rfl e_move<|RW.e 5 rfl (e_idxS (n:=i) (b:=y) Tryz.underlying9 (hb:=hy))<|RW.e 6 rfl (e_neq8)<|RW.done<|PO.next ?_
  refine WP.cond rfl (fun h6=>?_) (fun h6=>?_)
  ·replace h6:x≠y:=by simpa using h6
   refine WP.seq<|WP.draws mixedOk 8<|RW.e 0 rfl e_move<|RW.e 1 rfl e_move<|RW.e 2 rfl (e_idxS (n:=i) (b:=x) Tryz.underlying9 (hb:=hx))<|RW.e 3 rfl e_move<|RW.e 4 rfl e_move<|RW.e 5 rfl (e_idxS (n:=i) (b:=y) Tryz.underlying9 (hb:=hy))<|RW.e 6 rfl e_lss<|RW.e 7 rfl e_assign<|RW.done<|PO.next<|WP.ret<|PO.blockR<|PO.past nofun<|PO.round nofun<|PO.blockR<|PO.past nofun ?_
   exact PO.finE Tryz.results208 (rv_tmp rv_nil) (by rw [less_at he hx hy h6];simp [UInt8.lt_iff_toNat_lt]) hK
  ·obtain rfl:x=y:=by simpa using h6
   refine WP.skip<|PO.blockN<|PO.next<|WP.reg<|WL.e e_move<|WL.e (e_add (c:=((i+1:Nat):Int)) rfl rfl (by rw [w_i64 (by omega) (by omega)];omega))<|WL.e e_assign<|WL.nil ?_
   exact PO.againK (i+1) ⟨by omega,by omega,take_step he hx hy⟩ (by omega)
 ·replace h3:=of_decide_eq_false h3
  refine WP.exit<|PO.past nofun<|PO.round nofun<|PO.blockX<|PO.next<|WP.seq<|WP.reg<|WL.e e_move<|WL.e (e_len_str Tryz.underlying9)<|WL.e e_move<|WL.e (e_len_str Tryz.underlying9)<|WL.e e_lss<|WL.e e_assign<|WL.next<|WP.ret ?_
  exact PO.finE Tryz.results208 (rv_tmp rv_nil) (by rw [less_end he h1 h2 (by omega)];simp) hK
theorem rIn_spec {g:World} (k a b:ByteArray) (hk:k.size≤1000) (hb:b.size≤1000):Spec Tryz.prog g 191 [.string k,.string a,.string b] [] fun K R=>K (.bool (sIn k a b)) R:=by
 refine Spec.intro Tryz.func191 rfl Tryz.ntmps191 rfl fun R K hK=>?_
 refine WP.seq<|WP.reg<|WL.e e_assign<|WL.next<|WP.seq<|WP.reg<|WL.e e_move<|WL.e e_move ?_
 refine WL.h (h_call (rLess_spec k a (by omega)) k208 ?_)
 refine WL.e e_not<|WL.e e_move ?_
 refine WL.bool 11 rfl (fun g1=>?_) (fun g1=>?_)
 ·skip
  refine WL.e e_move<|WL.e e_move ?_
  refine WL.h (h_call (rLess_spec b k (by omega)) k208 ?_)
  refine WL.e e_not<|WL.e e_pick_t<|WL.e e_assign<|WL.next<|WP.ret ?_
  exact PO.finE Tryz.results191 (rv_tmp rv_nil) (by rw [sIn_lt,g1,Bool.true_and];rfl) hK
 ·skip
  refine WL.skip<|WL.skip<|WL.skip<|WL.skip<|WL.e e_pick_f<|WL.e e_assign<|WL.next<|WP.ret ?_
  exact PO.finE Tryz.results191 (rv_tmp rv_nil) (by rw [sIn_lt,g1,Bool.false_and];rfl) hK
theorem rHas_spec {g:World} (a:SpanM) (ha:a.b.size≤1000):Spec Tryz.prog g 190 [a.v] [] fun K R=>K (.bool (hasS a)) R:=by
 refine Spec.intro Tryz.func190 rfl Tryz.ntmps190 rfl fun R K hK=>?_
 refine WP.seq<|WP.reg ?_
 refine WL.h (h_box fun b1=>?_)
 refine WL.e e_assign<|WL.next<|WP.seq<|WP.reg<|WL.e (e_fa f110_1)<|WL.e (e_load a9)<|WL.e (e_fa f110_0)<|WL.e (e_load a9) ?_
 refine WL.h (h_call (rLess_spec a.b a.a (by omega)) k208 ?_)
 refine WL.e e_not<|WL.e e_assign<|WL.next<|WP.ret ?_
 exact PO.fin Tryz.results190 (rv_tmp rv_nil) hK
theorem rMeet_spec {g:World} (a b:SpanM) (ha:a.a.size≤1000∧a.b.size≤1000) (hb:b.a.size≤1000∧b.b.size≤1000):Spec Tryz.prog g 132 [a.v,b.v] [] fun K R=>K (.bool (meet a b)) R:=by
 refine Spec.intro Tryz.func132 rfl Tryz.ntmps132 rfl fun R K hK=>?_
 refine WP.seq<|WP.reg ?_
 refine WL.h (h_box fun b1=>?_)
 refine WL.h (h_box fun b2=>?_)
 refine WL.e e_assign<|WL.next<|WP.seq<|WP.reg<|WL.e (e_loadN a110) ?_
 refine WL.h (h_call (rHas_spec a ha.2) k190 ?_)
 refine WL.e e_move ?_
 refine WL.bool 7 rfl (fun g1=>?_) (fun g1=>?_)
 ·skip
  refine WL.e (e_loadN a110) ?_
  refine WL.h (h_call (rHas_spec b hb.2) k190 ?_)
  refine WL.e e_pick_t<|WL.e e_move ?_
  refine WL.bool 11 rfl (fun g2=>?_) (fun g2=>?_)
  ·skip
   refine WL.e (e_fa f110_0)<|WL.e (e_load a9)<|WL.e (e_fa f110_0)<|WL.e (e_load a9)<|WL.e (e_fa f110_1)<|WL.e (e_load a9) ?_
   refine WL.h (h_call (rIn_spec a.a b.a b.b ha.1 hb.2) k191 ?_)
   refine WL.e e_move ?_
   refine WL.bool 19 rfl (fun g3=>?_) (fun g3=>?_)
   ·skip
    refine WL.skip<|WL.skip<|WL.skip<|WL.skip<|WL.skip<|WL.skip<|WL.skip<|WL.e e_pick_t<|WL.e e_pick_t<|WL.e e_assign<|WL.next<|WP.ret ?_
    exact PO.finE Tryz.results132 (rv_tmp rv_nil) (by rw [← meet_ref,g1,g2,g3];rfl) hK
   ·skip
    refine WL.e (e_fa f110_0)<|WL.e (e_load a9)<|WL.e (e_fa f110_0)<|WL.e (e_load a9)<|WL.e (e_fa f110_1)<|WL.e (e_load a9) ?_
    refine WL.h (h_call (rIn_spec b.a a.a a.b hb.1 ha.2) k191 ?_)
    refine WL.e e_pick_f<|WL.e e_pick_t<|WL.e e_assign<|WL.next<|WP.ret ?_
    exact PO.finE Tryz.results132 (rv_tmp rv_nil) (by rw [← meet_ref,g1,g2,g3];rfl) hK
  ·skip
   refine WL.skip<|WL.skip<|WL.skip<|WL.skip<|WL.skip<|WL.skip<|WL.skip<|WL.skip<|WL.skip<|WL.skip<|WL.skip<|WL.skip<|WL.skip<|WL.skip<|WL.skip<|WL.skip<|WL.e e_pick_f<|WL.e e_assign<|WL.next<|WP.ret ?_
   exact PO.finE Tryz.results132 (rv_tmp rv_nil) (by rw [← meet_ref,g1,g2];rfl) hK
 ·skip
  refine WL.skip<|WL.skip<|WL.e e_pick_f<|WL.e e_move<|WL.skip<|WL.skip<|WL.skip<|WL.skip<|WL.skip<|WL.skip<|WL.skip<|WL.skip<|WL.skip<|WL.skip<|WL.skip<|WL.skip<|WL.skip<|WL.skip<|WL.skip<|WL.skip<|WL.e e_pick_f<|WL.e e_assign<|WL.next<|WP.ret ?_
  exact PO.finE Tryz.results132 (rv_tmp rv_nil) (by rw [← meet_ref,g1];rfl) hK
theorem rOf_spec {g:World} (x:OpM):Spec Tryz.prog g 59 [x.v] [] fun K R=>K (spanOf x).v R:=by
 refine Spec.intro Tryz.func59 rfl Tryz.ntmps59 rfl fun R K hK=>?_
 refine WP.seq<|WP.reg ?_
 refine WL.h (h_box fun b1=>?_)
 refine WL.h (h_alloc z110 fun b2=>?_)
 refine WL.next<|WP.seq<|WP.seq<|WP.reg<|WL.e (e_fa f51_0)<|WL.e (e_load a49)<|WL.e (e_eql8 (b:=4))<|WL.next ?_
 refine WP.cond rfl (fun h=>?_) (fun h=>?_)
 ·replace h:x.kind=4:=by simpa using h
  refine WP.seq<|WP.reg<|WL.e (e_fa f51_1)<|WL.e (e_load a9)<|WL.e (e_fa f51_2)<|WL.e (e_load a9)<|WL.e (e_build z110 p110 (.o (.tmp 7) rfl<|.o (.tmp 9) rfl<|.n)) ?_
  refine WL.h' (h_store s110 ?_)
  refine WL.next<|WP.ret<|PO.past nofun ?_
  exact PO.fin Tryz.results59 (rv_cellN a110 rv_nil) (by simpa [spanOf,h,SpanM.v] using hK)
 ·replace h:x.kind≠4:=by simpa using h
  refine WP.skip<|PO.next<|WP.seq<|WP.reg<|WL.e (e_fa f51_1)<|WL.e (e_load a9)<|WL.e (e_fa f51_1)<|WL.e (e_load a9)<|WL.e (e_build z110 p110 (.o (.tmp 12) rfl<|.o (.tmp 14) rfl<|.n)) ?_
  refine WL.h' (h_store s110 ?_)
  refine WL.next<|WP.ret ?_
  exact PO.fin Tryz.results59 (rv_cellN a110 rv_nil) (by simpa [spanOf,h,SpanM.v] using hK)
theorem rWrites_spec {g:World} (x:OpM):Spec Tryz.prog g 58 [x.v] [] fun K R=>K (.bool (writes x)) R:=by
 refine Spec.intro Tryz.func58 rfl Tryz.ntmps58 rfl fun R K hK=>?_
 refine WP.seq<|WP.reg ?_
 refine WL.h (h_box fun b1=>?_)
 refine WL.e e_assign<|WL.next<|WP.seq<|WP.reg<|WL.e (e_fa f51_0)<|WL.e (e_load a49)<|WL.e (e_eql8 (b:=2))<|WL.e e_move ?_
 refine WL.bool 6 rfl (fun g1=>?_) (fun g1=>?_)
 ·skip
  refine WL.skip<|WL.skip<|WL.skip<|WL.e e_pick_t<|WL.e e_assign<|WL.next<|WP.ret ?_
  exact PO.finE Tryz.results58 (rv_tmp rv_nil) (by simp at g1;simp [writes,g1]) hK
 ·skip
  refine WL.e (e_fa f51_0)<|WL.e (e_load a49)<|WL.e (e_eql8 (b:=3))<|WL.e e_pick_f<|WL.e e_assign<|WL.next<|WP.ret ?_
  exact PO.finE Tryz.results58 (rv_tmp rv_nil) (by simp at g1;simp [writes,g1]) hK
theorem rKey_spec {g:World} (s:ByteArray) (hs:s.size≤9223372036854775807):Spec Tryz.prog g 140 [.string s] [] fun K R=>K (.bool (keyOk s)) R:=by
 refine Spec.intro Tryz.func140 rfl Tryz.ntmps140 rfl fun R K hK=>?_
 refine WP.seq<|WP.reg<|WL.e e_assign<|WL.next<|WP.seq<|WP.seq<|WP.reg<|WL.e e_assign<|WL.next<|WP.block<|WP.loopK (fun (i:Nat)=>[(3,.int .i64 i)]) (fun (i:Nat)=>R) [(0,_)] (fun (i:Nat)=>i≤s.size∧(s.toList.take i).all keyByte=true) (fun (i:Nat)=>s.size - i) 0 (⟨Nat.zero_le _,rfl⟩) ?_
 rintro i ⟨hi,hb⟩
 refine WP.seq<|WP.seq<|WP.reg<|WL.e e_move<|WL.e e_move<|WL.e (e_len_str Tryz.underlying9)<|WL.e e_lss<|WL.next ?_
 refine WP.cond rfl (fun h3=>?_) (fun h3=>?_)
 ·replace h3:i < s.size:=by simp at h3;omega
  obtain ⟨c,hc⟩:∃ c,s[i]?=some c:=⟨_,getElem?_pos s i h3⟩
  refine WP.skip<|PO.next<|WP.seq<|WP.block<|WP.seq<|WP.reg<|WL.e e_move<|WL.e e_move<|WL.e (e_idxS (n:=i) (b:=c) Tryz.underlying9 (hb:=hc))<|WL.e e_assign<|WL.next<|WP.seq<|WP.reg<|WL.e e_move<|WL.e e_lss<|WL.e e_move ?_
  refine WL.join 19 (.bool ((decide ((c.toNat:Int) < 97) || decide ((c.toNat:Int) > 122)))) (.c (.c (.c .n))) ?_ ?_
  ·refine WL.bool 16 rfl (fun hg=>?_) (fun hg=>?_)
   ·skip
    refine WL.skip<|WL.skip<|WL.e e_pick_t ?_
    exact WL.nil (PO.joined rfl (by simp at hg;simp [hg]))
   ·skip
    refine WL.e e_move<|WL.e e_gtr<|WL.e e_pick_f ?_
    exact WL.nil (PO.joined rfl (by simp at hg;simp;omega))
  refine WL.e e_move ?_
  refine WL.bool 20 rfl (fun h6=>?_) (fun h6=>?_)
  ·skip
   refine WL.e e_move<|WL.e e_lss<|WL.e e_move ?_
   refine WL.join 26 (.bool ((decide ((c.toNat:Int) < 48) || decide ((c.toNat:Int) > 57)))) (.c (.c (.c .n))) ?_ ?_
   ·refine WL.bool 23 rfl (fun hg=>?_) (fun hg=>?_)
    ·skip
     refine WL.skip<|WL.skip<|WL.e e_pick_t ?_
     exact WL.nil (PO.joined rfl (by simp at hg;simp [hg]))
    ·skip
     refine WL.e e_move<|WL.e e_gtr<|WL.e e_pick_f ?_
     exact WL.nil (PO.joined rfl (by simp at hg;simp;omega))
   refine WL.e e_pick_t<|WL.e e_move ?_
   refine WL.bool 28 rfl (fun h14=>?_) (fun h14=>?_)
   ·skip
    refine WL.e e_move<|WL.e (e_neq8 (b:=95))<|WL.e e_pick_t<|WL.next ?_
    refine WP.cond rfl (fun h9=>?_) (fun h9=>?_)
    ·replace h9:c≠95:=by simpa using h9
     refine WP.seq<|WP.reg<|WL.e e_assign<|WL.next<|WP.ret<|PO.blockR<|PO.past nofun<|PO.round nofun<|PO.blockR<|PO.past nofun ?_
     exact PO.finE Tryz.results140 (rv_tmp rv_nil) (by rw [all_bad hc (kb_bad h6 h14 h9)];rfl) hK
    ·replace h9:c=95:=by simpa using h9
     refine WP.skip<|PO.blockN<|PO.next<|WP.reg<|WL.e e_move<|WL.e (e_add (c:=((i+1:Nat):Int)) rfl rfl (by rw [w_i64 (by omega) (by omega)];omega))<|WL.e e_assign<|WL.nil ?_
     exact PO.againK (i+1) ⟨by omega,all_step hb hc (kb_under h9)⟩ (by omega)
   ·skip
    refine WL.skip<|WL.skip<|WL.e e_pick_f<|WL.next<|WP.cond_f rfl<|WP.skip<|PO.blockN<|PO.next<|WP.reg<|WL.e e_move<|WL.e (e_add (c:=((i+1:Nat):Int)) rfl rfl (by rw [w_i64 (by omega) (by omega)];omega))<|WL.e e_assign<|WL.nil ?_
    exact PO.againK (i+1) ⟨by omega,all_step hb hc (kb_digit h14)⟩ (by omega)
  ·skip
   refine WL.skip<|WL.skip<|WL.skip<|WL.skip<|WL.skip<|WL.skip<|WL.e e_pick_f<|WL.e e_move<|WL.skip<|WL.skip<|WL.e e_pick_f<|WL.next<|WP.cond_f rfl<|WP.skip<|PO.blockN<|PO.next<|WP.reg<|WL.e e_move<|WL.e (e_add (c:=((i+1:Nat):Int)) rfl rfl (by rw [w_i64 (by omega) (by omega)];omega))<|WL.e e_assign<|WL.nil ?_
   exact PO.againK (i+1) ⟨by omega,all_step hb hc (kb_letter h6)⟩ (by omega)
 ·replace h3:s.size≤i:=by simp at h3;omega
  refine WP.exit<|PO.past nofun<|PO.round nofun<|PO.blockX<|PO.next<|WP.seq<|WP.reg<|WL.e e_move<|WL.e (e_len_str Tryz.underlying9)<|WL.e e_geq<|WL.e e_move ?_
  refine WL.bool 35 rfl (fun g1=>?_) (fun g1=>?_)
  ·skip
   refine WL.e e_move<|WL.e (e_len_str Tryz.underlying9)<|WL.e e_leq<|WL.e e_pick_t<|WL.e e_assign<|WL.next<|WP.ret ?_
   exact PO.finE Tryz.results140 (rv_tmp rv_nil) (by rw [all_done hb h3];show Value.bool _=Value.bool _;congr 1;rw [Bool.eq_iff_iff];simp at g1 ⊢;omega) hK
  ·skip
   refine WL.skip<|WL.skip<|WL.skip<|WL.e e_pick_f<|WL.e e_assign<|WL.next<|WP.ret ?_
   exact PO.finE Tryz.results140 (rv_tmp rv_nil) (by rw [all_done hb h3];show Value.bool _=Value.bool _;congr 1;rw [Bool.eq_iff_iff];simp at g1 ⊢;omega) hK
theorem rOp_spec {g:World} (x:OpM) (hk:x.key.size≤9223372036854775807) (ht:x.to.size≤9223372036854775807):Spec Tryz.prog g 57 [x.v] [] fun K R=>K (.bool (opOk x)) R:=by
 refine Spec.intro Tryz.func57 rfl Tryz.ntmps57 rfl fun R K hK=>?_
 refine WP.seq<|WP.reg ?_
 refine WL.h (h_box fun b1=>?_)
 refine WL.e e_assign<|WL.next<|WP.seq<|WP.seq<|WP.reg<|WL.e (e_fa f51_1)<|WL.e (e_load a9) ?_
 refine WL.h (h_call (rKey_spec x.key hk) k140 ?_)
 refine WL.e e_not<|WL.next ?_
 refine WP.cond rfl (fun h1=>?_) (fun h1=>?_)
 ·replace h1:keyOk x.key=false:=by simpa using h1
  refine WP.seq<|WP.reg<|WL.e e_assign<|WL.next<|WP.ret<|PO.past nofun ?_
  exact PO.finE Tryz.results57 (rv_tmp rv_nil) (by rw [opOk_bad h1];rfl) hK
 ·replace h1:keyOk x.key=true:=by simpa using h1
  refine WP.skip<|PO.next<|WP.seq<|WP.seq<|WP.reg<|WL.e (e_fa f51_0)<|WL.e (e_load a49)<|WL.next<|WP.block<|WP.seq<|WP.seq<|WP.reg<|WL.e (e_eql8 (b:=1))<|WL.e e_assign<|WL.next ?_
  refine WP.cond rfl (fun h2=>?_) (fun h2=>?_)
  ·skip
   refine WP.skip<|PO.next ?_
   refine WP.cond rfl (fun h3=>?_) (fun h3=>?_)
   ·replace h2:x.kind=1:=by simpa using h2
    refine WP.seq<|WP.reg<|WL.e (e_fa f51_2)<|WL.e (e_load a9)<|WL.e e_seq<|WL.e e_move ?_
    refine WL.bool 15 rfl (fun g1=>?_) (fun g1=>?_)
    ·skip
     refine WL.e (e_fa f51_3)<|WL.e (e_load a48)<|WL.e (e_eql32 (b:=0))<|WL.e e_pick_t<|WL.e e_assign<|WL.next<|WP.ret<|PO.blockR<|PO.past nofun ?_
     exact PO.finE Tryz.results57 (rv_tmp rv_nil) (by rw [opOk_get h1 (.inl h2),g1,Bool.true_and];rfl) hK
    ·skip
     refine WL.skip<|WL.skip<|WL.skip<|WL.e e_pick_f<|WL.e e_assign<|WL.next<|WP.ret<|PO.blockR<|PO.past nofun ?_
     exact PO.finE Tryz.results57 (rv_tmp rv_nil) (by rw [opOk_get h1 (.inl h2),g1,Bool.false_and];rfl) hK
   ·rw [h2] at h3;cases h3
  ·skip
   refine WP.reg<|WL.e (e_eql8 (b:=3))<|WL.e e_assign<|WL.next ?_
   refine WP.cond rfl (fun h3=>?_) (fun h3=>?_)
   ·replace h3:x.kind=3:=by simpa using h3
    refine WP.seq<|WP.reg<|WL.e (e_fa f51_2)<|WL.e (e_load a9)<|WL.e e_seq<|WL.e e_move ?_
    refine WL.bool 15 rfl (fun g1=>?_) (fun g1=>?_)
    ·skip
     refine WL.e (e_fa f51_3)<|WL.e (e_load a48)<|WL.e (e_eql32 (b:=0))<|WL.e e_pick_t<|WL.e e_assign<|WL.next<|WP.ret<|PO.blockR<|PO.past nofun ?_
     exact PO.finE Tryz.results57 (rv_tmp rv_nil) (by rw [opOk_get h1 (.inr h3),g1,Bool.true_and];rfl) hK
    ·skip
     refine WL.skip<|WL.skip<|WL.skip<|WL.e e_pick_f<|WL.e e_assign<|WL.next<|WP.ret<|PO.blockR<|PO.past nofun ?_
     exact PO.finE Tryz.results57 (rv_tmp rv_nil) (by rw [opOk_get h1 (.inr h3),g1,Bool.false_and];rfl) hK
   ·replace h2:x.kind≠1:=by simpa using h2
    replace h3:x.kind≠3:=by simpa using h3
    refine WP.seq<|WP.reg<|WL.e (e_eql8 (b:=2))<|WL.e e_assign<|WL.next ?_
    refine WP.cond rfl (fun h4=>?_) (fun h4=>?_)
    ·replace h4:x.kind=2:=by simpa using h4
     refine WP.seq<|WP.reg<|WL.e (e_fa f51_2)<|WL.e (e_load a9)<|WL.e e_seq<|WL.e e_assign<|WL.next<|WP.ret<|PO.blockR<|PO.past nofun ?_
     exact PO.finE Tryz.results57 (rv_tmp rv_nil) (by rw [opOk_put h1 h4];rfl) hK
    ·replace h4:x.kind≠2:=by simpa using h4
     refine WP.seq<|WP.reg<|WL.e (e_eql8 (b:=4))<|WL.e e_assign<|WL.next ?_
     refine WP.cond rfl (fun h5=>?_) (fun h5=>?_)
     ·replace h5:x.kind=4:=by simpa using h5
      refine WP.seq<|WP.reg<|WL.e (e_fa f51_2)<|WL.e (e_load a9) ?_
      refine WL.h (h_call (rKey_spec x.to ht) k140 ?_)
      refine WL.e e_move ?_
      refine WL.bool 30 rfl (fun g1=>?_) (fun g1=>?_)
      ·skip
       refine WL.e (e_fa f51_3)<|WL.e (e_load a48)<|WL.e (e_eql32 (b:=0))<|WL.e e_pick_t<|WL.e e_assign<|WL.next<|WP.ret<|PO.blockR<|PO.past nofun ?_
       exact PO.finE Tryz.results57 (rv_tmp rv_nil) (by rw [opOk_scan h1 h5,g1,Bool.true_and];rfl) hK
      ·skip
       refine WL.skip<|WL.skip<|WL.skip<|WL.e e_pick_f<|WL.e e_assign<|WL.next<|WP.ret<|PO.blockR<|PO.past nofun ?_
       exact PO.finE Tryz.results57 (rv_tmp rv_nil) (by rw [opOk_scan h1 h5,g1,Bool.false_and];rfl) hK
     ·replace h5:x.kind≠4:=by simpa using h5
      refine WP.skip<|PO.blockN<|PO.next<|WP.seq<|WP.reg<|WL.e e_assign<|WL.next<|WP.ret ?_
      exact PO.finE Tryz.results57 (rv_tmp rv_nil) (by rw [opOk_none h2 h4 h3 h5];rfl) hK
end Go.SL
namespace Go.SL.Fc
open Go Go.Proofs Go.SL
theorem k134:callable Tryz.prog 134=true:=by kernel_rfl
theorem k192:callable Tryz.prog 192=true:=by kernel_rfl
theorem k193:callable Tryz.prog 193=true:=by kernel_rfl
theorem k209:callable Tryz.prog 209=true:=by kernel_rfl
end Go.SL.Fc
namespace Go.SL
open Go Go.Proofs Fc
theorem rFind_spec {g:World} {A:HP} {u:Value} {l:List RowM} (k:ByteArray) (hA:RL A 2 RowM.c u l) (hn:l.length≤68719476000):Spec Tryz.prog g 209 [u,.string k] [A] fun K R=>K (.tuple #[.int .i64 (lowI l k),.bool (hasI l k)]) (A::R):=by
 refine Spec.intro Tryz.func209 rfl Tryz.ntmps209 rfl fun R K hK=>?_
 refine WP.seq<|WP.reg<|WL.e e_assign<|WL.e e_assign<|WL.next<|WP.seq<|WP.seq<|WP.reg<|WL.e e_assign<|WL.next<|WP.block<|WP.loopK (fun (i:Nat)=>[(6,.int .i64 i)]) (fun (i:Nat)=>A::R) [(0,_),(1,_)] (fun (i:Nat)=>i≤l.length∧∀ r ∈ l.take i,sLt r.key k=true) (fun (i:Nat)=>l.length - i) 0 (⟨Nat.zero_le _,by simp⟩) ?_
 rintro i ⟨hi,hb⟩
 refine WP.seq<|WP.seq<|WP.reg<|WL.e e_move<|WL.e e_move<|WL.e (el_len sl59 hA)<|WL.e e_lss<|WL.next ?_
 refine WP.cond rfl (fun h1=>?_) (fun h1=>?_)
 ·have hlt:i < l.length:=by simp at h1;omega
  obtain ⟨x,hx⟩:∃ x,l[i]?=some x:=⟨_,List.getElem?_eq_getElem hlt⟩
  refine WP.skip<|PO.next<|WP.seq<|WP.block<|WP.seq<|WP.seq<|WP.reg<|WL.e e_move<|WL.e e_move<|WL.e (el_ia (j:=i) sl59 hA hlt)<|WL.e (el_fa (j:=i) f142_0 hA hlt)<|WL.e (el_load0 (j:=i) (a:=x) a9 rowE hA hx)<|WL.e e_move<|WL.e e_seq<|WL.next ?_
  refine WP.cond rfl (fun h2=>?_) (fun h2=>?_)
  ·have hlow:lowI l k=i:=low_of hi hb fun y hy=>by rw [hx] at hy;cases hy;rw [sEq_iff.1 h2];exact sLt_irrefl k
   refine WP.seq<|WP.reg<|WL.e e_move<|WL.e e_assign<|WL.e e_assign<|WL.next<|WP.ret<|PO.past nofun<|PO.blockR<|PO.past nofun<|PO.round nofun<|PO.blockR<|PO.past nofun ?_
   exact PO.finE Tryz.results209 (rv_tmp (rv_tmp rv_nil)) (by rw [hlow,has_of hlow hx,h2];rfl) hK
  ·skip
   refine WP.skip<|PO.next<|WP.seq<|WP.reg<|WL.e e_move<|WL.e e_move<|WL.e (el_ia (j:=i) sl59 hA hlt)<|WL.e (el_fa (j:=i) f142_0 hA hlt)<|WL.e (el_load0 (j:=i) (a:=x) a9 rowE hA hx)<|WL.e e_move<|WL.e e_sgt<|WL.next ?_
   refine WP.cond rfl (fun h3=>?_) (fun h3=>?_)
   ·have hlow:lowI l k=i:=low_of hi hb fun y hy=>by rw [hx] at hy;cases hy;exact sLt_asymm (gt_t h3)
    refine WP.seq<|WP.reg<|WL.e e_move<|WL.e e_assign<|WL.e e_assign<|WL.next<|WP.ret<|PO.blockR<|PO.past nofun<|PO.round nofun<|PO.blockR<|PO.past nofun ?_
    exact PO.finE Tryz.results209 (rv_tmp (rv_tmp rv_nil)) (by rw [hlow,has_of hlow hx,h2];rfl) hK
   ·skip
    refine WP.skip<|PO.blockN<|PO.next<|WP.reg<|WL.e e_move<|WL.e (e_add (c:=((i+1:Nat):Int)) rfl rfl (by rw [w_i64 (by omega) (by omega)];omega))<|WL.e e_assign<|WL.nil ?_
    exact PO.againK (i+1) ⟨by omega,find_step hb hx h2 (gt_f h3)⟩ (by omega)
 ·have hend:l.length≤i:=by simp at h1;omega
  refine WP.exit<|PO.past nofun<|PO.round nofun<|PO.blockX<|PO.next<|WP.seq<|WP.reg<|WL.e e_move<|WL.e (el_len sl59 hA)<|WL.e e_assign<|WL.e e_assign<|WL.next<|WP.ret ?_
  have hlow:lowI l k=l.length:=by
   obtain rfl:i=l.length:=by omega
   exact low_of hi hb fun y hy=>by rw [List.getElem?_eq_none (Nat.le_refl _)] at hy;cases hy
  exact PO.finE Tryz.results209 (rv_tmp (rv_tmp rv_nil)) (by rw [hlow,has_end hlow (List.getElem?_eq_none (Nat.le_refl _))];rfl) hK
theorem rPut_spec {g:World} {A:HP} {u:Value} {l:List RowM} (k:ByteArray) (v:UInt32) (hA:RL A 2 RowM.c u l) (hn:l.length≤68719470000):Spec Tryz.prog g 193 [u,.string k,.int .u32 v.toNat] [A] fun K R=>∀ a m c B,Ge A B→RL B 2 RowM.c (.slice a m c) (setR l k v)→K (.slice a m c) (B::R):=by
 refine Spec.intro Tryz.func193 rfl Tryz.ntmps193 rfl fun R K hK=>?_
 refine WP.seq<|WP.reg<|WL.e e_assign<|WL.next<|WP.seq<|WP.reg<|WL.e e_move<|WL.e e_move ?_
 refine WL.h (h_call (rFind_spec k hA (by omega)) k209 ?_)
 have hle:=lowI_le l k
 refine WL.e e_move<|WL.e e_extract<|WL.e e_extract<|WL.e e_assign<|WL.e e_assign<|WL.next<|WP.seq<|WP.reg<|WL.e e_move<|WL.e e_move<|WL.e (el_to (hi:=lowI l k) sl59 hA hle)<|WL.nils 142 2 RowM.c none ?_
 refine WL.h (hl_append (xs:=([]:List RowM)) sl59 rowE z142 (RL.to_ (hi:=lowI l k) rowE hA hle) (by simp;omega) fun a1 m1 c1=>?_)
 rw [List.nil_append]
 refine WL.e e_assign<|WL.next<|WP.seq<|WP.reg<|WL.e e_move<|WL.e e_move<|WL.e e_move<|WL.e (e_build z142 p142 (.o (.tmp 21) rfl<|.o (.tmp 22) rfl<|.n)) ?_
 refine WL.h (h_bs sl59 z142 (.a2 (.tmp 23) rfl<|.n) fun b1=>?_)
 refine WL.h (hl_append (xs:=l.take (lowI l k)) sl59 rowE z142 (lit_rl rowE [⟨k,v⟩] rfl) (by simp;omega) fun a2 m2 c2=>?_)
 refine WL.e e_assign<|WL.next<|WP.seq<|WP.seq<|WP.reg<|WL.e e_move<|WL.next ?_
 refine WP.cond rfl (fun h1=>?_) (fun h1=>?_)
 ·have h4:=has_lt h1
  refine WP.reg<|WL.e e_move<|WL.e (e_add (c:=((lowI l k+1:Nat):Int)) rfl rfl (by rw [w_i64 (by omega) (by omega)];omega))<|WL.e e_assign<|WL.next<|WP.seq<|WP.reg<|WL.e e_move<|WL.e e_move<|WL.e e_move<|WL.e (el_from (lo:=lowI l k+1) sl59 hA (by omega)) ?_
  refine WL.h (hl_append (xs:=l.take (lowI l k)++[⟨k,v⟩]) sl59 rowE z142 (RL.from_ (lo:=lowI l k+1) rowE hA (by omega)) (by simp;omega) fun a9 m9 c9=>?_)
  rw [← setR_has v h1]
  refine WL.e e_assign<|WL.next<|WP.ret<|PO.cls (A:=bun [A,Sl 142 2 RowM.c (.slice a9 m9 c9) (setR l k v)]) (B:=[A,Sl 142 2 RowM.c (.slice a9 m9 c9) (setR l k v)]) (fun S h=>h) ?_
  exact PO.fin Tryz.results193 (rv_tmp rv_nil) (hK a9 m9 c9 _ Ge.one (RL.ge sl_rl Ge.two))
 ·skip
  refine WP.skip<|PO.next<|WP.seq<|WP.reg<|WL.e e_move<|WL.e e_move<|WL.e e_move<|WL.e (el_from (lo:=lowI l k) sl59 hA hle) ?_
  refine WL.h (hl_append (xs:=l.take (lowI l k)++[⟨k,v⟩]) sl59 rowE z142 (RL.from_ (lo:=lowI l k) rowE hA hle) (by simp;omega) fun a9 m9 c9=>?_)
  rw [← setR_not v h1]
  refine WL.e e_assign<|WL.next<|WP.ret<|PO.cls (A:=bun [A,Sl 142 2 RowM.c (.slice a9 m9 c9) (setR l k v)]) (B:=[A,Sl 142 2 RowM.c (.slice a9 m9 c9) (setR l k v)]) (fun S h=>h) ?_
  exact PO.fin Tryz.results193 (rv_tmp rv_nil) (hK a9 m9 c9 _ Ge.one (RL.ge sl_rl Ge.two))
theorem rDel_spec {g:World} {A:HP} {u:SV} {l:List RowM} (k:ByteArray) (hA:RL A 2 RowM.c u.v l) (hn:l.length≤68719470000):Spec Tryz.prog g 192 [u.v,.string k] [A] fun K R=>∀ a m c B,Ge A B→RL B 2 RowM.c (.slice a m c) (dropR l k)→K (.slice a m c) (B::R):=by
 refine Spec.intro Tryz.func192 rfl Tryz.ntmps192 rfl fun R K hK=>?_
 refine WP.seq<|WP.reg<|WL.e e_assign<|WL.next<|WP.seq<|WP.reg<|WL.e e_move<|WL.e e_move ?_
 refine WL.h (h_call (rFind_spec k hA (by omega)) k209 ?_)
 have hle:=lowI_le l k
 refine WL.e e_move<|WL.e e_extract<|WL.e e_extract<|WL.e e_assign<|WL.e e_assign<|WL.next<|WP.seq<|WP.seq<|WP.reg<|WL.e e_move<|WL.e e_not<|WL.next ?_
 refine WP.cond rfl (fun h1=>?_) (fun h1=>?_)
 ·replace h1:hasI l k=false:=by simpa using h1
  refine WP.seq<|WP.reg<|WL.e e_move<|WL.e e_assign<|WL.next<|WP.ret<|PO.past nofun ?_
  exact PO.fin Tryz.results192 (rv_tmp rv_nil) (hK _ _ _ _ (Ge.refl A) (by rw [dropR_not h1];exact hA))
 ·replace h1:hasI l k=true:=by simpa using h1
  have h4:=has_lt h1
  refine WP.nils 142 2 RowM.c none ?_
  refine WP.skip<|PO.next<|WP.seq<|WP.draws mixedOk 10<|RW.e 0 rfl e_move<|RW.e 1 rfl e_move<|RW.e 2 rfl (el_to (hi:=lowI l k) sl59 hA hle)<|RW.e 4 rfl e_move<|RW.e 5 rfl e_move<|RW.e 6 rfl (e_add (c:=((lowI l k+1:Nat):Int)) rfl rfl (by rw [w_i64 (by omega) (by omega)];omega))<|RW.e 7 rfl (el_from (lo:=lowI l k+1) sl59 hA (by omega)) ?_
  refine RW.any (is:=[3]) rfl ⟨?_,trivial⟩
  refine RWat.h rfl rfl rfl ?_
  refine (hl_append (xs:=([]:List RowM)) sl59 rowE z142 (RL.to_ (hi:=lowI l k) rowE hA hle) (by simp;omega) fun a1 m1 c1=>?_)
  rw [List.nil_append]
  refine ⟨⟨⟨_,rfl,.inl ⟨rfl,(el_from (lo:=lowI l k+1) sl59 hA (by omega))⟩⟩,⟨_,rfl,.inl ⟨rfl,(e_add (c:=((lowI l k+1:Nat):Int)) rfl rfl (by rw [w_i64 (by omega) (by omega)];omega))⟩⟩,⟨_,rfl,.inl ⟨rfl,e_move⟩⟩,⟨_,rfl,.inl ⟨rfl,e_move⟩⟩,trivial⟩,?_⟩
  refine RW.any (is:=[8]) rfl ⟨?_,trivial⟩
  refine RWat.h rfl rfl rfl ?_
  refine (hl_append (xs:=l.take (lowI l k)) sl59 rowE z142 (RL.from_ (lo:=lowI l k+1) rowE hA (by omega)) (by simp;omega) fun a9 m9 c9=>?_)
  rw [← dropR_has h1]
  refine ⟨trivial,?_⟩
  refine RW.e 9 rfl e_assign<|RW.done<|PO.next<|WP.ret<|PO.cls (A:=bun [A,Sl 142 2 RowM.c (.slice a9 m9 c9) (dropR l k)]) (B:=[A,Sl 142 2 RowM.c (.slice a9 m9 c9) (dropR l k)]) (fun S h=>h) ?_
  exact PO.fin Tryz.results192 (rv_tmp rv_nil) (hK a9 m9 c9 _ Ge.one (RL.ge sl_rl Ge.two))
theorem rScan_spec {g:World} {A:HP} {u:Value} {l:List RowM} (s:SpanM) (most:Nat) (hA:RL A 2 RowM.c u l) (hn:l.length≤68719470000) (hk:kSz l) (hb:s.b.size≤1000):Spec Tryz.prog g 141 [u,s.v,.int .i64 most] [A] fun K R=>∀ a m c,K (.slice a m c) (Sl 142 2 RowM.c (.slice a m c) (scanR l s most)::A::R):=by
 refine Spec.intro Tryz.func141 rfl Tryz.ntmps141 rfl fun R K hK=>?_
 refine WP.seq<|WP.reg ?_
 refine WL.h (h_box fun b1=>?_)
 refine WL.e e_assign<|WL.next<|WP.seq<|WP.reg<|WL.e e_assign<|WL.next<|WP.seq<|WP.seq<|WP.reg<|WL.e e_assign<|WL.next<|WP.block<|WP.nils 142 2 RowM.c none ?_
 rw [show ([]:List RowM)=scanR (l.take 0) s most by simp [scanR]]
 refine WP.loopK (fun (x:Nat × Value)=>[(8,.int .i64 x.1),(7,x.2)]) (fun (x:Nat × Value)=>Sl 142 2 RowM.c (x.2) (scanR (l.take x.1) s most)::A::cl b1 110 (SpanM.c s)::R) [(0,_),(2,_),(4,_),(6,_)] (fun (x:Nat × Value)=>x.1≤l.length) (fun (x:Nat × Value)=>l.length - x.1) (0,.slice none 0 0) (Nat.zero_le _) ?_
 rintro ⟨i,v⟩ hi
 simp only at hi
 dsimp only
 have hsl:=scan_len (l:=l.take i) (s:=s) (most:=most)
 rw [List.length_take] at hsl
 refine WP.seq<|WP.seq<|WP.reg<|WL.e e_move<|WL.e e_move<|WL.e (el_len sl59 hA)<|WL.e e_lss<|WL.e e_move ?_
 refine WL.join 18 (.bool (decide (i < l.length∧(scanR (l.take i) s most).length < most))) (.c (.c (.c (.c (.c .n))))) ?_ ?_
 ·refine WL.bool 13 rfl (fun hg=>?_) (fun hg=>?_)
  ·skip
   refine WL.e e_move<|WL.e (el_len (xs:=scanR (l.take i) s most) sl59 sl_rl)<|WL.e e_move<|WL.e e_lss<|WL.e e_pick_t ?_
   exact WL.nil (PO.joined rfl (by simp at hg;simp [hg]))
  ·skip
   refine WL.skip<|WL.skip<|WL.skip<|WL.skip<|WL.e e_pick_f ?_
   exact WL.nil (PO.joined rfl (by simp at hg;simp;omega))
 refine WL.next ?_
 refine WP.cond rfl (fun h1=>?_) (fun h1=>?_)
 ·replace h1:=of_decide_eq_true h1
  have hlt:=h1.1
  obtain ⟨x,hx⟩:∃ x,l[i]?=some x:=⟨_,List.getElem?_eq_getElem hlt⟩
  refine WP.skip<|PO.next<|WP.seq<|WP.block<|WP.seq<|WP.draws mixedOk 10<|RW.e 0 rfl e_move<|RW.e 1 rfl e_move<|RW.e 2 rfl (el_ia (j:=i) sl59 hA hlt)<|RW.e 3 rfl (el_fa (j:=i) f142_0 hA hlt)<|RW.e 4 rfl (el_load0 (j:=i) (a:=x) a9 rowE hA hx)<|RW.e 5 rfl (e_fa f110_0)<|RW.e 6 rfl (e_load a9)<|RW.e 7 rfl (e_fa f110_1)<|RW.e 8 rfl (e_load a9) ?_
  refine RW.any (is:=[9]) rfl ⟨?_,trivial⟩
  refine RWat.h rfl rfl rfl ?_
  refine (h_call (rIn_spec x.key s.a s.b (hk x (List.mem_of_getElem? hx)) hb) k191 ?_)
  refine ⟨trivial,?_⟩
  refine RW.done<|PO.next ?_
  refine WP.cond rfl (fun h4=>?_) (fun h4=>?_)
  ·skip
   refine WP.reg<|WL.e e_move<|WL.e e_move<|WL.e e_move<|WL.e (el_ia (j:=i) sl59 hA hlt)<|WL.e (el_loadN (j:=i) (a:=x) a142 rowE hA hx) ?_
   refine WL.h (h_bs sl59 z142 (.a2 (.tmp 35) rfl<|.n) fun b2=>?_)
   refine WL.h (hl_append (xs:=scanR (l.take i) s most) sl59 rowE z142 (lit_rl rowE [x] rfl) (by simp;omega) fun a9 m9 c9=>?_)
   refine WL.e e_assign<|WL.nil<|PO.blockN<|PO.next<|WP.reg<|WL.e e_move<|WL.e (e_add (c:=((i+1:Nat):Int)) rfl rfl (by rw [w_i64 (by omega) (by omega)];omega))<|WL.e e_assign<|WL.nil ?_
   rw [← scanMore hx h4 h1.2]
   exact PO.againK (i+1,.slice a9 m9 c9) (by simp only;omega) (by simp only;omega)
  ·skip
   refine WP.skip<|PO.blockN<|PO.next<|WP.reg<|WL.e e_move<|WL.e (e_add (c:=((i+1:Nat):Int)) rfl rfl (by rw [w_i64 (by omega) (by omega)];omega))<|WL.e e_assign<|WL.nil ?_
   rw [← scan_out hx h4]
   exact PO.againK (i+1,v) (by simp only;omega) (by simp only;omega)
 ·replace h1:=of_decide_eq_false h1
  have hfin:scanR l s most=scanR (l.take i) s most:=by
   by_cases h5:i < l.length
   ·exact scan_full (by omega)
   ·exact scan_end (by omega)
  refine WP.exit<|PO.past nofun<|PO.round nofun<|PO.blockX<|PO.next<|WP.seq<|WP.reg<|WL.e e_move<|WL.e e_assign<|WL.next<|WP.ret ?_
  rw [← hfin]
  refine PO.sh (u:=v) ?_
  rintro a8 m8 c8 rfl
  exact PO.fin Tryz.results141 (rv_tmp rv_nil) (hK a8 m8 c8)
theorem rChange_spec {g:World} {A C:HP} {u:SV} {y:Value} {l:List RowM} {cs:List ChgM} (hA:RL A 2 RowM.c u.v l) (hC:RL C 3 ChgM.c y cs) (hn:l.length+cs.length≤68719470000):Spec Tryz.prog g 134 [u.v,y] [A,C] fun K R=>∀ a m c B,Ge A B→RL B 2 RowM.c (.slice a m c) (changeR l cs)→K (.slice a m c) (B::C::R):=by
 refine Spec.intro Tryz.func134 rfl Tryz.ntmps134 rfl fun R K hK=>?_
 refine WP.seq<|WP.reg<|WL.e e_assign<|WL.next<|WP.seq<|WP.seq<|WP.reg<|WL.e e_assign<|WL.next<|WP.block<|WP.loopK (fun (x:HP × SV × Nat)=>[(0,x.2.1.v),(5,.int .i64 x.2.2)]) (fun (x:HP × SV × Nat)=>x.1::C::R) [(1,_),(4,_)] (fun (x:HP × SV × Nat)=>Ge A x.1∧RL x.1 2 RowM.c x.2.1.v (changeR l (cs.take x.2.2))∧x.2.2≤cs.length) (fun (x:HP × SV × Nat)=>cs.length - x.2.2) (A,u,0) (⟨Ge.refl A,hA,Nat.zero_le _⟩) ?_
 rintro ⟨B,v,i⟩ ⟨hG,hB,hi⟩
 simp only at hG hB hi
 dsimp only
 have hl2:=changeR_len (cs.take i) l
 rw [List.length_take] at hl2
 refine WP.seq<|WP.seq<|WP.reg<|WL.e e_move<|WL.e e_move<|WL.e (el_len sl91 hC)<|WL.e e_lss<|WL.next ?_
 refine WP.cond rfl (fun h1=>?_) (fun h1=>?_)
 ·have hlt:i < cs.length:=by simp at h1;omega
  obtain ⟨x,hx⟩:∃ x,cs[i]?=some x:=⟨_,List.getElem?_eq_getElem hlt⟩
  refine WP.skip<|PO.next<|WP.seq<|WP.block<|WP.seq<|WP.reg<|WL.e e_move<|WL.e e_move<|WL.e (el_ia (j:=i) sl91 hC hlt)<|WL.e (el_fa (j:=i) f127_2 hC hlt)<|WL.e (el_load (f:=2) (j:=i) (a:=x) a4 chgE hC hx)<|WL.next ?_
  refine WP.cond rfl (fun h2=>?_) (fun h2=>?_)
  ·skip
   refine WP.reg<|WL.e e_move<|WL.e e_move<|WL.e e_move<|WL.e (el_ia (j:=i) sl91 hC hlt)<|WL.e (el_fa (j:=i) f127_0 hC hlt)<|WL.e (el_load0 (j:=i) (a:=x) a9 chgE hC hx) ?_
   refine WL.h (h_call (rDel_spec x.key hB (by omega)) k192 ?_)
   intro a2 m2 c2 B2 hG2 hR2
   refine WL.e e_assign<|WL.nil<|PO.blockN<|PO.next<|WP.reg<|WL.e e_move<|WL.e (e_add (c:=((i+1:Nat):Int)) rfl rfl (by rw [w_i64 (by omega) (by omega)];omega))<|WL.e e_assign<|WL.nil ?_
   exact PO.againK (B2,⟨a2,m2,c2⟩,i+1) ⟨hG.trans hG2,by simp only;rw [take_snoc hx,changeR_snoc,applyC,if_pos h2];exact hR2,by simp only;omega⟩ (by simp only;omega)
  ·skip
   refine WP.draws mixedOk 13<|RW.e 0 rfl e_move<|RW.e 1 rfl e_move<|RW.e 2 rfl e_move<|RW.e 3 rfl (el_ia (j:=i) sl91 hC hlt)<|RW.e 4 rfl (el_fa (j:=i) f127_0 hC hlt)<|RW.e 5 rfl (el_load0 (j:=i) (a:=x) a9 chgE hC hx)<|RW.e 6 rfl e_move<|RW.e 7 rfl e_move<|RW.e 8 rfl (el_ia (j:=i) sl91 hC hlt)<|RW.e 9 rfl (el_fa (j:=i) f127_1 hC hlt)<|RW.e 10 rfl (el_load (f:=1) (j:=i) (a:=x) a48 chgE hC hx) ?_
   refine RW.any (is:=[11]) rfl ⟨?_,trivial⟩
   refine RWat.h rfl rfl rfl ?_
   refine (h_call (rPut_spec x.key x.val hB (by omega)) k193 ?_)
   intro a2 m2 c2 B2 hG2 hR2
   refine ⟨trivial,?_⟩
   refine RW.any (is:=[12]) rfl ⟨?_,trivial⟩
   refine RWat.h rfl rfl rfl<|HO.of_eo e_assign ?_
   refine ⟨trivial,?_⟩
   refine RW.done<|PO.blockN<|PO.next<|WP.reg<|WL.e e_move<|WL.e (e_add (c:=((i+1:Nat):Int)) rfl rfl (by rw [w_i64 (by omega) (by omega)];omega))<|WL.e e_assign<|WL.nil ?_
   exact PO.againK (B2,⟨a2,m2,c2⟩,i+1) ⟨hG.trans hG2,by simp only;rw [take_snoc hx,changeR_snoc,applyC,if_neg (by simp [h2])];exact hR2,by simp only;omega⟩ (by simp only;omega)
 ·rw [List.take_of_length_le (show cs.length≤i by simp at h1;omega)] at hB
  refine WP.exit<|PO.past nofun<|PO.round nofun<|PO.blockX<|PO.next<|WP.seq<|WP.reg<|WL.e e_move<|WL.e e_assign<|WL.next<|WP.ret ?_
  exact PO.fin Tryz.results134 (rv_tmp rv_nil) (hK _ _ _ _ hG hB)
theorem rOwn_spec {g:World} {A C:HP} {u:SV} {y:Value} {l:List RowM} {cs:List ChgM} (hA:RL A 2 RowM.c u.v l) (hC:RL C 3 ChgM.c y cs) (hn:l.length+cs.length≤68719470000):Spec Tryz.prog g 61 [u.v,y] [A,C] fun K R=>∀ a m c B,Ge A B→RL B 2 RowM.c (.slice a m c) (changeR l cs)→K (.slice a m c) (B::C::R):=by
 refine Spec.intro Tryz.func61 rfl Tryz.ntmps61 rfl fun R K hK=>?_
 refine WP.seq<|WP.reg<|WL.e e_assign<|WL.next<|WP.seq<|WP.reg<|WL.e e_move<|WL.e e_move ?_
 refine WL.h (h_call (rChange_spec hA hC hn) k134 ?_)
 intro a m c B hG hR
 refine WL.e e_assign<|WL.next<|WP.ret ?_
 exact PO.fin Tryz.results61 (rv_tmp rv_nil) (hK a m c B hG hR)
end Go.SL
set_option linter.unusedSectionVars false
namespace Go.SL
open Go
structure RtD where
  at_:UInt32
  looked:List SpanM
  own:List ChgM
  kv:SV
  sv:SV
structure RefV where
  H:List (List ChgM)
  txs:List (TxU UInt32 RtD)
def ref0:RefV:=⟨[],[]⟩
def rIns (ts:List (TxU UInt32 RtD)) (t:TxU UInt32 RtD):List (TxU UInt32 RtD):=ts.takeWhile (fun o=>decide (o.id < t.id))++[t]++ts.dropWhile (fun o=>decide (o.id < t.id))
def Lt (ts:List (TxU UInt32 RtD)):Prop:=ts.Pairwise fun a b=>a.id < b.id
theorem Lt.nodup {ts:List (TxU UInt32 RtD)} (h:Lt ts):(ts.map (·.id)).Nodup:=by
  unfold List.Nodup
  rw [List.pairwise_map]
  exact h.imp fun {a b} hab e=>by rw [e] at hab;exact absurd hab (by simp [UInt32.lt_iff_toNat_lt])
theorem tw_drop {α:Type} {p:α→Bool} (l:List α):l.takeWhile p++l.dropWhile p=l:=List.takeWhile_append_dropWhile
theorem twR_all {p:TxU UInt32 RtD→Bool}:∀ {l:List (TxU UInt32 RtD)},∀ x ∈ l.takeWhile p,p x=true
  | [],x,h=>by simp at h
  | a::l,x,h=>by
    rw [List.takeWhile_cons] at h
    by_cases e:p a=true
    · rw [if_pos e] at h
      rcases List.mem_cons.1 h with rfl | h
      · exact e
      · exact twR_all x h
    · rw [if_neg e] at h;simp at h
theorem rIns_lt {ts:List (TxU UInt32 RtD)} {t:TxU UInt32 RtD} (h:Lt ts) (hn:findU ts t.id=none):Lt (rIns ts t):=by
  have hne:=findU_none hn
  unfold Lt rIns
  rw [List.append_assoc]
  have h':=h
  unfold Lt at h'
  rw [← tw_drop (p:=fun o:TxU UInt32 RtD=>decide (o.id < t.id)) ts] at h'
  obtain ⟨h1,h2,h3⟩:=List.pairwise_append.1 h'
  have hd:∀ x ∈ ts.dropWhile (fun o=>decide (o.id < t.id)),t.id < x.id:=by
    intro x hx
    have hx0:x ∈ ts:=(List.dropWhile_sublist _).mem hx
    have hxn:x.id≠t.id:=fun e=>hne (e ▸ List.mem_map.2 ⟨x,hx0,rfl⟩)
    have:¬ x.id < t.id:=by
      cases hdw:ts.dropWhile (fun o=>decide (o.id < t.id)) with
      | nil=>rw [hdw] at hx;simp at hx
      | cons y l=>
        have hy:¬ y.id < t.id:=by
          have:=List.head?_dropWhile_not (fun o:TxU UInt32 RtD=>decide (o.id < t.id)) ts
          rw [hdw] at this;simpa using this
        rw [hdw] at hx h2
        rcases List.mem_cons.1 hx with rfl | hx
        · exact hy
        · have:=(List.pairwise_cons.1 h2).1 x hx
          rw [UInt32.lt_iff_toNat_lt] at *;omega
    have hxm:x.id.toNat≠t.id.toNat:=fun e=>hxn (UInt32.toNat_inj.1 e)
    rw [UInt32.lt_iff_toNat_lt] at this ⊢
    omega
  refine List.pairwise_append.2 ⟨h1,List.pairwise_append.2 ⟨by simp,h2,?_⟩,?_⟩
  · intro a ha b hb
    simp only [List.mem_singleton] at ha
    subst ha
    exact hd b hb
  · intro a ha b hb
    rcases List.mem_append.1 hb with hb | hb
    · simp only [List.mem_singleton] at hb
      subst hb
      simpa using twR_all a ha
    · exact h3 a ha b hb
theorem filt_mid {A B:List (TxU UInt32 RtD)} {t:TxU UInt32 RtD} (h:((A++t::B).map (·.id)).Nodup):(A++t::B).filter (fun o=>!decide (o.id=t.id))=A++B:=by
  have hn:=nodupU_mid h
  rw [List.filter_append,List.filter_cons,if_neg (by simp),List.filter_eq_self.2 (fun x hx=>by simp [hn x (by simp [hx])]),List.filter_eq_self.2 (fun x hx=>by simp [hn x (by simp [hx])])]
theorem lt_ids {ts us:List (TxU UInt32 RtD)} (h:Lt ts) (e:us.map (·.id)=ts.map (·.id)):Lt us:=by
  have h1:(ts.map (·.id)).Pairwise (· < ·):=List.pairwise_map.2 h
  rw [← e] at h1
  exact List.pairwise_map.1 h1
theorem findU_filt (ts:List (TxU UInt32 RtD)) (n k:UInt32):findU (ts.filter fun o=>!decide (o.id=n)) k=if k=n then none else findU ts k:=by
  unfold findU
  induction ts with
  | nil=>simp
  | cons t ts ih=>
    rw [List.filter_cons]
    by_cases e:t.id=n
    · rw [if_neg (by simp [e]),ih]
      by_cases hk:k=n
      · rw [if_pos hk,if_pos hk]
      · rw [if_neg hk,if_neg hk,List.find?_cons,show decide (t.id=k)=false by simp [e,Ne.symm hk]]
    · rw [if_pos (by simp [e]),List.find?_cons,List.find?_cons,ih]
      by_cases hk:t.id=k
      · subst hk;simp [e]
      · simp [hk]
theorem findU_ins {ts:List (TxU UInt32 RtD)} {t:TxU UInt32 RtD} (hn:findU ts t.id=none) (k:UInt32):findU (rIns ts t) k=if k=t.id then some t else findU ts k:=by
  have hne:=findU_none hn
  have hts:=tw_drop (p:=fun o:TxU UInt32 RtD=>decide (o.id < t.id)) ts
  unfold rIns findU
  by_cases hk:k=t.id
  · rw [if_pos hk,List.append_assoc,List.find?_append,List.find?_eq_none.2 (fun x hx=>?_)]
    · simp [hk]
    · have hx0:x ∈ ts:=(List.takeWhile_sublist _).mem hx
      simp only [decide_eq_true_eq]
      intro e
      exact hne (hk ▸ e ▸ List.mem_map.2 ⟨x,hx0,rfl⟩)
  · rw [if_neg hk,List.append_assoc,List.find?_append,List.find?_append]
    conv=>rhs;rw [← hts,List.find?_append]
    simp [Ne.symm hk]
def rBegE (s:RefV) (n:UInt32):Nat:=if n=0 then 1 else if (findU s.txs n).isSome then 7 else if 32≤s.txs.length then 5 else 0
def rBeg (s:RefV) (n:UInt32) (q:Nat):RefV:=if rBegE s n=0 then { s with txs:=rIns s.txs ⟨n,q,⟨UInt32.ofNat s.H.length,[],[],⟨none,0,0⟩,⟨none,0,0⟩⟩⟩ } else s
def rEnds (s:RefV) (n:UInt32):RefV:={ s with txs:=s.txs.filter fun o=>!decide (o.id=n) }
inductive RDo
  | err (e:Nat)
  | put (t:TxU UInt32 RtD) (c:ChgM)
  | look (t:TxU UInt32 RtD)
def rDo (s:RefV) (n:UInt32) (x:OpM):RDo:=
  if opOk x then match findU s.txs n with
    | none=>.err 6
    | some t=>if writes x then .put t (chgOf x) else .look t
  else .err 1
def rPut (s:RefV) (t:TxU UInt32 RtD) (c:ChgM) (sv:SV):RefV:={ s with txs:=setU s.txs t.id ⟨t.x.at_,t.x.looked,t.x.own++[c],t.x.kv,sv⟩ }
def rLook (s:RefV) (t:TxU UInt32 RtD) (p:SpanM) (kv sv:SV):RefV:={ s with txs:=setU s.txs t.id ⟨t.x.at_,t.x.looked++[p],t.x.own,kv,sv⟩ }
def rBad (s:RefV) (t:TxU UInt32 RtD):Bool:=t.x.looked.any fun p=>sinceH s.H t.x.at_.toNat p
def rCom (s:RefV) (n:UInt32):RefV:=match findU s.txs n with
  | none=>s
  | some t=>if rBad s t then rEnds s n else { rEnds s n with H:=s.H++[t.x.own] }
def rComE (s:RefV) (n:UInt32):Nat:=match findU s.txs n with
  | none=>6
  | some t=>if rBad s t then 9 else 0
def rComN (s:RefV) (n:UInt32):UInt32:=if rComE s n=0 then UInt32.ofNat (s.H.length+1) else 0
def rAbo (s:RefV) (n:UInt32):RefV:=if (findU s.txs n).isSome then rEnds s n else s
def rAgain (s:RefV):RefV:=⟨s.H,[]⟩
structure RefOk (s:RefV) (b:Nat):Prop where
  rl:s.H.flatten.length≤b
  hl:s.H.length≤b
  ol:∀ t ∈ s.txs,t.x.own.length≤b
  lk:∀ t ∈ s.txs,t.x.looked.length≤b
  tl:s.txs.length≤32
  kh:∀ cs ∈ s.H,∀ c ∈ cs,c.key.size≤1000
  ko:∀ t ∈ s.txs,∀ c ∈ t.x.own,chgOk c=true
  kl:∀ t ∈ s.txs,∀ p ∈ t.x.looked,p.a.size≤1000∧p.b.size≤1000
  ats:∀ t ∈ s.txs,t.x.at_.toNat≤s.H.length
  ids:Lt s.txs
  bb:b≤1000000000
structure RelB (i:Nat) (s:StV) (m:RefV):Prop where
  bet:BetOk s i
  H:m.H=s.H
  txs:∀ n,(findU m.txs n).map (fun t=>(t.x.at_,t.x.looked,t.x.own))=(findU s.txs n).map (fun t=>(t.x.at_,t.x.looked,t.x.own))
  ids:Lt m.txs
  kl:∀ t ∈ s.txs,∀ p ∈ t.x.looked,p.a.size≤1000∧p.b.size≤1000
theorem RelB.first:RelB 0 stF ref0:=⟨bet_first,rfl,fun n=>rfl,List.Pairwise.nil,by intro t h;cases h⟩
section
variable {i : Nat} {s : StV} {m : RefV}
theorem RelB.some_iff (h:RelB i s m) (n:UInt32):(findU m.txs n).isSome=(findU s.txs n).isSome:=by
  have:=congrArg Option.isSome (h.txs n)
  simpa using this
theorem RelB.to (h:RelB i s m) {n:UInt32} {t:TxT} (hf:findU s.txs n=some t):∃ u:TxU UInt32 RtD,findU m.txs n=some u∧u.id=n∧u.x.at_=t.x.at_∧u.x.looked=t.x.looked∧u.x.own=t.x.own:=by
  have h1:=h.txs n
  rw [hf] at h1
  cases hu:findU m.txs n with
  | none=>rw [hu] at h1;cases h1
  | some u=>
    rw [hu] at h1
    simp only [Option.map_some,Option.some.injEq,Prod.mk.injEq] at h1
    exact ⟨u,rfl,(findU_mid hu).1,h1.1,h1.2.1,h1.2.2⟩
theorem RelB.back (h:RelB i s m) {n:UInt32} {u:TxU UInt32 RtD} (hf:findU m.txs n=some u):∃ t:TxT,findU s.txs n=some t∧t.id=n∧u.x.at_=t.x.at_∧u.x.looked=t.x.looked∧u.x.own=t.x.own:=by
  have h1:=h.txs n
  rw [hf] at h1
  cases hu:findU s.txs n with
  | none=>rw [hu] at h1;cases h1
  | some t=>
    rw [hu] at h1
    simp only [Option.map_some,Option.some.injEq,Prod.mk.injEq] at h1
    exact ⟨t,rfl,(findU_mid hu).1,h1.1,h1.2.1,h1.2.2⟩
theorem RelB.noneT (h:RelB i s m) {n:UInt32} (hf:findU s.txs n=none):findU m.txs n=none:=by
  have h1:=h.some_iff n
  rw [hf] at h1
  cases hu:findU m.txs n with
  | none=>rfl
  | some u=>rw [hu] at h1;cases h1
theorem RelB.perm (h:RelB i s m):(m.txs.map (·.id)).Perm (s.txs.map (·.id)):=by
  refine (List.perm_ext_iff_of_nodup h.ids.nodup h.bet.st.ids).2 fun n=>?_
  constructor
  · intro hm
    obtain ⟨u,hu,rfl⟩:=List.mem_map.1 hm
    obtain ⟨t,h1,h2,_⟩:=h.back (findU_of h.ids.nodup hu)
    exact List.mem_map.2 ⟨t,findU_mem h1,h2⟩
  · intro hm
    obtain ⟨t,ht,rfl⟩:=List.mem_map.1 hm
    obtain ⟨u,h1,h2,_⟩:=h.to (findU_of h.bet.st.ids ht)
    exact List.mem_map.2 ⟨u,findU_mem h1,h2⟩
theorem RelB.tlen (h:RelB i s m):m.txs.length=s.txs.length:=by
  have:=h.perm.length_eq
  simpa using this
theorem RelB.open_ (h:RelB i s m) {zs:List UInt32} (hp:zs.Perm (s.txs.map (·.id))) (hs:zs.Pairwise (·≤·)):zs=m.txs.map (·.id):=by
  refine List.Perm.eq_of_pairwise (le:=(·≤·)) ?_ hs ?_ (hp.trans h.perm.symm)
  · intro a b _ _ h1 h2
    rw [UInt32.le_iff_toNat_le] at h1 h2
    exact UInt32.toNat_inj.1 (by omega)
  · rw [List.pairwise_map]
    exact h.ids.imp fun {a b} hab=>by rw [UInt32.lt_iff_toNat_lt] at hab;rw [UInt32.le_iff_toNat_le];omega
theorem RelB.ok (h:RelB i s m):RefOk m i:=by
  have hs:=h.bet.st
  refine ⟨by rw [h.H];have:=hs.sum;omega,by rw [h.H];exact hs.hl,fun u hu=>?_,fun u hu=>?_,by rw [h.tlen];exact hs.tl,?_,fun u hu=>?_,fun u hu=>?_,fun u hu=>?_,h.ids,hs.bb⟩
  · obtain ⟨t,e1,e2,e3,e4,e5⟩:=h.back (findU_of h.ids.nodup hu)
    have:=hs.own_le (findU_mem e1)
    rw [e5];omega
  · obtain ⟨t,e1,e2,e3,e4,e5⟩:=h.back (findU_of h.ids.nodup hu)
    rw [e4];exact hs.lks t (findU_mem e1)
  · intro cs hcs c hc
    rw [h.H] at hcs
    exact keyOk_sz (chgOk_key ((hs.recs cs hcs).2 c hc))
  · obtain ⟨t,e1,e2,e3,e4,e5⟩:=h.back (findU_of h.ids.nodup hu)
    rw [e5];exact hs.own t (findU_mem e1)
  · obtain ⟨t,e1,e2,e3,e4,e5⟩:=h.back (findU_of h.ids.nodup hu)
    rw [e4];exact h.kl t (findU_mem e1)
  · obtain ⟨t,e1,e2,e3,e4,e5⟩:=h.back (findU_of h.ids.nodup hu)
    rw [e3,h.H];exact (h.bet.ats t (findU_mem e1)).2
theorem RelB.step (h:RelB i s m) (hi:i≤150):RelB (i+1) s m:=⟨h.bet.mono (Nat.le_succ i) (by omega),h.H,h.txs,h.ids,h.kl⟩
theorem RelB.begE (h:RelB i s m) (n:UInt32):rBegE m n=SL.begE s n:=by
  unfold rBegE SL.begE
  rw [h.some_iff,h.tlen]
theorem RelB.beg (h:RelB i s m) (hi:i≤150) (n:UInt32) (q q':Nat):RelB (i+1) (begS s n q) (rBeg m n q'):=by
  have hb:=(h.bet.beg n q).mono (Nat.le_succ i) (by omega)
  have he:=h.begE n
  unfold begS at hb ⊢
  unfold rBeg
  rw [he]
  split at hb
  case isFalse e=>rw [if_neg e,if_neg e];exact h.step hi
  case isTrue e=>
    rw [if_pos e,if_pos e]
    have hf:=(begE_zero e).2
    refine ⟨hb,h.H,fun k=>?_,rIns_lt h.ids (h.noneT hf),fun t ht=>?_⟩
    · show (findU (rIns m.txs _) k).map _=(findU (s.txs++[_]) k).map _
      rw [findU_ins (h.noneT hf)]
      by_cases hk:k=n
      · rw [if_pos hk]
        subst hk
        unfold findU at hf ⊢
        rw [List.find?_append,hf]
        simp [begT,h.H]
      · rw [if_neg hk,h.txs k]
        unfold findU
        rw [List.find?_append]
        simp [begT,Ne.symm hk]
    · rcases List.mem_append.1 ht with ht | ht
      · exact h.kl t ht
      · simp only [List.mem_singleton] at ht
        subst ht
        simp [begT]
theorem findU_del {σ:Type} {ts:List (TxU UInt32 σ)} (hn:(ts.map (·.id)).Nodup) (n k:UInt32):findU (delU ts n) k=if k=n then none else findU ts k:=by
  cases hf:findU ts n with
  | none=>
    have e:delU ts n=ts:=by
      unfold delU
      refine List.eraseP_of_forall_not fun t ht=>?_
      have:=List.find?_eq_none.1 hf t ht
      simpa using this
    rw [e]
    split
    · rename_i e2;rw [e2,hf]
    · rfl
  | some t=>
    obtain ⟨rfl,A,B,e1,e2,_⟩:=findU_mid hf
    rw [e2]
    subst e1
    have hm:=nodupU_mid hn
    by_cases hk:k=t.id
    · rw [if_pos hk]
      refine List.find?_eq_none.2 fun x hx=>?_
      have:=hm x hx
      simp [hk,this]
    · rw [if_neg hk]
      unfold findU
      rw [List.find?_append,List.find?_append,List.find?_cons,show decide (t.id=k)=false by simp [Ne.symm hk]]
theorem RelB.gone (h:RelB i s m) (n:UInt32):∀ k,(findU (rEnds m n).txs k).map (fun t=>(t.x.at_,t.x.looked,t.x.own))=(findU (delU s.txs n) k).map (fun t=>(t.x.at_,t.x.looked,t.x.own)):=fun k=>by
  show (findU (m.txs.filter fun o=>!decide (o.id=n)) k).map _=_
  rw [findU_filt,findU_del h.bet.st.ids]
  split
  · rfl
  · exact h.txs k
theorem RelB.ends_ (h:RelB i s m) (hi:i≤150) (n:UInt32):RelB (i+1) (endsB s n) (rEnds m n):=
  ⟨(h.bet.ends n).mono (Nat.le_succ i) (by omega),h.H,h.gone n,h.ids.sublist List.filter_sublist,fun t ht=>h.kl t (delU_sub.mem ht)⟩
theorem RelB.abo (h:RelB i s m) (hi:i≤150) (n:UInt32):RelB (i+1) (aboS betaI s n) (rAbo m n):=by
  unfold aboS rAbo
  rw [h.some_iff]
  split
  · exact h.ends_ hi n
  · exact h.step hi
theorem RelB.aboE (h:RelB i s m) (n:UInt32):(if (findU m.txs n).isSome then 0 else 6)=SL.aboE s n:=by
  unfold SL.aboE;rw [h.some_iff]
theorem secs_hist:∀ H:List (List ChgM),(∀ cs ∈ H,∀ c ∈ cs,chgOk c=true)→((H.map chgsB).map fun y=>secs y.length).sum≤2 * H.length+H.flatten.length
  | [],_=>Nat.le_refl _
  | cs::H,h=>by
    have h1:=secs_hist H fun x hx=>h x (by simp [hx])
    have h2:=(chgs_len cs).2 (h cs (by simp))
    have h3:=chgsB_len cs
    have h4:secs (chgsB cs).length≤2+cs.length:=by unfold secs;omega
    simp only [List.map_cons,List.sum_cons,List.length_cons,List.flatten_cons,List.length_append]
    omega
theorem RelB.fits (h:RelB i s m) (hi:i≤150) {t:TxT} (ht:t ∈ s.txs):fitsS s t.x:=by
  have hs:=h.bet.st
  have h1:=hs.own_le ht
  have h2:=(chgs_len t.x.own).2 (hs.own t ht)
  have h3:=chgsB_len t.x.own
  have h4:=secs_hist s.H fun cs hcs=>(hs.recs cs hcs).2
  have h5:=hs.log.hat
  have h6:=hs.log.len
  have h7:=hs.hl
  have h8:secs (chgsB t.x.own).length≤2+t.x.own.length:=by unfold secs;omega
  refine ⟨by omega,?_⟩
  rw [h6]
  omega
theorem RelB.com (h:RelB i s m) (hi:i≤150) (n:UInt32):comE betaI s n=rComE m n∧comN betaI s n=rComN m n∧RelB (i+1) (comS betaI s n) (rCom m n):=by
  have hb:=h.bet.com (by omega) n
  have hlen:UInt32.ofNat s.H.length+1=UInt32.ofNat (m.H.length+1):=by
    rw [h.H]
    apply UInt32.toNat_inj.1
    have:=h.bet.st.hl
    rw [UInt32.toNat_add,UInt32.toNat_ofNat',UInt32.toNat_ofNat']
    simp
  cases hf:findU s.txs n with
  | none=>
    have hu:=h.noneT hf
    have e1:comE betaI s n=6:=by simp [comE,hf]
    have e2:rComE m n=6:=by simp [rComE,hu]
    refine ⟨e1.trans e2.symm,by rw [comN,rComN,e1,e2];rfl,?_⟩
    have e3:comS betaI s n=s:=by simp [comS,hf]
    have e4:rCom m n=m:=by simp [rCom,hu]
    rw [e3,e4]
    exact h.step hi
  | some t=>
    obtain ⟨u,hu,hid,hat,hlk,hown⟩:=h.to hf
    have hbad:rBad m u=betaI.chk s t.x:=by
      show _=chkB s t.x
      unfold rBad chkB
      rw [hlk,hat,h.H]
    have hfit:=h.fits hi (findU_mem hf)
    by_cases hc:betaI.chk s t.x=true
    · have e1:comE betaI s n=9:=by simp [comE,hf,hc]
      have e2:rComE m n=9:=by simp [rComE,hu,hbad,hc]
      refine ⟨e1.trans e2.symm,by rw [comN,rComN,e1,e2];rfl,?_⟩
      have e3:comS betaI s n=endsB s n:=by simp only [comS,hf,hc,if_true];rfl
      have e4:rCom m n=rEnds m n:=by simp [rCom,hu,hbad,hc]
      rw [e3,e4]
      exact h.ends_ hi n
    · have e1:comE betaI s n=0:=by simp [comE,hf,hc,hfit]
      have e2:rComE m n=0:=by simp [rComE,hu,hbad,hc]
      refine ⟨e1.trans e2.symm,by rw [comN,rComN,e1,e2,hlen],?_⟩
      have e3:comS betaI s n=addS (endsB s n) t.x.own:=by
        simp only [comS,hf,if_neg hc,if_pos hfit];rfl
      have e4:rCom m n={ rEnds m n with H:=m.H++[u.x.own] }:=by simp [rCom,hu,hbad,hc]
      rw [e3] at hb
      rw [e3,e4]
      refine ⟨hb,?_,h.gone n,h.ids.sublist List.filter_sublist,fun t ht=>h.kl t (delU_sub.mem ht)⟩
      show m.H++[u.x.own]=s.H++[t.x.own]
      rw [h.H,hown]
inductive DoRel (i:Nat) (m:RefV) (s:StV) (x:OpM):DoS→RDo→Prop
  | err {e:Nat}:RelB (i+1) s m→DoRel i m s x (.err s e) (.err e)
  | put {s':StV} {u:TxU UInt32 RtD} {c:ChgM}:(∀ sv,RelB (i+1) s' (rPut m u c sv))→DoRel i m s x (.put s') (.put u c)
  | look {s':StV} {u:TxU UInt32 RtD} {rows:List RowM}:rows=scanR (changeR (rowsN m.H u.x.at_.toNat) u.x.own) (spanOf x) 256→(∀ kv sv,RelB (i+1) s' (rLook m u (spanOf x) kv sv))→DoRel i m s x (.look s' rows) (.look u)
theorem RelB.upd (h:RelB i s m) {n:UInt32} {t:TxT} {u:TxU UInt32 RtD} (hf:findU s.txs n=some t) (hu:findU m.txs n=some u) {y:TX} {z:RtD} (e1:z.at_=y.at_) (e2:z.looked=y.looked) (e3:z.own=y.own) (hb:BetOk { s with txs:=setU s.txs n y } (i+1))
    (hk:∀ p ∈ y.looked,p.a.size≤1000∧p.b.size≤1000):RelB (i+1) { s with txs:=setU s.txs n y } { m with txs:=setU m.txs u.id z }:=by
  have hid:=(findU_mid hu).1
  refine ⟨hb,h.H,fun k=>?_,lt_ids h.ids (setU_ids _ _ _),fun o ho=>?_⟩
  · rw [hid,setU_find,setU_find]
    by_cases hk:k=n
    · subst hk
      have h1:=(findU_mid hf).1
      rw [hf,hu]
      simp [hid,h1,e1,e2,e3]
    · have h1:=h.txs k
      cases hfu:findU m.txs k with
      | none=>
        rw [hfu] at h1
        cases hft:findU s.txs k with
        | none=>rfl
        | some o=>rw [hft] at h1;cases h1
      | some v=>
        rw [hfu] at h1
        cases hft:findU s.txs k with
        | none=>rw [hft] at h1;cases h1
        | some o=>
          rw [hft] at h1
          have g1:=(findU_mid hft).1
          have g2:=(findU_mid hfu).1
          simp only [Option.map_some,Option.some.injEq,Prod.mk.injEq] at h1 ⊢
          rw [if_neg (by rw [g2];exact hk),if_neg (by rw [g1];exact hk)]
          exact h1
  · rcases setU_mem ho with ⟨t',ht',_,rfl⟩ | ⟨ho,_⟩
    · exact hk
    · exact h.kl o ho
theorem RelB.does (h:RelB i s m) (hi:i≤150) (n:UInt32) (x:OpM):DoRel i m s x (doB s n x) (rDo m n x):=by
  by_cases hx:opOk x=true
  · cases hf:findU s.txs n with
    | none=>
      have hd:doB s n x=.err s 6:=by simp [doB,hx,hf]
      have hr:rDo m n x=.err 6:=by simp [rDo,hx,h.noneT hf]
      rw [hd,hr]
      exact .err (h.step hi)
    | some t=>
      obtain ⟨u,hu,hid,hat,hlk,hown⟩:=h.to hf
      have hol:=h.bet.st.lks t (findU_mem hf)
      have hkl:=h.kl t (findU_mem hf)
      by_cases hw:writes x=true
      · have hd:doB s n x=.put { s with txs:=setU s.txs n { t.x with own:=t.x.own++[chgOf x] } }:=by simp [doB,hx,hf,hw]
        have hr:rDo m n x=.put u (chgOf x):=by simp [rDo,hx,hu,hw]
        rw [hd,hr]
        exact .put fun sv=>h.upd hf hu hat hlk (by show u.x.own++_=t.x.own++_;rw [hown]) (h.bet.upd (by omega) hf rfl (.inr ⟨chgOf x,chgOf_ok hx hw,rfl⟩) (Nat.le_succ_of_le hol)) hkl
      · have hd:doB s n x=.look { s with txs:=setU s.txs n { t.x with looked:=t.x.looked++[spanOf x] } } (scanR (changeR (rowsN s.H t.x.at_.toNat) t.x.own) (spanOf x) 256):=by simp [doB,hx,hf,hw]
        have hr:rDo m n x=.look u:=by simp [rDo,hx,hu,hw]
        rw [hd,hr]
        refine .look (by rw [h.H,hat,hown]) fun kv sv=>h.upd hf hu hat (by show u.x.looked++_=t.x.looked++_;rw [hlk]) hown (h.bet.upd (by omega) hf rfl (.inl rfl) (by simp;omega)) fun p hp=>?_
        rcases List.mem_append.1 hp with hp | hp
        · exact hkl p hp
        · simp only [List.mem_singleton] at hp
          subst hp
          exact opOk_sz hx
  · have hd:doB s n x=.err s 1:=by simp [doB,hx]
    have hr:rDo m n x=.err 1:=by simp [rDo,hx]
    rw [hd,hr]
    exact .err (h.step hi)
theorem RelB.again (h:RelB i s m) (hi:i≤150):RelB (i+1) (st0 s.d s.at_ s.H) (rAgain m):=
  ⟨(bet_again h.bet).mono (Nat.le_succ i) (by omega),h.H,fun n=>rfl,List.Pairwise.nil,by intro t h;cases h⟩
end
end Go.SL
namespace Go.SL
open Go
def ptC (t:TxU UInt32 RtD):List Value:=[.pointer (some ⟨t.q,0,none⟩)]
theorem ptE:EncOk 1 ptC:=⟨fun _=>rfl,fun _=>rfl⟩
def RtP (T D E:TypeId) (t:TxU UInt32 RtD):List HP:=[cl t.q T [.int .u32 t.id.toNat,.int .u32 t.x.at_.toNat,t.x.kv.v,t.x.sv.v],Sl D 2 SpanM.c t.x.kv.v t.x.looked,Sl E 3 ChgM.c t.x.sv.v t.x.own]
def Rts (T D E:TypeId) (ts:List (TxU UInt32 RtD)):HP:=TxsU (RtP T D E) ts
section
variable {T D E : TypeId} {ts : List (TxU UInt32 RtD)} {t : TxU UInt32 RtD}
theorem rt_rd (h:t ∈ ts):Rd (Rts T D E ts) 4 (.slice (some ⟨t.q,0,none⟩) 1 1) 1 [.int .u32 t.id.toNat,.int .u32 t.x.at_.toNat,t.x.kv.v,t.x.sv.v]:=fun S hS=>by
  obtain ⟨A,B,e⟩:=List.append_of_mem h
  obtain ⟨_,S1,S2,_,h1,_,h2,_⟩:=TxsU_out e S hS
  exact (cl_rd (z:=4) (n:=1) (c:=1) (o:=0) (Nat.le_refl _) (by simp) (by simp) S1 h2).le h1
theorem Rts_add {A B:List (TxU UInt32 RtD)}:∀ S,stars (RtP T D E t++[Rts T D E (A++B)]) S→Rts T D E (A++[t]++B) S:=fun S hS=>by
  rw [List.append_assoc]
  exact TxsU_in (t:=t) S hS
end
theorem own_up {E z n:Nat} {u:Value} {cs:List Value} {S S1:Piece} (h:Own E z u n cs S1) (hl:le S1 S):Own E z u n cs S:=by
  rcases h with h | ⟨b,o,c,l,h1,h2,h3,h4,h5⟩
  · exact .inl h
  · exact .inr ⟨b,o,c,l,h1,h2,h3,hl _ _ h4,h5⟩
theorem find_at {ts:List (TxU UInt32 RtD)} {i:Nat} {n:UInt32} {t:TxU UInt32 RtD} (h:∀ t ∈ ts.take i,t.id≠n) (hx:ts[i]?=some t) (e:t.id=n):findU ts n=some t:=by
  unfold findU
  have h2:ts=ts.take i++t::ts.drop (i+1):=by
    have hlt:=idx_lt hx
    conv=>lhs;rw [← List.take_append_drop i ts]
    rw [List.drop_eq_getElem_cons hlt]
    rw [List.getElem?_eq_getElem hlt] at hx
    cases hx;rfl
  rw [h2,List.find?_append,List.find?_eq_none.2 (fun x hx=>by simpa using h x hx)]
  simp [e]
theorem findR_no {ts:List (TxU UInt32 RtD)} {n:UInt32} (h:∀ t ∈ ts,t.id≠n):findU ts n=none:=List.find?_eq_none.2 fun x hx=>by simpa using h x hx
theorem ne_step {ts:List (TxU UInt32 RtD)} {i:Nat} {p:TxU UInt32 RtD→Prop} {t:TxU UInt32 RtD} (h:∀ t ∈ ts.take i,p t) (hx:ts[i]?=some t) (e:p t):∀ t ∈ ts.take (i+1),p t:=by
  rw [take_snoc hx]
  intro x hx
  rcases List.mem_append.1 hx with hx | hx
  · exact h x hx
  · simp only [List.mem_singleton] at hx;subst hx;exact e
theorem filt_in {ts:List (TxU UInt32 RtD)} {i:Nat} {n:UInt32} {t:TxU UInt32 RtD} (hx:ts[i]?=some t) (e:t.id≠n):(ts.take (i+1)).filter (fun o=>!decide (o.id=n))=(ts.take i).filter (fun o=>!decide (o.id=n))++[t]:=by
  rw [take_snoc hx,List.filter_append];simp [e]
theorem filt_out {ts:List (TxU UInt32 RtD)} {i:Nat} {n:UInt32} {t:TxU UInt32 RtD} (hx:ts[i]?=some t) (e:t.id=n):(ts.take (i+1)).filter (fun o=>!decide (o.id=n))=(ts.take i).filter (fun o=>!decide (o.id=n)):=by
  rw [take_snoc hx,List.filter_append];simp [e]
def ltAt (ts:List (TxU UInt32 RtD)) (i:Nat) (n:UInt32):Bool:=(ts[i]?).any fun t=>decide (t.id < n)
theorem ltAt_lt {ts:List (TxU UInt32 RtD)} {i:Nat} {n:UInt32} (h:i < ts.length):ltAt ts i n=decide (ts[i].id < n):=by
  unfold ltAt;rw [List.getElem?_eq_getElem h];rfl
theorem ltAt_ge {ts:List (TxU UInt32 RtD)} {i:Nat} {n:UInt32} (h:¬ i < ts.length):ltAt ts i n=false:=by
  unfold ltAt;rw [List.getElem?_eq_none (by omega)];rfl
theorem ltAt_some {ts:List (TxU UInt32 RtD)} {i:Nat} {n:UInt32} (h:ltAt ts i n=true):∃ t,ts[i]?=some t∧t.id < n:=by
  unfold ltAt at h
  cases hx:ts[i]? with
  | none=>rw [hx] at h;cases h
  | some t=>rw [hx] at h;exact ⟨t,rfl,by simpa using h⟩
theorem tw_at {ts:List (TxU UInt32 RtD)} {i:Nat} {n:UInt32} (h:∀ t ∈ ts.take i,t.id < n) (h2:ltAt ts i n=false):ts.takeWhile (fun o=>decide (o.id < n))=ts.take i∧ts.dropWhile (fun o=>decide (o.id < n))=ts.drop i:=by
  have e:ts=ts.take i++ts.drop i:=(List.take_append_drop i ts).symm
  have hd:(ts.drop i).takeWhile (fun o=>decide (o.id < n))=[]∧(ts.drop i).dropWhile (fun o=>decide (o.id < n))=ts.drop i:=by
    cases hdr:ts.drop i with
    | nil=>exact ⟨rfl,rfl⟩
    | cons x l=>
      have hx:ts[i]?=some x:=by rw [← List.head?_drop,hdr];rfl
      have:decide (x.id < n)=false:=by unfold ltAt at h2;rw [hx] at h2;exact h2
      exact ⟨by rw [List.takeWhile_cons,this];rfl,by rw [List.dropWhile_cons,this];rfl⟩
  have hp:∀ a ∈ ts.take i,(fun o:TxU UInt32 RtD=>decide (o.id < n)) a=true:=fun a ha=>by simpa using h a ha
  constructor
  · conv=>lhs;rw [e]
    rw [List.takeWhile_append_of_pos hp,hd.1,List.append_nil]
  · conv=>lhs;rw [e]
    rw [List.dropWhile_append_of_pos hp,hd.2]
def hvC (v:SV):List Value:=[v.v]
theorem hvE:EncOk 1 hvC:=⟨fun _=>rfl,fun _=>rfl⟩
theorem rBad_snoc {l:List SpanM} {f:SpanM→Bool} {i:Nat} {p:SpanM} (hx:l[i]?=some p) (h:(l.take i).any f=false) (hp:f p=false):(l.take (i+1)).any f=false:=by
  rw [take_snoc hx,List.any_append,h];simpa using hp
theorem rowsN_full (H:List (List ChgM)) (cs:List ChgM) (i:Nat) (h:i≤H.length):rowsN (H++[cs]) i=rowsN H i:=by
  unfold rowsN;rw [List.take_append_of_le_length h]
theorem since_yes {H:List (List ChgM)} {a n:Nat} {cs:List ChgM} {c:ChgM} {p:SpanM} (ha:a≤n) (hn:H[n]?=some cs) (hc:c ∈ cs) (h:meet (one c.key) p=true):sinceH H a p=true:=by
  unfold sinceH
  refine List.any_eq_true.2 ⟨cs,?_,List.any_eq_true.2 ⟨c,hc,by rw [meet_one] at h;exact h⟩⟩
  refine List.mem_of_getElem? (i:=n - a) ?_
  rw [List.getElem?_drop,show a+(n - a)=n by omega]
  exact hn
theorem since_no {H:List (List ChgM)} {a:Nat} {p:SpanM} (h:∀ n cs,a≤n→H[n]?=some cs→∀ c ∈ cs,meet (one c.key) p=false):sinceH H a p=false:=by
  unfold sinceH
  refine List.any_eq_false.2 fun cs hcs=>?_
  obtain ⟨i,hi⟩:=List.mem_iff_getElem?.1 hcs
  rw [List.getElem?_drop] at hi
  rw [Bool.not_eq_true]
  refine List.any_eq_false.2 fun c hc=>?_
  have:=h (a+i) cs (Nat.le_add_right _ _) hi c hc
  rw [meet_one] at this
  simp [this]
theorem u32_zero_lt (a:UInt32):(if a < 0 then 0 else a)=a:=by
  rw [if_neg (by simp [UInt32.lt_iff_toNat_lt])]
section
variable {P : Program} {g : World} {Γ : Env} {L : List HP}
theorem e_max0 {dst:Option Tmp} {t:TypeId} {pos:String} {aft:Array Edge} {gd:Option (Nat × Bool)} {x y:Operand} {T U:TypeId} {a:UInt32} (hx:ev Γ x=some (.int .u32 a.toNat):=by rfl) (hy:ev Γ y=some (.int .u32 0):=by rfl):EO P g ⟨dst,.call ⟨.builtin .max,#[x,y],#[T,U]⟩,t,pos,aft,gd⟩ Γ L (.int .u32 a.toNat):=by
  have h:=e_max32 (P:=P) (g:=g) (L:=L) (dst:=dst) (t:=t) (pos:=pos) (aft:=aft) (gd:=gd) (T:=T) (U:=U) (b:=0) hx hy
  rw [u32_zero_lt] at h
  exact h
theorem e_min_le {dst:Option Tmp} {t:TypeId} {pos:String} {aft:Array Edge} {gd:Option (Nat × Bool)} {x y:Operand} {T U:TypeId} {k j:IntKind} {a b:Int} (hab:a≤b) (hx:ev Γ x=some (.int k a):=by rfl) (hy:ev Γ y=some (.int j b):=by rfl):EO P g ⟨dst,.call ⟨.builtin .min,#[x,y],#[T,U]⟩,t,pos,aft,gd⟩ Γ L (.int k a):=by
  have h:=e_minI (P:=P) (g:=g) (L:=L) (dst:=dst) (t:=t) (pos:=pos) (aft:=aft) (gd:=gd) (T:=T) (U:=U) hx hy
  rw [if_neg (by omega)] at h
  exact h
end
theorem flat_one {H:List (List ChgM)} {cs:List ChgM} (h:cs ∈ H):cs.length≤H.flatten.length:=by
  obtain ⟨A,B,rfl⟩:=List.append_of_mem h
  simp
  omega
theorem past_rows {H:List (List ChgM)} {A B:HP} {X:HP} {rl:List SV} {v:SV} {cs:List ChgM} (hrl:rl.length=H.length+1) (hr:∀ (i:Nat) (v:SV),rl[i]?=some v→RL A 2 RowM.c v.v (rowsN H i)) (hG:Ge A B) (hv:RL B 2 RowM.c v.v (changeR (rowsN H H.length) cs)) :
    ∀ (i:Nat) (w:SV),(rl++[v])[i]?=some w→RL (bun [B,X]) 2 RowM.c w.v (rowsN (H++[cs]) i):=fun i w hw=>by
  rcases Nat.lt_or_ge i rl.length with h | h
  · rw [List.getElem?_append_left h] at hw
    rw [rowsN_full H cs i (by omega)]
    exact (hr i w hw).ge (hG.trans Ge.one)
  · have hi:=idx_lt hw
    simp at hi
    obtain rfl:i=H.length+1:=by omega
    rw [List.getElem?_append_right h,hrl,Nat.sub_self] at hw
    simp at hw
    subst hw
    rw [rowsN_new]
    exact hv.ge Ge.one
theorem past_chgs {H:List (List ChgM)} {A B:HP} {X:HP} {cl_:List SV} {v:SV} {cs:List ChgM} (hcl:cl_.length=H.length) (hc:∀ (i:Nat) (v:SV) (cs:List ChgM),cl_[i]?=some v→H[i]?=some cs→RL A 3 ChgM.c v.v cs) (hG:Ge A B) (hv:RL (bun [B,X]) 3 ChgM.c v.v cs) :
    ∀ (i:Nat) (w:SV) (ds:List ChgM),(cl_++[v])[i]?=some w→(H++[cs])[i]?=some ds→RL (bun [B,X]) 3 ChgM.c w.v ds:=fun i w ds hw hd=>by
  rcases Nat.lt_or_ge i cl_.length with h | h
  · rw [List.getElem?_append_left h] at hw
    rw [List.getElem?_append_left (by omega)] at hd
    exact (hc i w ds hw hd).ge (hG.trans Ge.one)
  · have hi:=idx_lt hw
    simp at hi
    obtain rfl:i=cl_.length:=by omega
    rw [List.getElem?_append_right h,Nat.sub_self] at hw
    rw [List.getElem?_append_right (by omega),hcl,Nat.sub_self] at hd
    simp at hw hd
    subst hw hd
    exact hv
end Go.SL
