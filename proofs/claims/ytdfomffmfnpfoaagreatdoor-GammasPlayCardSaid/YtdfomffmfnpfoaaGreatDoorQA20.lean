import Derived.Test.YtdfomffmfnpfoaaGreatDoorQA19
set_option linter.unusedSimpArgs false
set_option linter.unusedVariables false
namespace Go.SL.Fc
open Go Go.Proofs Go.SL
theorem k142:callable Tryz.prog 142=true:=by kernel_rfl
theorem k144:callable Tryz.prog 144=true:=by kernel_rfl
theorem k145:callable Tryz.prog 145=true:=by kernel_rfl
theorem k195:callable Tryz.prog 195=true:=by kernel_rfl
end Go.SL.Fc
namespace Go.SL
open Go Go.Proofs Fc
theorem rLess_spec {g:World} (a b:ByteArray) (ha:a.size≤9223372036854775807):Spec Tryz.prog g 195 [.string a,.string b] [] fun K R=>K (.bool (sLt a b)) R:=by
 refine Spec.intro Tryz.func195 rfl Tryz.ntmps195 rfl fun R K hK=>?_
 refine WP.seq<|WP.reg<|WL.e e_assign<|WL.next<|WP.seq<|WP.seq<|WP.reg<|WL.e e_assign<|WL.next<|WP.block<|WP.loopK (fun (i:Nat)=>[(5,.int .i64 i)]) (fun (i:Nat)=>R) [(0,_),(1,_)] (fun (i:Nat)=>i≤a.size∧i≤b.size∧a.toList.take i=b.toList.take i) (fun (i:Nat)=>a.size - i) 0 (⟨Nat.zero_le _,Nat.zero_le _,rfl⟩) ?_
 rintro i ⟨h1,h2,he⟩
 refine WP.seq<|WP.seq<|WP.reg<|WL.e e_move<|WL.e e_move<|WL.e (e_len_str Tryz.underlying9)<|WL.e e_lss<|WL.e e_move ?_
 refine WL.join 15 (.bool (decide (i < a.size∧i < b.size))) (.c (.c (.c (.c (.c .n))))) ?_ ?_
 ·refine WL.bool 10 rfl (fun hg=>?_) (fun hg=>?_)
  ·skip
   refine WL.e e_move<|WL.e e_move<|WL.e (e_len_str Tryz.underlying9)<|WL.e e_lss<|WL.e e_pick_t ?_
   exact WL.nil (PO.joined rfl (by simp at hg;simp [hg]))
  ·skip
   refine WL.skip<|WL.skip<|WL.skip<|WL.skip<|WL.e e_pick_f ?_
   exact WL.nil (PO.joined rfl (by simp at hg;simp;omega))
 refine WL.next ?_
 refine WP.cond rfl (fun h3=>?_) (fun h3=>?_)
 ·obtain ⟨h4,h5⟩:=of_decide_eq_true h3
  obtain ⟨x,hx⟩:∃ x,a[i]?=some x:=⟨_,getElem?_pos a i (by omega)⟩
  obtain ⟨y,hy⟩:∃ y,b[i]?=some y:=⟨_,getElem?_pos b i (by omega)⟩
  refine WP.skip<|PO.next<|WP.seq<|WP.block<|WP.seq<|WP.draws mixedOk 7<|RW.e 0 rfl e_move<|RW.e 1 rfl e_move<|RW.e 2 rfl (e_idxS (n:=i) (b:=x) Tryz.underlying9 (hb:=hx))<|RW.e 3 rfl e_move<|RW.e 4 rfl e_move<|RW.e 5 rfl (e_idxS (n:=i) (b:=y) Tryz.underlying9 (hb:=hy))<|RW.e 6 rfl (e_neq8)<|RW.done<|PO.next ?_
  refine WP.cond rfl (fun h6=>?_) (fun h6=>?_)
  ·replace h6:x≠y:=by simpa using h6
   refine WP.seq<|WP.draws mixedOk 8<|RW.e 0 rfl e_move<|RW.e 1 rfl e_move<|RW.e 2 rfl (e_idxS (n:=i) (b:=x) Tryz.underlying9 (hb:=hx))<|RW.e 3 rfl e_move<|RW.e 4 rfl e_move<|RW.e 5 rfl (e_idxS (n:=i) (b:=y) Tryz.underlying9 (hb:=hy))<|RW.e 6 rfl e_lss<|RW.e 7 rfl e_assign<|RW.done<|PO.next<|WP.ret<|PO.blockR<|PO.past nofun<|PO.round nofun<|PO.blockR<|PO.past nofun ?_
   exact PO.finE Tryz.results195 (rv_tmp rv_nil) (by rw [less_at he hx hy h6];simp [UInt8.lt_iff_toNat_lt]) hK
  ·obtain rfl:x=y:=by simpa using h6
   refine WP.skip<|PO.blockN<|PO.next<|WP.reg<|WL.e e_move<|WL.e (e_add (c:=((i+1:Nat):Int)) rfl rfl (by rw [w_i64 (by omega) (by omega)];omega))<|WL.e e_assign<|WL.nil ?_
   exact PO.againK (i+1) ⟨by omega,by omega,take_step he hx hy⟩ (by omega)
 ·replace h3:=of_decide_eq_false h3
  refine WP.exit<|PO.past nofun<|PO.round nofun<|PO.blockX<|PO.next<|WP.seq<|WP.reg<|WL.e e_move<|WL.e (e_len_str Tryz.underlying9)<|WL.e e_move<|WL.e (e_len_str Tryz.underlying9)<|WL.e e_lss<|WL.e e_assign<|WL.next<|WP.ret ?_
  exact PO.finE Tryz.results195 (rv_tmp rv_nil) (by rw [less_end he h1 h2 (by omega)];simp) hK
theorem rIn_spec {g:World} (k a b:ByteArray) (hk:k.size≤1000) (hb:b.size≤1000):Spec Tryz.prog g 145 [.string k,.string a,.string b] [] fun K R=>K (.bool (sIn k a b)) R:=by
 refine Spec.intro Tryz.func145 rfl Tryz.ntmps145 rfl fun R K hK=>?_
 refine WP.seq<|WP.reg<|WL.e e_assign<|WL.next<|WP.seq<|WP.reg<|WL.e e_move<|WL.e e_move ?_
 refine WL.h (h_call (rLess_spec k a (by omega)) k195 ?_)
 refine WL.e e_not<|WL.e e_move ?_
 refine WL.bool 11 rfl (fun g1=>?_) (fun g1=>?_)
 ·skip
  refine WL.e e_move<|WL.e e_move ?_
  refine WL.h (h_call (rLess_spec b k (by omega)) k195 ?_)
  refine WL.e e_not<|WL.e e_pick_t<|WL.e e_assign<|WL.next<|WP.ret ?_
  exact PO.finE Tryz.results145 (rv_tmp rv_nil) (by rw [sIn_lt,g1,Bool.true_and];rfl) hK
 ·skip
  refine WL.skip<|WL.skip<|WL.skip<|WL.skip<|WL.e e_pick_f<|WL.e e_assign<|WL.next<|WP.ret ?_
  exact PO.finE Tryz.results145 (rv_tmp rv_nil) (by rw [sIn_lt,g1,Bool.false_and];rfl) hK
theorem rHas_spec {g:World} (a:SpanM) (ha:a.b.size≤1000):Spec Tryz.prog g 144 [a.v] [] fun K R=>K (.bool (hasS a)) R:=by
 refine Spec.intro Tryz.func144 rfl Tryz.ntmps144 rfl fun R K hK=>?_
 refine WP.seq<|WP.reg ?_
 refine WL.h (h_box fun b1=>?_)
 refine WL.e e_assign<|WL.next<|WP.seq<|WP.reg<|WL.e (e_fa f132_1)<|WL.e (e_load a9)<|WL.e (e_fa f132_0)<|WL.e (e_load a9) ?_
 refine WL.h (h_call (rLess_spec a.b a.a (by omega)) k195 ?_)
 refine WL.e e_not<|WL.e e_assign<|WL.next<|WP.ret ?_
 exact PO.fin Tryz.results144 (rv_tmp rv_nil) hK
theorem rMeet_spec {g:World} (a b:SpanM) (ha:a.a.size≤1000∧a.b.size≤1000) (hb:b.a.size≤1000∧b.b.size≤1000):Spec Tryz.prog g 62 [a.v,b.v] [] fun K R=>K (.bool (meet a b)) R:=by
 refine Spec.intro Tryz.func62 rfl Tryz.ntmps62 rfl fun R K hK=>?_
 refine WP.seq<|WP.reg ?_
 refine WL.h (h_box fun b1=>?_)
 refine WL.h (h_box fun b2=>?_)
 refine WL.e e_assign<|WL.next<|WP.seq<|WP.reg<|WL.e (e_loadN a132) ?_
 refine WL.h (h_call (rHas_spec a ha.2) k144 ?_)
 refine WL.e e_move ?_
 refine WL.bool 7 rfl (fun g1=>?_) (fun g1=>?_)
 ·skip
  refine WL.e (e_loadN a132) ?_
  refine WL.h (h_call (rHas_spec b hb.2) k144 ?_)
  refine WL.e e_pick_t<|WL.e e_move ?_
  refine WL.bool 11 rfl (fun g2=>?_) (fun g2=>?_)
  ·skip
   refine WL.e (e_fa f132_0)<|WL.e (e_load a9)<|WL.e (e_fa f132_0)<|WL.e (e_load a9)<|WL.e (e_fa f132_1)<|WL.e (e_load a9) ?_
   refine WL.h (h_call (rIn_spec a.a b.a b.b ha.1 hb.2) k145 ?_)
   refine WL.e e_move ?_
   refine WL.bool 19 rfl (fun g3=>?_) (fun g3=>?_)
   ·skip
    refine WL.skip<|WL.skip<|WL.skip<|WL.skip<|WL.skip<|WL.skip<|WL.skip<|WL.e e_pick_t<|WL.e e_pick_t<|WL.e e_assign<|WL.next<|WP.ret ?_
    exact PO.finE Tryz.results62 (rv_tmp rv_nil) (by rw [← meet_ref,g1,g2,g3];rfl) hK
   ·skip
    refine WL.e (e_fa f132_0)<|WL.e (e_load a9)<|WL.e (e_fa f132_0)<|WL.e (e_load a9)<|WL.e (e_fa f132_1)<|WL.e (e_load a9) ?_
    refine WL.h (h_call (rIn_spec b.a a.a a.b hb.1 ha.2) k145 ?_)
    refine WL.e e_pick_f<|WL.e e_pick_t<|WL.e e_assign<|WL.next<|WP.ret ?_
    exact PO.finE Tryz.results62 (rv_tmp rv_nil) (by rw [← meet_ref,g1,g2,g3];rfl) hK
  ·skip
   refine WL.skip<|WL.skip<|WL.skip<|WL.skip<|WL.skip<|WL.skip<|WL.skip<|WL.skip<|WL.skip<|WL.skip<|WL.skip<|WL.skip<|WL.skip<|WL.skip<|WL.skip<|WL.skip<|WL.e e_pick_f<|WL.e e_assign<|WL.next<|WP.ret ?_
   exact PO.finE Tryz.results62 (rv_tmp rv_nil) (by rw [← meet_ref,g1,g2];rfl) hK
 ·skip
  refine WL.skip<|WL.skip<|WL.e e_pick_f<|WL.e e_move<|WL.skip<|WL.skip<|WL.skip<|WL.skip<|WL.skip<|WL.skip<|WL.skip<|WL.skip<|WL.skip<|WL.skip<|WL.skip<|WL.skip<|WL.skip<|WL.skip<|WL.skip<|WL.skip<|WL.e e_pick_f<|WL.e e_assign<|WL.next<|WP.ret ?_
  exact PO.finE Tryz.results62 (rv_tmp rv_nil) (by rw [← meet_ref,g1];rfl) hK
theorem rOf_spec {g:World} (x:OpM):Spec Tryz.prog g 59 [x.v] [] fun K R=>K (spanOf x).v R:=by
 refine Spec.intro Tryz.func59 rfl Tryz.ntmps59 rfl fun R K hK=>?_
 refine WP.seq<|WP.reg ?_
 refine WL.h (h_box fun b1=>?_)
 refine WL.h (h_alloc z132 fun b2=>?_)
 refine WL.next<|WP.seq<|WP.seq<|WP.reg<|WL.e (e_fa f51_0)<|WL.e (e_load a49)<|WL.e (e_eql8 (b:=4))<|WL.next ?_
 refine WP.cond rfl (fun h=>?_) (fun h=>?_)
 ·replace h:x.kind=4:=by simpa using h
  refine WP.seq<|WP.reg<|WL.e (e_fa f51_1)<|WL.e (e_load a9)<|WL.e (e_fa f51_2)<|WL.e (e_load a9)<|WL.e (e_build z132 p132 (.o (.tmp 7) rfl<|.o (.tmp 9) rfl<|.n)) ?_
  refine WL.h' (h_store s132 ?_)
  refine WL.next<|WP.ret<|PO.past nofun ?_
  exact PO.fin Tryz.results59 (rv_cellN a132 rv_nil) (by simpa [spanOf,h,SpanM.v] using hK)
 ·replace h:x.kind≠4:=by simpa using h
  refine WP.skip<|PO.next<|WP.seq<|WP.reg<|WL.e (e_fa f51_1)<|WL.e (e_load a9)<|WL.e (e_fa f51_1)<|WL.e (e_load a9)<|WL.e (e_build z132 p132 (.o (.tmp 12) rfl<|.o (.tmp 14) rfl<|.n)) ?_
  refine WL.h' (h_store s132 ?_)
  refine WL.next<|WP.ret ?_
  exact PO.fin Tryz.results59 (rv_cellN a132 rv_nil) (by simpa [spanOf,h,SpanM.v] using hK)
theorem rWrites_spec {g:World} (x:OpM):Spec Tryz.prog g 60 [x.v] [] fun K R=>K (.bool (writes x)) R:=by
 refine Spec.intro Tryz.func60 rfl Tryz.ntmps60 rfl fun R K hK=>?_
 refine WP.seq<|WP.reg ?_
 refine WL.h (h_box fun b1=>?_)
 refine WL.e e_assign<|WL.next<|WP.seq<|WP.reg<|WL.e (e_fa f51_0)<|WL.e (e_load a49)<|WL.e (e_eql8 (b:=2))<|WL.e e_move ?_
 refine WL.bool 6 rfl (fun g1=>?_) (fun g1=>?_)
 ·skip
  refine WL.skip<|WL.skip<|WL.skip<|WL.e e_pick_t<|WL.e e_assign<|WL.next<|WP.ret ?_
  exact PO.finE Tryz.results60 (rv_tmp rv_nil) (by simp at g1;simp [writes,g1]) hK
 ·skip
  refine WL.e (e_fa f51_0)<|WL.e (e_load a49)<|WL.e (e_eql8 (b:=3))<|WL.e e_pick_f<|WL.e e_assign<|WL.next<|WP.ret ?_
  exact PO.finE Tryz.results60 (rv_tmp rv_nil) (by simp at g1;simp [writes,g1]) hK
theorem rKey_spec {g:World} (s:ByteArray) (hs:s.size≤9223372036854775807):Spec Tryz.prog g 142 [.string s] [] fun K R=>K (.bool (keyOk s)) R:=by
 refine Spec.intro Tryz.func142 rfl Tryz.ntmps142 rfl fun R K hK=>?_
 refine WP.seq<|WP.reg<|WL.e e_assign<|WL.next<|WP.seq<|WP.seq<|WP.reg<|WL.e e_assign<|WL.next<|WP.block<|WP.loopK (fun (i:Nat)=>[(3,.int .i64 i)]) (fun (i:Nat)=>R) [(0,_)] (fun (i:Nat)=>i≤s.size∧(s.toList.take i).all keyByte=true) (fun (i:Nat)=>s.size - i) 0 (⟨Nat.zero_le _,rfl⟩) ?_
 rintro i ⟨hi,hb⟩
 refine WP.seq<|WP.seq<|WP.reg<|WL.e e_move<|WL.e e_move<|WL.e (e_len_str Tryz.underlying9)<|WL.e e_lss<|WL.next ?_
 refine WP.cond rfl (fun h3=>?_) (fun h3=>?_)
 ·replace h3:i < s.size:=by simp at h3;omega
  obtain ⟨c,hc⟩:∃ c,s[i]?=some c:=⟨_,getElem?_pos s i h3⟩
  refine WP.skip<|PO.next<|WP.seq<|WP.block<|WP.seq<|WP.reg<|WL.e e_move<|WL.e e_move<|WL.e (e_idxS (n:=i) (b:=c) Tryz.underlying9 (hb:=hc))<|WL.e e_assign<|WL.next<|WP.seq<|WP.reg<|WL.e e_move<|WL.e e_lss<|WL.e e_move ?_
  refine WL.join 19 (.bool ((decide ((c.toNat:Int) < 97) || decide ((c.toNat:Int) > 122)))) (.c (.c (.c .n))) ?_ ?_
  ·refine WL.bool 16 rfl (fun hg=>?_) (fun hg=>?_)
   ·skip
    refine WL.skip<|WL.skip<|WL.e e_pick_t ?_
    exact WL.nil (PO.joined rfl (by simp at hg;simp [hg]))
   ·skip
    refine WL.e e_move<|WL.e e_gtr<|WL.e e_pick_f ?_
    exact WL.nil (PO.joined rfl (by simp at hg;simp;omega))
  refine WL.e e_move ?_
  refine WL.bool 20 rfl (fun h6=>?_) (fun h6=>?_)
  ·skip
   refine WL.e e_move<|WL.e e_lss<|WL.e e_move ?_
   refine WL.join 26 (.bool ((decide ((c.toNat:Int) < 48) || decide ((c.toNat:Int) > 57)))) (.c (.c (.c .n))) ?_ ?_
   ·refine WL.bool 23 rfl (fun hg=>?_) (fun hg=>?_)
    ·skip
     refine WL.skip<|WL.skip<|WL.e e_pick_t ?_
     exact WL.nil (PO.joined rfl (by simp at hg;simp [hg]))
    ·skip
     refine WL.e e_move<|WL.e e_gtr<|WL.e e_pick_f ?_
     exact WL.nil (PO.joined rfl (by simp at hg;simp;omega))
   refine WL.e e_pick_t<|WL.e e_move ?_
   refine WL.bool 28 rfl (fun h14=>?_) (fun h14=>?_)
   ·skip
    refine WL.e e_move<|WL.e (e_neq8 (b:=95))<|WL.e e_pick_t<|WL.next ?_
    refine WP.cond rfl (fun h9=>?_) (fun h9=>?_)
    ·replace h9:c≠95:=by simpa using h9
     refine WP.seq<|WP.reg<|WL.e e_assign<|WL.next<|WP.ret<|PO.blockR<|PO.past nofun<|PO.round nofun<|PO.blockR<|PO.past nofun ?_
     exact PO.finE Tryz.results142 (rv_tmp rv_nil) (by rw [all_bad hc (kb_bad h6 h14 h9)];rfl) hK
    ·replace h9:c=95:=by simpa using h9
     refine WP.skip<|PO.blockN<|PO.next<|WP.reg<|WL.e e_move<|WL.e (e_add (c:=((i+1:Nat):Int)) rfl rfl (by rw [w_i64 (by omega) (by omega)];omega))<|WL.e e_assign<|WL.nil ?_
     exact PO.againK (i+1) ⟨by omega,all_step hb hc (kb_under h9)⟩ (by omega)
   ·skip
    refine WL.skip<|WL.skip<|WL.e e_pick_f<|WL.next<|WP.cond_f rfl<|WP.skip<|PO.blockN<|PO.next<|WP.reg<|WL.e e_move<|WL.e (e_add (c:=((i+1:Nat):Int)) rfl rfl (by rw [w_i64 (by omega) (by omega)];omega))<|WL.e e_assign<|WL.nil ?_
    exact PO.againK (i+1) ⟨by omega,all_step hb hc (kb_digit h14)⟩ (by omega)
  ·skip
   refine WL.skip<|WL.skip<|WL.skip<|WL.skip<|WL.skip<|WL.skip<|WL.e e_pick_f<|WL.e e_move<|WL.skip<|WL.skip<|WL.e e_pick_f<|WL.next<|WP.cond_f rfl<|WP.skip<|PO.blockN<|PO.next<|WP.reg<|WL.e e_move<|WL.e (e_add (c:=((i+1:Nat):Int)) rfl rfl (by rw [w_i64 (by omega) (by omega)];omega))<|WL.e e_assign<|WL.nil ?_
   exact PO.againK (i+1) ⟨by omega,all_step hb hc (kb_letter h6)⟩ (by omega)
 ·replace h3:s.size≤i:=by simp at h3;omega
  refine WP.exit<|PO.past nofun<|PO.round nofun<|PO.blockX<|PO.next<|WP.seq<|WP.reg<|WL.e e_move<|WL.e (e_len_str Tryz.underlying9)<|WL.e e_geq<|WL.e e_move ?_
  refine WL.bool 35 rfl (fun g1=>?_) (fun g1=>?_)
  ·skip
   refine WL.e e_move<|WL.e (e_len_str Tryz.underlying9)<|WL.e e_leq<|WL.e e_pick_t<|WL.e e_assign<|WL.next<|WP.ret ?_
   exact PO.finE Tryz.results142 (rv_tmp rv_nil) (by rw [all_done hb h3];show Value.bool _=Value.bool _;congr 1;rw [Bool.eq_iff_iff];simp at g1 ⊢;omega) hK
  ·skip
   refine WL.skip<|WL.skip<|WL.skip<|WL.e e_pick_f<|WL.e e_assign<|WL.next<|WP.ret ?_
   exact PO.finE Tryz.results142 (rv_tmp rv_nil) (by rw [all_done hb h3];show Value.bool _=Value.bool _;congr 1;rw [Bool.eq_iff_iff];simp at g1 ⊢;omega) hK
theorem rOp_spec {g:World} (x:OpM) (hk:x.key.size≤9223372036854775807) (ht:x.to.size≤9223372036854775807):Spec Tryz.prog g 58 [x.v] [] fun K R=>K (.bool (opOk x)) R:=by
 refine Spec.intro Tryz.func58 rfl Tryz.ntmps58 rfl fun R K hK=>?_
 refine WP.seq<|WP.reg ?_
 refine WL.h (h_box fun b1=>?_)
 refine WL.e e_assign<|WL.next<|WP.seq<|WP.seq<|WP.reg<|WL.e (e_fa f51_1)<|WL.e (e_load a9) ?_
 refine WL.h (h_call (rKey_spec x.key hk) k142 ?_)
 refine WL.e e_not<|WL.next ?_
 refine WP.cond rfl (fun h1=>?_) (fun h1=>?_)
 ·replace h1:keyOk x.key=false:=by simpa using h1
  refine WP.seq<|WP.reg<|WL.e e_assign<|WL.next<|WP.ret<|PO.past nofun ?_
  exact PO.finE Tryz.results58 (rv_tmp rv_nil) (by rw [opOk_bad h1];rfl) hK
 ·replace h1:keyOk x.key=true:=by simpa using h1
  refine WP.skip<|PO.next<|WP.seq<|WP.seq<|WP.reg<|WL.e (e_fa f51_0)<|WL.e (e_load a49)<|WL.next<|WP.block<|WP.seq<|WP.seq<|WP.reg<|WL.e (e_eql8 (b:=1))<|WL.e e_assign<|WL.next ?_
  refine WP.cond rfl (fun h2=>?_) (fun h2=>?_)
  ·skip
   refine WP.skip<|PO.next ?_
   refine WP.cond rfl (fun h3=>?_) (fun h3=>?_)
   ·replace h2:x.kind=1:=by simpa using h2
    refine WP.seq<|WP.reg<|WL.e (e_fa f51_2)<|WL.e (e_load a9)<|WL.e e_seq<|WL.e e_move ?_
    refine WL.bool 15 rfl (fun g1=>?_) (fun g1=>?_)
    ·skip
     refine WL.e (e_fa f51_3)<|WL.e (e_load a48)<|WL.e (e_eql32 (b:=0))<|WL.e e_pick_t<|WL.e e_assign<|WL.next<|WP.ret<|PO.blockR<|PO.past nofun ?_
     exact PO.finE Tryz.results58 (rv_tmp rv_nil) (by rw [opOk_get h1 (.inl h2),g1,Bool.true_and];rfl) hK
    ·skip
     refine WL.skip<|WL.skip<|WL.skip<|WL.e e_pick_f<|WL.e e_assign<|WL.next<|WP.ret<|PO.blockR<|PO.past nofun ?_
     exact PO.finE Tryz.results58 (rv_tmp rv_nil) (by rw [opOk_get h1 (.inl h2),g1,Bool.false_and];rfl) hK
   ·rw [h2] at h3;cases h3
  ·skip
   refine WP.reg<|WL.e (e_eql8 (b:=3))<|WL.e e_assign<|WL.next ?_
   refine WP.cond rfl (fun h3=>?_) (fun h3=>?_)
   ·replace h3:x.kind=3:=by simpa using h3
    refine WP.seq<|WP.reg<|WL.e (e_fa f51_2)<|WL.e (e_load a9)<|WL.e e_seq<|WL.e e_move ?_
    refine WL.bool 15 rfl (fun g1=>?_) (fun g1=>?_)
    ·skip
     refine WL.e (e_fa f51_3)<|WL.e (e_load a48)<|WL.e (e_eql32 (b:=0))<|WL.e e_pick_t<|WL.e e_assign<|WL.next<|WP.ret<|PO.blockR<|PO.past nofun ?_
     exact PO.finE Tryz.results58 (rv_tmp rv_nil) (by rw [opOk_get h1 (.inr h3),g1,Bool.true_and];rfl) hK
    ·skip
     refine WL.skip<|WL.skip<|WL.skip<|WL.e e_pick_f<|WL.e e_assign<|WL.next<|WP.ret<|PO.blockR<|PO.past nofun ?_
     exact PO.finE Tryz.results58 (rv_tmp rv_nil) (by rw [opOk_get h1 (.inr h3),g1,Bool.false_and];rfl) hK
   ·replace h2:x.kind≠1:=by simpa using h2
    replace h3:x.kind≠3:=by simpa using h3
    refine WP.seq<|WP.reg<|WL.e (e_eql8 (b:=2))<|WL.e e_assign<|WL.next ?_
    refine WP.cond rfl (fun h4=>?_) (fun h4=>?_)
    ·replace h4:x.kind=2:=by simpa using h4
     refine WP.seq<|WP.reg<|WL.e (e_fa f51_2)<|WL.e (e_load a9)<|WL.e e_seq<|WL.e e_assign<|WL.next<|WP.ret<|PO.blockR<|PO.past nofun ?_
     exact PO.finE Tryz.results58 (rv_tmp rv_nil) (by rw [opOk_put h1 h4];rfl) hK
    ·replace h4:x.kind≠2:=by simpa using h4
     refine WP.seq<|WP.reg<|WL.e (e_eql8 (b:=4))<|WL.e e_assign<|WL.next ?_
     refine WP.cond rfl (fun h5=>?_) (fun h5=>?_)
     ·replace h5:x.kind=4:=by simpa using h5
      refine WP.seq<|WP.reg<|WL.e (e_fa f51_2)<|WL.e (e_load a9) ?_
      refine WL.h (h_call (rKey_spec x.to ht) k142 ?_)
      refine WL.e e_move ?_
      refine WL.bool 30 rfl (fun g1=>?_) (fun g1=>?_)
      ·skip
       refine WL.e (e_fa f51_3)<|WL.e (e_load a48)<|WL.e (e_eql32 (b:=0))<|WL.e e_pick_t<|WL.e e_assign<|WL.next<|WP.ret<|PO.blockR<|PO.past nofun ?_
       exact PO.finE Tryz.results58 (rv_tmp rv_nil) (by rw [opOk_scan h1 h5,g1,Bool.true_and];rfl) hK
      ·skip
       refine WL.skip<|WL.skip<|WL.skip<|WL.e e_pick_f<|WL.e e_assign<|WL.next<|WP.ret<|PO.blockR<|PO.past nofun ?_
       exact PO.finE Tryz.results58 (rv_tmp rv_nil) (by rw [opOk_scan h1 h5,g1,Bool.false_and];rfl) hK
     ·replace h5:x.kind≠4:=by simpa using h5
      refine WP.skip<|PO.blockN<|PO.next<|WP.seq<|WP.reg<|WL.e e_assign<|WL.next<|WP.ret ?_
      exact PO.finE Tryz.results58 (rv_tmp rv_nil) (by rw [opOk_none h2 h4 h3 h5];rfl) hK
end Go.SL
namespace Go.SL.Fc
open Go Go.Proofs Go.SL
theorem k133:callable Tryz.prog 133=true:=by kernel_rfl
theorem k134:callable Tryz.prog 134=true:=by kernel_rfl
theorem k192:callable Tryz.prog 192=true:=by kernel_rfl
theorem k47:callable Tryz.prog 47=true:=by kernel_rfl
end Go.SL.Fc
namespace Go.SL
open Go Go.Proofs Fc
theorem rFind_spec {g:World} {A:HP} {u:Value} {l:List RowM} (k:ByteArray) (hA:RL A 2 RowM.c u l) (hn:l.length≤68719476000):Spec Tryz.prog g 134 [u,.string k] [A] fun K R=>K (.tuple #[.int .i64 (lowI l k),.bool (hasI l k)]) (A::R):=by
 refine Spec.intro Tryz.func134 rfl Tryz.ntmps134 rfl fun R K hK=>?_
 refine WP.seq<|WP.reg<|WL.e e_assign<|WL.e e_assign<|WL.next<|WP.seq<|WP.seq<|WP.reg<|WL.e e_assign<|WL.next<|WP.block<|WP.loopK (fun (i:Nat)=>[(6,.int .i64 i)]) (fun (i:Nat)=>A::R) [(0,_),(1,_)] (fun (i:Nat)=>i≤l.length∧∀ r ∈ l.take i,sLt r.key k=true) (fun (i:Nat)=>l.length - i) 0 (⟨Nat.zero_le _,by simp⟩) ?_
 rintro i ⟨hi,hb⟩
 refine WP.seq<|WP.seq<|WP.reg<|WL.e e_move<|WL.e e_move<|WL.e (el_len sl59 hA)<|WL.e e_lss<|WL.next ?_
 refine WP.cond rfl (fun h1=>?_) (fun h1=>?_)
 ·have hlt:i < l.length:=by simp at h1;omega
  obtain ⟨x,hx⟩:∃ x,l[i]?=some x:=⟨_,List.getElem?_eq_getElem hlt⟩
  refine WP.skip<|PO.next<|WP.seq<|WP.block<|WP.seq<|WP.seq<|WP.reg<|WL.e e_move<|WL.e e_move<|WL.e (el_ia (j:=i) sl59 hA hlt)<|WL.e (el_fa (j:=i) f78_0 hA hlt)<|WL.e (el_load0 (j:=i) (a:=x) a9 rowE hA hx)<|WL.e e_move<|WL.e e_seq<|WL.next ?_
  refine WP.cond rfl (fun h2=>?_) (fun h2=>?_)
  ·have hlow:lowI l k=i:=low_of hi hb fun y hy=>by rw [hx] at hy;cases hy;rw [sEq_iff.1 h2];exact sLt_irrefl k
   refine WP.seq<|WP.reg<|WL.e e_move<|WL.e e_assign<|WL.e e_assign<|WL.next<|WP.ret<|PO.past nofun<|PO.blockR<|PO.past nofun<|PO.round nofun<|PO.blockR<|PO.past nofun ?_
   exact PO.finE Tryz.results134 (rv_tmp (rv_tmp rv_nil)) (by rw [hlow,has_of hlow hx,h2];rfl) hK
  ·skip
   refine WP.skip<|PO.next<|WP.seq<|WP.reg<|WL.e e_move<|WL.e e_move<|WL.e (el_ia (j:=i) sl59 hA hlt)<|WL.e (el_fa (j:=i) f78_0 hA hlt)<|WL.e (el_load0 (j:=i) (a:=x) a9 rowE hA hx)<|WL.e e_move<|WL.e e_sgt<|WL.next ?_
   refine WP.cond rfl (fun h3=>?_) (fun h3=>?_)
   ·have hlow:lowI l k=i:=low_of hi hb fun y hy=>by rw [hx] at hy;cases hy;exact sLt_asymm (gt_t h3)
    refine WP.seq<|WP.reg<|WL.e e_move<|WL.e e_assign<|WL.e e_assign<|WL.next<|WP.ret<|PO.blockR<|PO.past nofun<|PO.round nofun<|PO.blockR<|PO.past nofun ?_
    exact PO.finE Tryz.results134 (rv_tmp (rv_tmp rv_nil)) (by rw [hlow,has_of hlow hx,h2];rfl) hK
   ·skip
    refine WP.skip<|PO.blockN<|PO.next<|WP.reg<|WL.e e_move<|WL.e (e_add (c:=((i+1:Nat):Int)) rfl rfl (by rw [w_i64 (by omega) (by omega)];omega))<|WL.e e_assign<|WL.nil ?_
    exact PO.againK (i+1) ⟨by omega,find_step hb hx h2 (gt_f h3)⟩ (by omega)
 ·have hend:l.length≤i:=by simp at h1;omega
  refine WP.exit<|PO.past nofun<|PO.round nofun<|PO.blockX<|PO.next<|WP.seq<|WP.reg<|WL.e e_move<|WL.e (el_len sl59 hA)<|WL.e e_assign<|WL.e e_assign<|WL.next<|WP.ret ?_
  have hlow:lowI l k=l.length:=by
   obtain rfl:i=l.length:=by omega
   exact low_of hi hb fun y hy=>by rw [List.getElem?_eq_none (Nat.le_refl _)] at hy;cases hy
  exact PO.finE Tryz.results134 (rv_tmp (rv_tmp rv_nil)) (by rw [hlow,has_end hlow (List.getElem?_eq_none (Nat.le_refl _))];rfl) hK
theorem rPut_spec {g:World} {A:HP} {u:Value} {l:List RowM} (k:ByteArray) (v:UInt32) (hA:RL A 2 RowM.c u l) (hn:l.length≤68719470000):Spec Tryz.prog g 47 [u,.string k,.int .u32 v.toNat] [A] fun K R=>∀ a m c B,Ge A B→RL B 2 RowM.c (.slice a m c) (setR l k v)→K (.slice a m c) (B::R):=by
 refine Spec.intro Tryz.func47 rfl Tryz.ntmps47 rfl fun R K hK=>?_
 refine WP.seq<|WP.reg<|WL.e e_assign<|WL.next<|WP.seq<|WP.reg<|WL.e e_move<|WL.e e_move ?_
 refine WL.h (h_call (rFind_spec k hA (by omega)) k134 ?_)
 have hle:=lowI_le l k
 refine WL.e e_move<|WL.e e_extract<|WL.e e_extract<|WL.e e_assign<|WL.e e_assign<|WL.next<|WP.seq<|WP.reg<|WL.e e_move<|WL.e e_move<|WL.e (el_to (hi:=lowI l k) sl59 hA hle)<|WL.nils 78 2 RowM.c none ?_
 refine WL.h (hl_append (xs:=([]:List RowM)) sl59 rowE z78 (RL.to_ (hi:=lowI l k) rowE hA hle) (by simp;omega) fun a1 m1 c1=>?_)
 rw [List.nil_append]
 refine WL.e e_assign<|WL.next<|WP.seq<|WP.reg<|WL.e e_move<|WL.e e_move<|WL.e e_move<|WL.e (e_build z78 p78 (.o (.tmp 21) rfl<|.o (.tmp 22) rfl<|.n)) ?_
 refine WL.h (h_bs sl59 z78 (.a2 (.tmp 23) rfl<|.n) fun b1=>?_)
 refine WL.h (hl_append (xs:=l.take (lowI l k)) sl59 rowE z78 (lit_rl rowE [⟨k,v⟩] rfl) (by simp;omega) fun a2 m2 c2=>?_)
 refine WL.e e_assign<|WL.next<|WP.seq<|WP.seq<|WP.reg<|WL.e e_move<|WL.next ?_
 refine WP.cond rfl (fun h1=>?_) (fun h1=>?_)
 ·have h4:=has_lt h1
  refine WP.reg<|WL.e e_move<|WL.e (e_add (c:=((lowI l k+1:Nat):Int)) rfl rfl (by rw [w_i64 (by omega) (by omega)];omega))<|WL.e e_assign<|WL.next<|WP.seq<|WP.reg<|WL.e e_move<|WL.e e_move<|WL.e e_move<|WL.e (el_from (lo:=lowI l k+1) sl59 hA (by omega)) ?_
  refine WL.h (hl_append (xs:=l.take (lowI l k)++[⟨k,v⟩]) sl59 rowE z78 (RL.from_ (lo:=lowI l k+1) rowE hA (by omega)) (by simp;omega) fun a9 m9 c9=>?_)
  rw [← setR_has v h1]
  refine WL.e e_assign<|WL.next<|WP.ret<|PO.cls (A:=bun [A,Sl 78 2 RowM.c (.slice a9 m9 c9) (setR l k v)]) (B:=[A,Sl 78 2 RowM.c (.slice a9 m9 c9) (setR l k v)]) (fun S h=>h) ?_
  exact PO.fin Tryz.results47 (rv_tmp rv_nil) (hK a9 m9 c9 _ Ge.one (RL.ge sl_rl Ge.two))
 ·skip
  refine WP.skip<|PO.next<|WP.seq<|WP.reg<|WL.e e_move<|WL.e e_move<|WL.e e_move<|WL.e (el_from (lo:=lowI l k) sl59 hA hle) ?_
  refine WL.h (hl_append (xs:=l.take (lowI l k)++[⟨k,v⟩]) sl59 rowE z78 (RL.from_ (lo:=lowI l k) rowE hA hle) (by simp;omega) fun a9 m9 c9=>?_)
  rw [← setR_not v h1]
  refine WL.e e_assign<|WL.next<|WP.ret<|PO.cls (A:=bun [A,Sl 78 2 RowM.c (.slice a9 m9 c9) (setR l k v)]) (B:=[A,Sl 78 2 RowM.c (.slice a9 m9 c9) (setR l k v)]) (fun S h=>h) ?_
  exact PO.fin Tryz.results47 (rv_tmp rv_nil) (hK a9 m9 c9 _ Ge.one (RL.ge sl_rl Ge.two))
theorem rDel_spec {g:World} {A:HP} {u:SV} {l:List RowM} (k:ByteArray) (hA:RL A 2 RowM.c u.v l) (hn:l.length≤68719470000):Spec Tryz.prog g 192 [u.v,.string k] [A] fun K R=>∀ a m c B,Ge A B→RL B 2 RowM.c (.slice a m c) (dropR l k)→K (.slice a m c) (B::R):=by
 refine Spec.intro Tryz.func192 rfl Tryz.ntmps192 rfl fun R K hK=>?_
 refine WP.seq<|WP.reg<|WL.e e_assign<|WL.next<|WP.seq<|WP.reg<|WL.e e_move<|WL.e e_move ?_
 refine WL.h (h_call (rFind_spec k hA (by omega)) k134 ?_)
 have hle:=lowI_le l k
 refine WL.e e_move<|WL.e e_extract<|WL.e e_extract<|WL.e e_assign<|WL.e e_assign<|WL.next<|WP.seq<|WP.seq<|WP.reg<|WL.e e_move<|WL.e e_not<|WL.next ?_
 refine WP.cond rfl (fun h1=>?_) (fun h1=>?_)
 ·replace h1:hasI l k=false:=by simpa using h1
  refine WP.seq<|WP.reg<|WL.e e_move<|WL.e e_assign<|WL.next<|WP.ret<|PO.past nofun ?_
  exact PO.fin Tryz.results192 (rv_tmp rv_nil) (hK _ _ _ _ (Ge.refl A) (by rw [dropR_not h1];exact hA))
 ·replace h1:hasI l k=true:=by simpa using h1
  have h4:=has_lt h1
  refine WP.nils 78 2 RowM.c none ?_
  refine WP.skip<|PO.next<|WP.seq<|WP.draws mixedOk 10<|RW.e 0 rfl e_move<|RW.e 1 rfl e_move<|RW.e 2 rfl (el_to (hi:=lowI l k) sl59 hA hle)<|RW.e 4 rfl e_move<|RW.e 5 rfl e_move<|RW.e 6 rfl (e_add (c:=((lowI l k+1:Nat):Int)) rfl rfl (by rw [w_i64 (by omega) (by omega)];omega))<|RW.e 7 rfl (el_from (lo:=lowI l k+1) sl59 hA (by omega)) ?_
  refine RW.any (is:=[3]) rfl ⟨?_,trivial⟩
  refine RWat.h rfl rfl rfl ?_
  refine (hl_append (xs:=([]:List RowM)) sl59 rowE z78 (RL.to_ (hi:=lowI l k) rowE hA hle) (by simp;omega) fun a1 m1 c1=>?_)
  rw [List.nil_append]
  refine ⟨⟨⟨_,rfl,.inl ⟨rfl,(el_from (lo:=lowI l k+1) sl59 hA (by omega))⟩⟩,⟨_,rfl,.inl ⟨rfl,(e_add (c:=((lowI l k+1:Nat):Int)) rfl rfl (by rw [w_i64 (by omega) (by omega)];omega))⟩⟩,⟨_,rfl,.inl ⟨rfl,e_move⟩⟩,⟨_,rfl,.inl ⟨rfl,e_move⟩⟩,trivial⟩,?_⟩
  refine RW.any (is:=[8]) rfl ⟨?_,trivial⟩
  refine RWat.h rfl rfl rfl ?_
  refine (hl_append (xs:=l.take (lowI l k)) sl59 rowE z78 (RL.from_ (lo:=lowI l k+1) rowE hA (by omega)) (by simp;omega) fun a9 m9 c9=>?_)
  rw [← dropR_has h1]
  refine ⟨trivial,?_⟩
  refine RW.e 9 rfl e_assign<|RW.done<|PO.next<|WP.ret<|PO.cls (A:=bun [A,Sl 78 2 RowM.c (.slice a9 m9 c9) (dropR l k)]) (B:=[A,Sl 78 2 RowM.c (.slice a9 m9 c9) (dropR l k)]) (fun S h=>h) ?_
  exact PO.fin Tryz.results192 (rv_tmp rv_nil) (hK a9 m9 c9 _ Ge.one (RL.ge sl_rl Ge.two))
theorem rScan_spec {g:World} {A:HP} {u:Value} {l:List RowM} (s:SpanM) (most:Nat) (hA:RL A 2 RowM.c u l) (hn:l.length≤68719470000) (hk:kSz l) (hb:s.b.size≤1000):Spec Tryz.prog g 143 [u,s.v,.int .i64 most] [A] fun K R=>∀ a m c,K (.slice a m c) (Sl 78 2 RowM.c (.slice a m c) (scanR l s most)::A::R):=by
 refine Spec.intro Tryz.func143 rfl Tryz.ntmps143 rfl fun R K hK=>?_
 refine WP.seq<|WP.reg ?_
 refine WL.h (h_box fun b1=>?_)
 refine WL.e e_assign<|WL.next<|WP.seq<|WP.reg<|WL.e e_assign<|WL.next<|WP.seq<|WP.seq<|WP.reg<|WL.e e_assign<|WL.next<|WP.block<|WP.nils 78 2 RowM.c none ?_
 rw [show ([]:List RowM)=scanR (l.take 0) s most by simp [scanR]]
 refine WP.loopK (fun (x:Nat × Value)=>[(8,.int .i64 x.1),(7,x.2)]) (fun (x:Nat × Value)=>Sl 78 2 RowM.c (x.2) (scanR (l.take x.1) s most)::A::cl b1 132 (SpanM.c s)::R) [(0,_),(2,_),(4,_),(6,_)] (fun (x:Nat × Value)=>x.1≤l.length) (fun (x:Nat × Value)=>l.length - x.1) (0,.slice none 0 0) (Nat.zero_le _) ?_
 rintro ⟨i,v⟩ hi
 simp only at hi
 dsimp only
 have hsl:=scan_len (l:=l.take i) (s:=s) (most:=most)
 rw [List.length_take] at hsl
 refine WP.seq<|WP.seq<|WP.reg<|WL.e e_move<|WL.e e_move<|WL.e (el_len sl59 hA)<|WL.e e_lss<|WL.e e_move ?_
 refine WL.join 18 (.bool (decide (i < l.length∧(scanR (l.take i) s most).length < most))) (.c (.c (.c (.c (.c .n))))) ?_ ?_
 ·refine WL.bool 13 rfl (fun hg=>?_) (fun hg=>?_)
  ·skip
   refine WL.e e_move<|WL.e (el_len (xs:=scanR (l.take i) s most) sl59 sl_rl)<|WL.e e_move<|WL.e e_lss<|WL.e e_pick_t ?_
   exact WL.nil (PO.joined rfl (by simp at hg;simp [hg]))
  ·skip
   refine WL.skip<|WL.skip<|WL.skip<|WL.skip<|WL.e e_pick_f ?_
   exact WL.nil (PO.joined rfl (by simp at hg;simp;omega))
 refine WL.next ?_
 refine WP.cond rfl (fun h1=>?_) (fun h1=>?_)
 ·replace h1:=of_decide_eq_true h1
  have hlt:=h1.1
  obtain ⟨x,hx⟩:∃ x,l[i]?=some x:=⟨_,List.getElem?_eq_getElem hlt⟩
  refine WP.skip<|PO.next<|WP.seq<|WP.block<|WP.seq<|WP.draws mixedOk 10<|RW.e 0 rfl e_move<|RW.e 1 rfl e_move<|RW.e 2 rfl (el_ia (j:=i) sl59 hA hlt)<|RW.e 3 rfl (el_fa (j:=i) f78_0 hA hlt)<|RW.e 4 rfl (el_load0 (j:=i) (a:=x) a9 rowE hA hx)<|RW.e 5 rfl (e_fa f132_0)<|RW.e 6 rfl (e_load a9)<|RW.e 7 rfl (e_fa f132_1)<|RW.e 8 rfl (e_load a9) ?_
  refine RW.any (is:=[9]) rfl ⟨?_,trivial⟩
  refine RWat.h rfl rfl rfl ?_
  refine (h_call (rIn_spec x.key s.a s.b (hk x (List.mem_of_getElem? hx)) hb) k145 ?_)
  refine ⟨trivial,?_⟩
  refine RW.done<|PO.next ?_
  refine WP.cond rfl (fun h4=>?_) (fun h4=>?_)
  ·skip
   refine WP.reg<|WL.e e_move<|WL.e e_move<|WL.e e_move<|WL.e (el_ia (j:=i) sl59 hA hlt)<|WL.e (el_loadN (j:=i) (a:=x) a78 rowE hA hx) ?_
   refine WL.h (h_bs sl59 z78 (.a2 (.tmp 35) rfl<|.n) fun b2=>?_)
   refine WL.h (hl_append (xs:=scanR (l.take i) s most) sl59 rowE z78 (lit_rl rowE [x] rfl) (by simp;omega) fun a9 m9 c9=>?_)
   refine WL.e e_assign<|WL.nil<|PO.blockN<|PO.next<|WP.reg<|WL.e e_move<|WL.e (e_add (c:=((i+1:Nat):Int)) rfl rfl (by rw [w_i64 (by omega) (by omega)];omega))<|WL.e e_assign<|WL.nil ?_
   rw [← scanMore hx h4 h1.2]
   exact PO.againK (i+1,.slice a9 m9 c9) (by simp only;omega) (by simp only;omega)
  ·skip
   refine WP.skip<|PO.blockN<|PO.next<|WP.reg<|WL.e e_move<|WL.e (e_add (c:=((i+1:Nat):Int)) rfl rfl (by rw [w_i64 (by omega) (by omega)];omega))<|WL.e e_assign<|WL.nil ?_
   rw [← scan_out hx h4]
   exact PO.againK (i+1,v) (by simp only;omega) (by simp only;omega)
 ·replace h1:=of_decide_eq_false h1
  have hfin:scanR l s most=scanR (l.take i) s most:=by
   by_cases h5:i < l.length
   ·exact scan_full (by omega)
   ·exact scan_end (by omega)
  refine WP.exit<|PO.past nofun<|PO.round nofun<|PO.blockX<|PO.next<|WP.seq<|WP.reg<|WL.e e_move<|WL.e e_assign<|WL.next<|WP.ret ?_
  rw [← hfin]
  refine PO.sh (u:=v) ?_
  rintro a8 m8 c8 rfl
  exact PO.fin Tryz.results143 (rv_tmp rv_nil) (hK a8 m8 c8)
theorem rChange_spec {g:World} {A C:HP} {u:SV} {y:Value} {l:List RowM} {cs:List ChgM} (hA:RL A 2 RowM.c u.v l) (hC:RL C 3 ChgM.c y cs) (hn:l.length+cs.length≤68719470000):Spec Tryz.prog g 133 [u.v,y] [A,C] fun K R=>∀ a m c B,Ge A B→RL B 2 RowM.c (.slice a m c) (changeR l cs)→K (.slice a m c) (B::C::R):=by
 refine Spec.intro Tryz.func133 rfl Tryz.ntmps133 rfl fun R K hK=>?_
 refine WP.seq<|WP.reg<|WL.e e_assign<|WL.next<|WP.seq<|WP.seq<|WP.reg<|WL.e e_assign<|WL.next<|WP.block<|WP.loopK (fun (x:HP × SV × Nat)=>[(0,x.2.1.v),(5,.int .i64 x.2.2)]) (fun (x:HP × SV × Nat)=>x.1::C::R) [(1,_),(4,_)] (fun (x:HP × SV × Nat)=>Ge A x.1∧RL x.1 2 RowM.c x.2.1.v (changeR l (cs.take x.2.2))∧x.2.2≤cs.length) (fun (x:HP × SV × Nat)=>cs.length - x.2.2) (A,u,0) (⟨Ge.refl A,hA,Nat.zero_le _⟩) ?_
 rintro ⟨B,v,i⟩ ⟨hG,hB,hi⟩
 simp only at hG hB hi
 dsimp only
 have hl2:=changeR_len (cs.take i) l
 rw [List.length_take] at hl2
 refine WP.seq<|WP.seq<|WP.reg<|WL.e e_move<|WL.e e_move<|WL.e (el_len sl96 hC)<|WL.e e_lss<|WL.next ?_
 refine WP.cond rfl (fun h1=>?_) (fun h1=>?_)
 ·have hlt:i < cs.length:=by simp at h1;omega
  obtain ⟨x,hx⟩:∃ x,cs[i]?=some x:=⟨_,List.getElem?_eq_getElem hlt⟩
  refine WP.skip<|PO.next<|WP.seq<|WP.block<|WP.seq<|WP.reg<|WL.e e_move<|WL.e e_move<|WL.e (el_ia (j:=i) sl96 hC hlt)<|WL.e (el_fa (j:=i) f123_2 hC hlt)<|WL.e (el_load (f:=2) (j:=i) (a:=x) a4 chgE hC hx)<|WL.next ?_
  refine WP.cond rfl (fun h2=>?_) (fun h2=>?_)
  ·skip
   refine WP.reg<|WL.e e_move<|WL.e e_move<|WL.e e_move<|WL.e (el_ia (j:=i) sl96 hC hlt)<|WL.e (el_fa (j:=i) f123_0 hC hlt)<|WL.e (el_load0 (j:=i) (a:=x) a9 chgE hC hx) ?_
   refine WL.h (h_call (rDel_spec x.key hB (by omega)) k192 ?_)
   intro a2 m2 c2 B2 hG2 hR2
   refine WL.e e_assign<|WL.nil<|PO.blockN<|PO.next<|WP.reg<|WL.e e_move<|WL.e (e_add (c:=((i+1:Nat):Int)) rfl rfl (by rw [w_i64 (by omega) (by omega)];omega))<|WL.e e_assign<|WL.nil ?_
   exact PO.againK (B2,⟨a2,m2,c2⟩,i+1) ⟨hG.trans hG2,by simp only;rw [take_snoc hx,changeR_snoc,applyC,if_pos h2];exact hR2,by simp only;omega⟩ (by simp only;omega)
  ·skip
   refine WP.draws mixedOk 13<|RW.e 0 rfl e_move<|RW.e 1 rfl e_move<|RW.e 2 rfl e_move<|RW.e 3 rfl (el_ia (j:=i) sl96 hC hlt)<|RW.e 4 rfl (el_fa (j:=i) f123_0 hC hlt)<|RW.e 5 rfl (el_load0 (j:=i) (a:=x) a9 chgE hC hx)<|RW.e 6 rfl e_move<|RW.e 7 rfl e_move<|RW.e 8 rfl (el_ia (j:=i) sl96 hC hlt)<|RW.e 9 rfl (el_fa (j:=i) f123_1 hC hlt)<|RW.e 10 rfl (el_load (f:=1) (j:=i) (a:=x) a48 chgE hC hx) ?_
   refine RW.any (is:=[11]) rfl ⟨?_,trivial⟩
   refine RWat.h rfl rfl rfl ?_
   refine (h_call (rPut_spec x.key x.val hB (by omega)) k47 ?_)
   intro a2 m2 c2 B2 hG2 hR2
   refine ⟨trivial,?_⟩
   refine RW.any (is:=[12]) rfl ⟨?_,trivial⟩
   refine RWat.h rfl rfl rfl<|HO.of_eo e_assign ?_
   refine ⟨trivial,?_⟩
   refine RW.done<|PO.blockN<|PO.next<|WP.reg<|WL.e e_move<|WL.e (e_add (c:=((i+1:Nat):Int)) rfl rfl (by rw [w_i64 (by omega) (by omega)];omega))<|WL.e e_assign<|WL.nil ?_
   exact PO.againK (B2,⟨a2,m2,c2⟩,i+1) ⟨hG.trans hG2,by simp only;rw [take_snoc hx,changeR_snoc,applyC,if_neg (by simp [h2])];exact hR2,by simp only;omega⟩ (by simp only;omega)
 ·rw [List.take_of_length_le (show cs.length≤i by simp at h1;omega)] at hB
  refine WP.exit<|PO.past nofun<|PO.round nofun<|PO.blockX<|PO.next<|WP.seq<|WP.reg<|WL.e e_move<|WL.e e_assign<|WL.next<|WP.ret ?_
  exact PO.fin Tryz.results133 (rv_tmp rv_nil) (hK _ _ _ _ hG hB)
theorem rOwn_spec {g:World} {A C:HP} {u:SV} {y:Value} {l:List RowM} {cs:List ChgM} (hA:RL A 2 RowM.c u.v l) (hC:RL C 3 ChgM.c y cs) (hn:l.length+cs.length≤68719470000):Spec Tryz.prog g 46 [u.v,y] [A,C] fun K R=>∀ a m c B,Ge A B→RL B 2 RowM.c (.slice a m c) (changeR l cs)→K (.slice a m c) (B::C::R):=by
 refine Spec.intro Tryz.func46 rfl Tryz.ntmps46 rfl fun R K hK=>?_
 refine WP.seq<|WP.reg<|WL.e e_assign<|WL.next<|WP.seq<|WP.reg<|WL.e e_move<|WL.e e_move ?_
 refine WL.h (h_call (rChange_spec hA hC hn) k133 ?_)
 intro a m c B hG hR
 refine WL.e e_assign<|WL.next<|WP.ret ?_
 exact PO.fin Tryz.results46 (rv_tmp rv_nil) (hK a m c B hG hR)
end Go.SL
set_option linter.unusedSectionVars false
namespace Go.SL
open Go
def lokC (x:SpanM × UInt32):List Value:=[.string x.1.a,.string x.1.b,.int .u32 x.2.toNat]
theorem lkE:EncOk 3 lokC:=⟨fun _=>rfl,fun _=>rfl⟩
def ptC (t:TxU UInt32 RtD):List Value:=[.pointer (some ⟨t.q,0,none⟩)]
theorem ptE:EncOk 1 ptC:=⟨fun _=>rfl,fun _=>rfl⟩
theorem lk_at {xs:List (SpanM × UInt32)} {i:Nat} {x:SpanM × UInt32} (hx:xs[i]?=some x):((xs.flatMap lokC).drop (i * 3+0)).take 2=[.string x.1.a,.string x.1.b]:=by
  have h:=flat_el lkE hx
  have h2:=congrArg (List.take 2) h
  rw [List.take_take] at h2
  exact h2
def RtP (T E:TypeId) (t:TxU UInt32 RtD):List HP:=[cl t.q T [.int .u32 t.id.toNat,.int .u32 t.x.num.toNat,t.x.sv.v],Sl E 3 ChgM.c t.x.sv.v t.x.own]
def Rts (T E:TypeId) (ts:List (TxU UInt32 RtD)):HP:=TxsU (RtP T E) ts
section
variable {T E : TypeId} {ts : List (TxU UInt32 RtD)} {t : TxU UInt32 RtD}
theorem rt_rd (h:t ∈ ts):Rd (Rts T E ts) 3 (.slice (some ⟨t.q,0,none⟩) 1 1) 1 [.int .u32 t.id.toNat,.int .u32 t.x.num.toNat,t.x.sv.v]:=fun S hS=>by
  obtain ⟨A,B,e⟩:=List.append_of_mem h
  obtain ⟨_,S1,S2,_,h1,_,h2,_⟩:=TxsU_out e S hS
  exact (cl_rd (z:=3) (n:=1) (c:=1) (o:=0) (Nat.le_refl _) (by simp) (by simp) S1 h2).le h1
theorem own_rl (h:t ∈ ts):RL (Rts T E ts) 3 ChgM.c t.x.sv.v t.x.own:=fun S hS=>by
  obtain ⟨A,B,e⟩:=List.append_of_mem h
  obtain ⟨_,S1,S2,_,_,h1,_,S3,S4,_,h2,_,h3,_⟩:=TxsU_out e S hS
  exact (sl_rl S3 h3).le (le_trans h2 h1)
theorem Rts_add {A B:List (TxU UInt32 RtD)}:∀ S,stars (RtP T E t++[Rts T E (A++B)]) S→Rts T E (A++[t]++B) S:=fun S hS=>by
  rw [List.append_assoc]
  exact TxsU_in (t:=t) S hS
end
section
variable {P : Program} {g : World} {Γ : Env} {L M : List HP} {dst : Option Tmp} {t : TypeId} {pos : String} {aft : Array Edge} {gd : Option (Nat × Bool)}
theorem EO.conv {o:Oper} {v:Value} (hc:∀ S,stars L S→stars M S) (h:EO P g o Γ M v):EO P g o Γ L v:=fun ρ w hρ hw=>h ρ w hρ (hw.conv hc)
theorem e_ppR {xt yt E z T U:TypeId} {x y:Operand} {op:BinOp} {ts:List (TxU UInt32 RtD)} {o u:TxU UInt32 RtD} (hop:op=.eql∨op=.neq) (hT:P.underlying xt=some (.pointer E)) (hz:szOf P E=some z) (hz0:z≠0) (hn:(ts.map (·.id)).Nodup) (ho:o ∈ ts) (hu:u ∈ ts)
    (hx:ev Γ x=some (.pointer (some ⟨o.q,0,none⟩)):=by rfl) (hy:ev Γ y=some (.pointer (some ⟨u.q,0,none⟩)):=by rfl) (hp:Pick L (Rts T U ts) M:=by repeat first | exact .z | apply Pick.s) :
    EO P g ⟨dst,.binOp op xt x y yt,t,pos,aft,gd⟩ Γ L (.bool (eqOp op (decide (o.id=u.id)))):=by
  by_cases e:o.id=u.id
  · have h1:=findU_of hn ho
    rw [e,findU_of hn hu] at h1
    cases h1
    rw [decide_eq_true rfl]
    exact e_pp hop hT hz hz0 hx hy (.inl ⟨rfl,rfl,rfl⟩)
  · rw [decide_eq_false e]
    obtain ⟨A,B,eo⟩:=List.append_of_mem ho
    have hu2:u ∈ A++B:=by
      rw [eo] at hu
      simp only [List.mem_append,List.mem_cons] at hu ⊢
      rcases hu with h | h | h
      · exact .inl h
      · exact absurd (h ▸ rfl) e
      · exact .inr h
    obtain ⟨A',B',eu⟩:=List.append_of_mem hu2
    have hc:∀ S,stars L S→stars (RtP T U o++[Rts T U (A++B)]++M) S:=fun S hS=>stars_append' (by
      obtain ⟨S1,S2,a,b,c,d,e⟩:=hp.to hS
      obtain ⟨_,d⟩:=TxsU_out eo S1 d
      exact ⟨S1,S2,a,b,c,d,e⟩)
    have hc2:∀ S,stars (RtP T U o++[Rts T U (A++B)]++M) S→stars (RtP T U o++(RtP T U u++[Rts T U (A'++B')]++M)) S:=fun S hS=>by
      rw [List.append_assoc] at hS
      obtain ⟨S1,S2,a,b,c,d,e⟩:=stars_append hS
      refine stars_append' ⟨S1,S2,a,b,c,d,?_⟩
      obtain ⟨S3,S4,a2,b2,c2,d2,e2⟩:=e
      obtain ⟨_,d2⟩:=TxsU_out eu S3 d2
      exact stars_append' ⟨S3,S4,a2,b2,c2,d2,e2⟩
    refine EO.conv (fun S hS=>hc2 S (hc S hS)) ?_
    exact e_pp hop hT hz hz0 hx hy (.inr ⟨rfl,_,_,_,_,_,_,.z,.s .z⟩)
end
theorem own_up {E z n:Nat} {u:Value} {cs:List Value} {S S1:Piece} (h:Own E z u n cs S1) (hl:le S1 S):Own E z u n cs S:=by
  rcases h with h | ⟨b,o,c,l,h1,h2,h3,h4,h5⟩
  · exact .inl h
  · exact .inr ⟨b,o,c,l,h1,h2,h3,hl _ _ h4,h5⟩
theorem find_at {ts:List (TxU UInt32 RtD)} {i:Nat} {n:UInt32} {t:TxU UInt32 RtD} (h:∀ t ∈ ts.take i,t.id≠n) (hx:ts[i]?=some t) (e:t.id=n):findU ts n=some t:=by
  unfold findU
  have h2:ts=ts.take i++t::ts.drop (i+1):=by
    have hlt:=idx_lt hx
    conv=>lhs;rw [← List.take_append_drop i ts]
    rw [List.drop_eq_getElem_cons hlt]
    rw [List.getElem?_eq_getElem hlt] at hx
    cases hx;rfl
  rw [h2,List.find?_append,List.find?_eq_none.2 (fun x hx=>by simpa using h x hx)]
  simp [e]
theorem findR_no {ts:List (TxU UInt32 RtD)} {n:UInt32} (h:∀ t ∈ ts,t.id≠n):findU ts n=none:=List.find?_eq_none.2 fun x hx=>by simpa using h x hx
theorem ne_step {ts:List (TxU UInt32 RtD)} {i:Nat} {p:TxU UInt32 RtD→Prop} {t:TxU UInt32 RtD} (h:∀ t ∈ ts.take i,p t) (hx:ts[i]?=some t) (e:p t):∀ t ∈ ts.take (i+1),p t:=by
  rw [take_snoc hx]
  intro x hx
  rcases List.mem_append.1 hx with hx | hx
  · exact h x hx
  · simp only [List.mem_singleton] at hx;subst hx;exact e
theorem filt_in {ts:List (TxU UInt32 RtD)} {i:Nat} {n:UInt32} {t:TxU UInt32 RtD} (hx:ts[i]?=some t) (e:t.id≠n):(ts.take (i+1)).filter (fun o=>!decide (o.id=n))=(ts.take i).filter (fun o=>!decide (o.id=n))++[t]:=by
  rw [take_snoc hx,List.filter_append];simp [e]
theorem filt_out {ts:List (TxU UInt32 RtD)} {i:Nat} {n:UInt32} {t:TxU UInt32 RtD} (hx:ts[i]?=some t) (e:t.id=n):(ts.take (i+1)).filter (fun o=>!decide (o.id=n))=(ts.take i).filter (fun o=>!decide (o.id=n)):=by
  rw [take_snoc hx,List.filter_append];simp [e]
def ltAt (ts:List (TxU UInt32 RtD)) (i:Nat) (n:UInt32):Bool:=(ts[i]?).any fun t=>decide (t.id < n)
theorem ltAt_lt {ts:List (TxU UInt32 RtD)} {i:Nat} {n:UInt32} (h:i < ts.length):ltAt ts i n=decide (ts[i].id < n):=by
  unfold ltAt;rw [List.getElem?_eq_getElem h];rfl
theorem ltAt_ge {ts:List (TxU UInt32 RtD)} {i:Nat} {n:UInt32} (h:¬ i < ts.length):ltAt ts i n=false:=by
  unfold ltAt;rw [List.getElem?_eq_none (by omega)];rfl
theorem ltAt_some {ts:List (TxU UInt32 RtD)} {i:Nat} {n:UInt32} (h:ltAt ts i n=true):∃ t,ts[i]?=some t∧t.id < n:=by
  unfold ltAt at h
  cases hx:ts[i]? with
  | none=>rw [hx] at h;cases h
  | some t=>rw [hx] at h;exact ⟨t,rfl,by simpa using h⟩
theorem tw_at {ts:List (TxU UInt32 RtD)} {i:Nat} {n:UInt32} (h:∀ t ∈ ts.take i,t.id < n) (h2:ltAt ts i n=false):ts.takeWhile (fun o=>decide (o.id < n))=ts.take i∧ts.dropWhile (fun o=>decide (o.id < n))=ts.drop i:=by
  have e:ts=ts.take i++ts.drop i:=(List.take_append_drop i ts).symm
  have hd:(ts.drop i).takeWhile (fun o=>decide (o.id < n))=[]∧(ts.drop i).dropWhile (fun o=>decide (o.id < n))=ts.drop i:=by
    cases hdr:ts.drop i with
    | nil=>exact ⟨rfl,rfl⟩
    | cons x l=>
      have hx:ts[i]?=some x:=by rw [← List.head?_drop,hdr];rfl
      have:decide (x.id < n)=false:=by unfold ltAt at h2;rw [hx] at h2;exact h2
      exact ⟨by rw [List.takeWhile_cons,this];rfl,by rw [List.dropWhile_cons,this];rfl⟩
  have hp:∀ a ∈ ts.take i,(fun o:TxU UInt32 RtD=>decide (o.id < n)) a=true:=fun a ha=>by simpa using h a ha
  constructor
  · conv=>lhs;rw [e]
    rw [List.takeWhile_append_of_pos hp,hd.1,List.append_nil]
  · conv=>lhs;rw [e]
    rw [List.dropWhile_append_of_pos hp,hd.2]
theorem rOth_snoc {ts:List (TxU UInt32 RtD)} {i:Nat} {t:TxU UInt32 RtD} (hx:ts[i]?=some t) (n:UInt32) (p:SpanM) (f:UInt32→Bool):rOth (ts.take (i+1)) n p f=(rOth (ts.take i) n p f || (!decide (t.id=n) && rUnder t p && f t.x.num)):=by
  unfold rOth;rw [take_snoc hx,List.any_append];simp
theorem rLooks_snoc {l:List (SpanM × UInt32)} {i:Nat} {x:SpanM × UInt32} (hx:l[i]?=some x) (num:UInt32) (p:SpanM):rLooks (l.take (i+1)) num p=(rLooks (l.take i) num p || (decide (num < x.2) && meet x.1 p)):=by
  unfold rLooks;rw [take_snoc hx,List.any_append];simp
end Go.SL
