import Derived.Test.YtmeoolijekillaaGreatDoorQL19
set_option linter.unusedSimpArgs false
set_option linter.unusedVariables false
namespace Go.SL.Fc
open Go Go.Proofs Go.SL
theorem k176:callable Tryz.prog 176=true:=by kernel_rfl
theorem k65:callable Tryz.prog 65=true:=by kernel_rfl
end Go.SL.Fc
namespace Go.SL
open Go Go.Proofs Fc
theorem rLess_spec {g:World} (a b:ByteArray) (ha:a.size≤9223372036854775807):Spec Tryz.prog g 176 [.string a,.string b] [] fun K R=>K (.bool (sLt a b)) R:=by
 refine Spec.intro Tryz.func176 rfl Tryz.ntmps176 rfl fun R K hK=>?_
 refine WP.seq<|WP.reg<|WL.e e_assign<|WL.next<|WP.seq<|WP.seq<|WP.reg<|WL.e e_assign<|WL.next<|WP.block<|WP.loopK (fun (i:Nat)=>[(5,.int .i64 i)]) (fun (i:Nat)=>R) [(0,_),(1,_)] (fun (i:Nat)=>i≤a.size∧i≤b.size∧a.toList.take i=b.toList.take i) (fun (i:Nat)=>a.size - i) 0 (⟨Nat.zero_le _,Nat.zero_le _,rfl⟩) ?_
 rintro i ⟨h1,h2,he⟩
 refine WP.seq<|WP.seq<|WP.reg<|WL.e e_move<|WL.e e_move<|WL.e (e_len_str Tryz.underlying9)<|WL.e e_lss<|WL.e e_move ?_
 refine WL.join 15 (.bool (decide (i < a.size∧i < b.size))) (.c (.c (.c (.c (.c .n))))) ?_ ?_
 ·refine WL.bool 10 rfl (fun hg=>?_) (fun hg=>?_)
  ·skip
   refine WL.e e_move<|WL.e e_move<|WL.e (e_len_str Tryz.underlying9)<|WL.e e_lss<|WL.e e_pick_t ?_
   exact WL.nil (PO.joined rfl (by simp at hg;simp [hg]))
  ·skip
   refine WL.skip<|WL.skip<|WL.skip<|WL.skip<|WL.e e_pick_f ?_
   exact WL.nil (PO.joined rfl (by simp at hg;simp;omega))
 refine WL.next ?_
 refine WP.cond rfl (fun h3=>?_) (fun h3=>?_)
 ·obtain ⟨h4,h5⟩:=of_decide_eq_true h3
  obtain ⟨x,hx⟩:∃ x,a[i]?=some x:=⟨_,getElem?_pos a i (by omega)⟩
  obtain ⟨y,hy⟩:∃ y,b[i]?=some y:=⟨_,getElem?_pos b i (by omega)⟩
  refine WP.skip<|PO.next<|WP.seq<|WP.block<|WP.seq<|WP.draws mixedOk 7<|RW.e 0 rfl e_move<|RW.e 1 rfl e_move<|RW.e 2 rfl (e_idxS (n:=i) (b:=x) Tryz.underlying9 (hb:=hx))<|RW.e 3 rfl e_move<|RW.e 4 rfl e_move<|RW.e 5 rfl (e_idxS (n:=i) (b:=y) Tryz.underlying9 (hb:=hy))<|RW.e 6 rfl (e_neq8)<|RW.done<|PO.next ?_
  refine WP.cond rfl (fun h6=>?_) (fun h6=>?_)
  ·replace h6:x≠y:=by simpa using h6
   refine WP.seq<|WP.draws mixedOk 8<|RW.e 0 rfl e_move<|RW.e 1 rfl e_move<|RW.e 2 rfl (e_idxS (n:=i) (b:=x) Tryz.underlying9 (hb:=hx))<|RW.e 3 rfl e_move<|RW.e 4 rfl e_move<|RW.e 5 rfl (e_idxS (n:=i) (b:=y) Tryz.underlying9 (hb:=hy))<|RW.e 6 rfl e_lss<|RW.e 7 rfl e_assign<|RW.done<|PO.next<|WP.ret<|PO.blockR<|PO.past nofun<|PO.round nofun<|PO.blockR<|PO.past nofun ?_
   exact PO.finE Tryz.results176 (rv_tmp rv_nil) (by rw [less_at he hx hy h6];simp [UInt8.lt_iff_toNat_lt]) hK
  ·obtain rfl:x=y:=by simpa using h6
   refine WP.skip<|PO.blockN<|PO.next<|WP.reg<|WL.e e_move<|WL.e (e_add (c:=((i+1:Nat):Int)) rfl rfl (by rw [w_i64 (by omega) (by omega)];omega))<|WL.e e_assign<|WL.nil ?_
   exact PO.againK (i+1) ⟨by omega,by omega,take_step he hx hy⟩ (by omega)
 ·replace h3:=of_decide_eq_false h3
  refine WP.exit<|PO.past nofun<|PO.round nofun<|PO.blockX<|PO.next<|WP.seq<|WP.reg<|WL.e e_move<|WL.e (e_len_str Tryz.underlying9)<|WL.e e_move<|WL.e (e_len_str Tryz.underlying9)<|WL.e e_lss<|WL.e e_assign<|WL.next<|WP.ret ?_
  exact PO.finE Tryz.results176 (rv_tmp rv_nil) (by rw [less_end he h1 h2 (by omega)];simp) hK
theorem rIn_spec {g:World} (k a b:ByteArray) (hk:k.size≤1000) (hb:b.size≤1000):Spec Tryz.prog g 114 [.string k,.string a,.string b] [] fun K R=>K (.bool (sIn k a b)) R:=by
 refine Spec.intro Tryz.func114 rfl Tryz.ntmps114 rfl fun R K hK=>?_
 refine WP.seq<|WP.reg<|WL.e e_assign<|WL.next<|WP.seq<|WP.reg<|WL.e e_move<|WL.e e_move ?_
 refine WL.h (h_call (rLess_spec k a (by omega)) k176 ?_)
 refine WL.e e_not<|WL.e e_move ?_
 refine WL.bool 11 rfl (fun g1=>?_) (fun g1=>?_)
 ·skip
  refine WL.e e_move<|WL.e e_move ?_
  refine WL.h (h_call (rLess_spec b k (by omega)) k176 ?_)
  refine WL.e e_not<|WL.e e_pick_t<|WL.e e_assign<|WL.next<|WP.ret ?_
  exact PO.finE Tryz.results114 (rv_tmp rv_nil) (by rw [sIn_lt,g1,Bool.true_and];rfl) hK
 ·skip
  refine WL.skip<|WL.skip<|WL.skip<|WL.skip<|WL.e e_pick_f<|WL.e e_assign<|WL.next<|WP.ret ?_
  exact PO.finE Tryz.results114 (rv_tmp rv_nil) (by rw [sIn_lt,g1,Bool.false_and];rfl) hK
theorem rOf_spec {g:World} (x:OpM):Spec Tryz.prog g 68 [x.v] [] fun K R=>K (spanOf x).v R:=by
 refine Spec.intro Tryz.func68 rfl Tryz.ntmps68 rfl fun R K hK=>?_
 refine WP.seq<|WP.reg ?_
 refine WL.h (h_box fun b1=>?_)
 refine WL.h (h_alloc z132 fun b2=>?_)
 refine WL.next<|WP.seq<|WP.seq<|WP.reg<|WL.e (e_fa f115_0)<|WL.e (e_load a113)<|WL.e (e_eql8 (b:=4))<|WL.next ?_
 refine WP.cond rfl (fun h=>?_) (fun h=>?_)
 ·replace h:x.kind=4:=by simpa using h
  refine WP.seq<|WP.reg<|WL.e (e_fa f115_1)<|WL.e (e_load a9)<|WL.e (e_fa f115_2)<|WL.e (e_load a9)<|WL.e (e_build z132 p132 (.o (.tmp 7) rfl<|.o (.tmp 9) rfl<|.n)) ?_
  refine WL.h' (h_store s132 ?_)
  refine WL.next<|WP.ret<|PO.past nofun ?_
  exact PO.fin Tryz.results68 (rv_cellN a132 rv_nil) (by simpa [spanOf,h,SpanM.v] using hK)
 ·replace h:x.kind≠4:=by simpa using h
  refine WP.skip<|PO.next<|WP.seq<|WP.reg<|WL.e (e_fa f115_1)<|WL.e (e_load a9)<|WL.e (e_fa f115_1)<|WL.e (e_load a9)<|WL.e (e_build z132 p132 (.o (.tmp 12) rfl<|.o (.tmp 14) rfl<|.n)) ?_
  refine WL.h' (h_store s132 ?_)
  refine WL.next<|WP.ret ?_
  exact PO.fin Tryz.results68 (rv_cellN a132 rv_nil) (by simpa [spanOf,h,SpanM.v] using hK)
theorem rKey_spec {g:World} (s:ByteArray) (hs:s.size≤9223372036854775807):Spec Tryz.prog g 65 [.string s] [] fun K R=>K (.bool (keyOk s)) R:=by
 refine Spec.intro Tryz.func65 rfl Tryz.ntmps65 rfl fun R K hK=>?_
 refine WP.seq<|WP.reg<|WL.e e_assign<|WL.next<|WP.seq<|WP.seq<|WP.reg<|WL.e e_assign<|WL.next<|WP.block<|WP.loopK (fun (i:Nat)=>[(3,.int .i64 i)]) (fun (i:Nat)=>R) [(0,_)] (fun (i:Nat)=>i≤s.size∧(s.toList.take i).all keyByte=true) (fun (i:Nat)=>s.size - i) 0 (⟨Nat.zero_le _,rfl⟩) ?_
 rintro i ⟨hi,hb⟩
 refine WP.seq<|WP.seq<|WP.reg<|WL.e e_move<|WL.e e_move<|WL.e (e_len_str Tryz.underlying9)<|WL.e e_lss<|WL.next ?_
 refine WP.cond rfl (fun h3=>?_) (fun h3=>?_)
 ·replace h3:i < s.size:=by simp at h3;omega
  obtain ⟨c,hc⟩:∃ c,s[i]?=some c:=⟨_,getElem?_pos s i h3⟩
  refine WP.skip<|PO.next<|WP.seq<|WP.block<|WP.seq<|WP.reg<|WL.e e_move<|WL.e e_move<|WL.e (e_idxS (n:=i) (b:=c) Tryz.underlying9 (hb:=hc))<|WL.e e_assign<|WL.next<|WP.seq<|WP.reg<|WL.e e_move<|WL.e e_lss<|WL.e e_move ?_
  refine WL.join 19 (.bool ((decide ((c.toNat:Int) < 97) || decide ((c.toNat:Int) > 122)))) (.c (.c (.c .n))) ?_ ?_
  ·refine WL.bool 16 rfl (fun hg=>?_) (fun hg=>?_)
   ·skip
    refine WL.skip<|WL.skip<|WL.e e_pick_t ?_
    exact WL.nil (PO.joined rfl (by simp at hg;simp [hg]))
   ·skip
    refine WL.e e_move<|WL.e e_gtr<|WL.e e_pick_f ?_
    exact WL.nil (PO.joined rfl (by simp at hg;simp;omega))
  refine WL.e e_move ?_
  refine WL.bool 20 rfl (fun h6=>?_) (fun h6=>?_)
  ·skip
   refine WL.e e_move<|WL.e e_lss<|WL.e e_move ?_
   refine WL.join 26 (.bool ((decide ((c.toNat:Int) < 48) || decide ((c.toNat:Int) > 57)))) (.c (.c (.c .n))) ?_ ?_
   ·refine WL.bool 23 rfl (fun hg=>?_) (fun hg=>?_)
    ·skip
     refine WL.skip<|WL.skip<|WL.e e_pick_t ?_
     exact WL.nil (PO.joined rfl (by simp at hg;simp [hg]))
    ·skip
     refine WL.e e_move<|WL.e e_gtr<|WL.e e_pick_f ?_
     exact WL.nil (PO.joined rfl (by simp at hg;simp;omega))
   refine WL.e e_pick_t<|WL.e e_move ?_
   refine WL.bool 28 rfl (fun h14=>?_) (fun h14=>?_)
   ·skip
    refine WL.e e_move<|WL.e (e_neq8 (b:=95))<|WL.e e_pick_t<|WL.next ?_
    refine WP.cond rfl (fun h9=>?_) (fun h9=>?_)
    ·replace h9:c≠95:=by simpa using h9
     refine WP.seq<|WP.reg<|WL.e e_assign<|WL.next<|WP.ret<|PO.blockR<|PO.past nofun<|PO.round nofun<|PO.blockR<|PO.past nofun ?_
     exact PO.finE Tryz.results65 (rv_tmp rv_nil) (by rw [all_bad hc (kb_bad h6 h14 h9)];rfl) hK
    ·replace h9:c=95:=by simpa using h9
     refine WP.skip<|PO.blockN<|PO.next<|WP.reg<|WL.e e_move<|WL.e (e_add (c:=((i+1:Nat):Int)) rfl rfl (by rw [w_i64 (by omega) (by omega)];omega))<|WL.e e_assign<|WL.nil ?_
     exact PO.againK (i+1) ⟨by omega,all_step hb hc (kb_under h9)⟩ (by omega)
   ·skip
    refine WL.skip<|WL.skip<|WL.e e_pick_f<|WL.next<|WP.cond_f rfl<|WP.skip<|PO.blockN<|PO.next<|WP.reg<|WL.e e_move<|WL.e (e_add (c:=((i+1:Nat):Int)) rfl rfl (by rw [w_i64 (by omega) (by omega)];omega))<|WL.e e_assign<|WL.nil ?_
    exact PO.againK (i+1) ⟨by omega,all_step hb hc (kb_digit h14)⟩ (by omega)
  ·skip
   refine WL.skip<|WL.skip<|WL.skip<|WL.skip<|WL.skip<|WL.skip<|WL.e e_pick_f<|WL.e e_move<|WL.skip<|WL.skip<|WL.e e_pick_f<|WL.next<|WP.cond_f rfl<|WP.skip<|PO.blockN<|PO.next<|WP.reg<|WL.e e_move<|WL.e (e_add (c:=((i+1:Nat):Int)) rfl rfl (by rw [w_i64 (by omega) (by omega)];omega))<|WL.e e_assign<|WL.nil ?_
   exact PO.againK (i+1) ⟨by omega,all_step hb hc (kb_letter h6)⟩ (by omega)
 ·replace h3:s.size≤i:=by simp at h3;omega
  refine WP.exit<|PO.past nofun<|PO.round nofun<|PO.blockX<|PO.next<|WP.seq<|WP.reg<|WL.e e_move<|WL.e (e_len_str Tryz.underlying9)<|WL.e e_geq<|WL.e e_move ?_
  refine WL.bool 35 rfl (fun g1=>?_) (fun g1=>?_)
  ·skip
   refine WL.e e_move<|WL.e (e_len_str Tryz.underlying9)<|WL.e e_leq<|WL.e e_pick_t<|WL.e e_assign<|WL.next<|WP.ret ?_
   exact PO.finE Tryz.results65 (rv_tmp rv_nil) (by rw [all_done hb h3];show Value.bool _=Value.bool _;congr 1;rw [Bool.eq_iff_iff];simp at g1 ⊢;omega) hK
  ·skip
   refine WL.skip<|WL.skip<|WL.skip<|WL.e e_pick_f<|WL.e e_assign<|WL.next<|WP.ret ?_
   exact PO.finE Tryz.results65 (rv_tmp rv_nil) (by rw [all_done hb h3];show Value.bool _=Value.bool _;congr 1;rw [Bool.eq_iff_iff];simp at g1 ⊢;omega) hK
theorem rOp_spec {g:World} (x:OpM) (hk:x.key.size≤9223372036854775807) (ht:x.to.size≤9223372036854775807):Spec Tryz.prog g 66 [x.v] [] fun K R=>K (.bool (opOk x)) R:=by
 refine Spec.intro Tryz.func66 rfl Tryz.ntmps66 rfl fun R K hK=>?_
 refine WP.seq<|WP.reg ?_
 refine WL.h (h_box fun b1=>?_)
 refine WL.e e_assign<|WL.next<|WP.seq<|WP.seq<|WP.reg<|WL.e (e_fa f115_1)<|WL.e (e_load a9) ?_
 refine WL.h (h_call (rKey_spec x.key hk) k65 ?_)
 refine WL.e e_not<|WL.next ?_
 refine WP.cond rfl (fun h1=>?_) (fun h1=>?_)
 ·replace h1:keyOk x.key=false:=by simpa using h1
  refine WP.seq<|WP.reg<|WL.e e_assign<|WL.next<|WP.ret<|PO.past nofun ?_
  exact PO.finE Tryz.results66 (rv_tmp rv_nil) (by rw [opOk_bad h1];rfl) hK
 ·replace h1:keyOk x.key=true:=by simpa using h1
  refine WP.skip<|PO.next<|WP.seq<|WP.seq<|WP.reg<|WL.e (e_fa f115_0)<|WL.e (e_load a113)<|WL.next<|WP.block<|WP.seq<|WP.seq<|WP.reg<|WL.e (e_eql8 (b:=1))<|WL.e e_assign<|WL.next ?_
  refine WP.cond rfl (fun h2=>?_) (fun h2=>?_)
  ·skip
   refine WP.skip<|PO.next ?_
   refine WP.cond rfl (fun h3=>?_) (fun h3=>?_)
   ·replace h2:x.kind=1:=by simpa using h2
    refine WP.seq<|WP.reg<|WL.e (e_fa f115_2)<|WL.e (e_load a9)<|WL.e e_seq<|WL.e e_move ?_
    refine WL.bool 15 rfl (fun g1=>?_) (fun g1=>?_)
    ·skip
     refine WL.e (e_fa f115_3)<|WL.e (e_load a35)<|WL.e (e_eql32 (b:=0))<|WL.e e_pick_t<|WL.e e_assign<|WL.next<|WP.ret<|PO.blockR<|PO.past nofun ?_
     exact PO.finE Tryz.results66 (rv_tmp rv_nil) (by rw [opOk_get h1 (.inl h2),g1,Bool.true_and];rfl) hK
    ·skip
     refine WL.skip<|WL.skip<|WL.skip<|WL.e e_pick_f<|WL.e e_assign<|WL.next<|WP.ret<|PO.blockR<|PO.past nofun ?_
     exact PO.finE Tryz.results66 (rv_tmp rv_nil) (by rw [opOk_get h1 (.inl h2),g1,Bool.false_and];rfl) hK
   ·rw [h2] at h3;cases h3
  ·skip
   refine WP.reg<|WL.e (e_eql8 (b:=3))<|WL.e e_assign<|WL.next ?_
   refine WP.cond rfl (fun h3=>?_) (fun h3=>?_)
   ·replace h3:x.kind=3:=by simpa using h3
    refine WP.seq<|WP.reg<|WL.e (e_fa f115_2)<|WL.e (e_load a9)<|WL.e e_seq<|WL.e e_move ?_
    refine WL.bool 15 rfl (fun g1=>?_) (fun g1=>?_)
    ·skip
     refine WL.e (e_fa f115_3)<|WL.e (e_load a35)<|WL.e (e_eql32 (b:=0))<|WL.e e_pick_t<|WL.e e_assign<|WL.next<|WP.ret<|PO.blockR<|PO.past nofun ?_
     exact PO.finE Tryz.results66 (rv_tmp rv_nil) (by rw [opOk_get h1 (.inr h3),g1,Bool.true_and];rfl) hK
    ·skip
     refine WL.skip<|WL.skip<|WL.skip<|WL.e e_pick_f<|WL.e e_assign<|WL.next<|WP.ret<|PO.blockR<|PO.past nofun ?_
     exact PO.finE Tryz.results66 (rv_tmp rv_nil) (by rw [opOk_get h1 (.inr h3),g1,Bool.false_and];rfl) hK
   ·replace h2:x.kind≠1:=by simpa using h2
    replace h3:x.kind≠3:=by simpa using h3
    refine WP.seq<|WP.reg<|WL.e (e_eql8 (b:=2))<|WL.e e_assign<|WL.next ?_
    refine WP.cond rfl (fun h4=>?_) (fun h4=>?_)
    ·replace h4:x.kind=2:=by simpa using h4
     refine WP.seq<|WP.reg<|WL.e (e_fa f115_2)<|WL.e (e_load a9)<|WL.e e_seq<|WL.e e_assign<|WL.next<|WP.ret<|PO.blockR<|PO.past nofun ?_
     exact PO.finE Tryz.results66 (rv_tmp rv_nil) (by rw [opOk_put h1 h4];rfl) hK
    ·replace h4:x.kind≠2:=by simpa using h4
     refine WP.seq<|WP.reg<|WL.e (e_eql8 (b:=4))<|WL.e e_assign<|WL.next ?_
     refine WP.cond rfl (fun h5=>?_) (fun h5=>?_)
     ·replace h5:x.kind=4:=by simpa using h5
      refine WP.seq<|WP.reg<|WL.e (e_fa f115_2)<|WL.e (e_load a9) ?_
      refine WL.h (h_call (rKey_spec x.to ht) k65 ?_)
      refine WL.e e_move ?_
      refine WL.bool 30 rfl (fun g1=>?_) (fun g1=>?_)
      ·skip
       refine WL.e (e_fa f115_3)<|WL.e (e_load a35)<|WL.e (e_eql32 (b:=0))<|WL.e e_pick_t<|WL.e e_assign<|WL.next<|WP.ret<|PO.blockR<|PO.past nofun ?_
       exact PO.finE Tryz.results66 (rv_tmp rv_nil) (by rw [opOk_scan h1 h5,g1,Bool.true_and];rfl) hK
      ·skip
       refine WL.skip<|WL.skip<|WL.skip<|WL.e e_pick_f<|WL.e e_assign<|WL.next<|WP.ret<|PO.blockR<|PO.past nofun ?_
       exact PO.finE Tryz.results66 (rv_tmp rv_nil) (by rw [opOk_scan h1 h5,g1,Bool.false_and];rfl) hK
     ·replace h5:x.kind≠4:=by simpa using h5
      refine WP.skip<|PO.blockN<|PO.next<|WP.seq<|WP.reg<|WL.e e_assign<|WL.next<|WP.ret ?_
      exact PO.finE Tryz.results66 (rv_tmp rv_nil) (by rw [opOk_none h2 h4 h3 h5];rfl) hK
end Go.SL
namespace Go.SL.Fc
open Go Go.Proofs Go.SL
theorem k114:callable Tryz.prog 114=true:=by kernel_rfl
theorem k25:callable Tryz.prog 25=true:=by kernel_rfl
end Go.SL.Fc
namespace Go.SL
open Go Go.Proofs Fc
theorem rFind_spec {g:World} {A:HP} {u:Value} {l:List RowM} (k:ByteArray) (hA:RL A 2 RowM.c u l) (hn:l.length≤68719476000):Spec Tryz.prog g 25 [u,.string k] [A] fun K R=>K (.tuple #[.int .i64 (lowI l k),.bool (hasI l k)]) (A::R):=by
 refine Spec.intro Tryz.func25 rfl Tryz.ntmps25 rfl fun R K hK=>?_
 refine WP.seq<|WP.reg<|WL.e e_assign<|WL.e e_assign<|WL.next<|WP.seq<|WP.seq<|WP.reg<|WL.e e_assign<|WL.next<|WP.block<|WP.loopK (fun (i:Nat)=>[(6,.int .i64 i)]) (fun (i:Nat)=>A::R) [(0,_),(1,_)] (fun (i:Nat)=>i≤l.length∧∀ r ∈ l.take i,sLt r.key k=true) (fun (i:Nat)=>l.length - i) 0 (⟨Nat.zero_le _,by simp⟩) ?_
 rintro i ⟨hi,hb⟩
 refine WP.seq<|WP.seq<|WP.reg<|WL.e e_move<|WL.e e_move<|WL.e (el_len sl24 hA)<|WL.e e_lss<|WL.next ?_
 refine WP.cond rfl (fun h1=>?_) (fun h1=>?_)
 ·have hlt:i < l.length:=by simp at h1;omega
  obtain ⟨x,hx⟩:∃ x,l[i]?=some x:=⟨_,List.getElem?_eq_getElem hlt⟩
  refine WP.skip<|PO.next<|WP.seq<|WP.block<|WP.seq<|WP.seq<|WP.reg<|WL.e e_move<|WL.e e_move<|WL.e (el_ia (j:=i) sl24 hA hlt)<|WL.e (el_fa (j:=i) f59_0 hA hlt)<|WL.e (el_load0 (j:=i) (a:=x) a9 rowE hA hx)<|WL.e e_move<|WL.e e_seq<|WL.next ?_
  refine WP.cond rfl (fun h2=>?_) (fun h2=>?_)
  ·have hlow:lowI l k=i:=low_of hi hb fun y hy=>by rw [hx] at hy;cases hy;rw [sEq_iff.1 h2];exact sLt_irrefl k
   refine WP.seq<|WP.reg<|WL.e e_move<|WL.e e_assign<|WL.e e_assign<|WL.next<|WP.ret<|PO.past nofun<|PO.blockR<|PO.past nofun<|PO.round nofun<|PO.blockR<|PO.past nofun ?_
   exact PO.finE Tryz.results25 (rv_tmp (rv_tmp rv_nil)) (by rw [hlow,has_of hlow hx,h2];rfl) hK
  ·skip
   refine WP.skip<|PO.next<|WP.seq<|WP.reg<|WL.e e_move<|WL.e e_move<|WL.e (el_ia (j:=i) sl24 hA hlt)<|WL.e (el_fa (j:=i) f59_0 hA hlt)<|WL.e (el_load0 (j:=i) (a:=x) a9 rowE hA hx)<|WL.e e_move<|WL.e e_sgt<|WL.next ?_
   refine WP.cond rfl (fun h3=>?_) (fun h3=>?_)
   ·have hlow:lowI l k=i:=low_of hi hb fun y hy=>by rw [hx] at hy;cases hy;exact sLt_asymm (gt_t h3)
    refine WP.seq<|WP.reg<|WL.e e_move<|WL.e e_assign<|WL.e e_assign<|WL.next<|WP.ret<|PO.blockR<|PO.past nofun<|PO.round nofun<|PO.blockR<|PO.past nofun ?_
    exact PO.finE Tryz.results25 (rv_tmp (rv_tmp rv_nil)) (by rw [hlow,has_of hlow hx,h2];rfl) hK
   ·skip
    refine WP.skip<|PO.blockN<|PO.next<|WP.reg<|WL.e e_move<|WL.e (e_add (c:=((i+1:Nat):Int)) rfl rfl (by rw [w_i64 (by omega) (by omega)];omega))<|WL.e e_assign<|WL.nil ?_
    exact PO.againK (i+1) ⟨by omega,find_step hb hx h2 (gt_f h3)⟩ (by omega)
 ·have hend:l.length≤i:=by simp at h1;omega
  refine WP.exit<|PO.past nofun<|PO.round nofun<|PO.blockX<|PO.next<|WP.seq<|WP.reg<|WL.e e_move<|WL.e (el_len sl24 hA)<|WL.e e_assign<|WL.e e_assign<|WL.next<|WP.ret ?_
  have hlow:lowI l k=l.length:=by
   obtain rfl:i=l.length:=by omega
   exact low_of hi hb fun y hy=>by rw [List.getElem?_eq_none (Nat.le_refl _)] at hy;cases hy
  exact PO.finE Tryz.results25 (rv_tmp (rv_tmp rv_nil)) (by rw [hlow,has_end hlow (List.getElem?_eq_none (Nat.le_refl _))];rfl) hK
theorem rPut_spec {g:World} {A:HP} {u:Value} {l:List RowM} (k:ByteArray) (v:UInt32) (hA:RL A 2 RowM.c u l) (hn:l.length≤68719470000):Spec Tryz.prog g 26 [u,.string k,.int .u32 v.toNat] [A] fun K R=>∀ a m c B,Ge A B→RL B 2 RowM.c (.slice a m c) (setR l k v)→K (.slice a m c) (B::R):=by
 refine Spec.intro Tryz.func26 rfl Tryz.ntmps26 rfl fun R K hK=>?_
 refine WP.seq<|WP.reg<|WL.e e_assign<|WL.next<|WP.seq<|WP.reg<|WL.e e_move<|WL.e e_move ?_
 refine WL.h (h_call (rFind_spec k hA (by omega)) k25 ?_)
 have hle:=lowI_le l k
 refine WL.e e_move<|WL.e e_extract<|WL.e e_extract<|WL.e e_assign<|WL.e e_assign<|WL.next<|WP.seq<|WP.reg<|WL.e e_move<|WL.e e_move<|WL.e (el_to (hi:=lowI l k) sl24 hA hle)<|WL.nils 59 2 RowM.c none ?_
 refine WL.h (hl_append (xs:=([]:List RowM)) sl24 rowE z59 (RL.to_ (hi:=lowI l k) rowE hA hle) (by simp;omega) fun a1 m1 c1=>?_)
 rw [List.nil_append]
 refine WL.e e_assign<|WL.next<|WP.seq<|WP.reg<|WL.e e_move<|WL.e e_move<|WL.e e_move<|WL.e (e_build z59 p59 (.o (.tmp 21) rfl<|.o (.tmp 22) rfl<|.n)) ?_
 refine WL.h (h_bs sl24 z59 (.a2 (.tmp 23) rfl<|.n) fun b1=>?_)
 refine WL.h (hl_append (xs:=l.take (lowI l k)) sl24 rowE z59 (lit_rl rowE [⟨k,v⟩] rfl) (by simp;omega) fun a2 m2 c2=>?_)
 refine WL.e e_assign<|WL.next<|WP.seq<|WP.seq<|WP.reg<|WL.e e_move<|WL.next ?_
 refine WP.cond rfl (fun h1=>?_) (fun h1=>?_)
 ·have h4:=has_lt h1
  refine WP.reg<|WL.e e_move<|WL.e (e_add (c:=((lowI l k+1:Nat):Int)) rfl rfl (by rw [w_i64 (by omega) (by omega)];omega))<|WL.e e_assign<|WL.next<|WP.seq<|WP.reg<|WL.e e_move<|WL.e e_move<|WL.e e_move<|WL.e (el_from (lo:=lowI l k+1) sl24 hA (by omega)) ?_
  refine WL.h (hl_append (xs:=l.take (lowI l k)++[⟨k,v⟩]) sl24 rowE z59 (RL.from_ (lo:=lowI l k+1) rowE hA (by omega)) (by simp;omega) fun a9 m9 c9=>?_)
  rw [← setR_has v h1]
  refine WL.e e_assign<|WL.next<|WP.ret<|PO.cls (A:=bun [A,Sl 59 2 RowM.c (.slice a9 m9 c9) (setR l k v)]) (B:=[A,Sl 59 2 RowM.c (.slice a9 m9 c9) (setR l k v)]) (fun S h=>h) ?_
  exact PO.fin Tryz.results26 (rv_tmp rv_nil) (hK a9 m9 c9 _ Ge.one (RL.ge sl_rl Ge.two))
 ·skip
  refine WP.skip<|PO.next<|WP.seq<|WP.reg<|WL.e e_move<|WL.e e_move<|WL.e e_move<|WL.e (el_from (lo:=lowI l k) sl24 hA hle) ?_
  refine WL.h (hl_append (xs:=l.take (lowI l k)++[⟨k,v⟩]) sl24 rowE z59 (RL.from_ (lo:=lowI l k) rowE hA hle) (by simp;omega) fun a9 m9 c9=>?_)
  rw [← setR_not v h1]
  refine WL.e e_assign<|WL.next<|WP.ret<|PO.cls (A:=bun [A,Sl 59 2 RowM.c (.slice a9 m9 c9) (setR l k v)]) (B:=[A,Sl 59 2 RowM.c (.slice a9 m9 c9) (setR l k v)]) (fun S h=>h) ?_
  exact PO.fin Tryz.results26 (rv_tmp rv_nil) (hK a9 m9 c9 _ Ge.one (RL.ge sl_rl Ge.two))
theorem rDel_spec {g:World} {A:HP} {u:SV} {l:List RowM} (k:ByteArray) (hA:RL A 2 RowM.c u.v l) (hn:l.length≤68719470000):Spec Tryz.prog g 69 [u.v,.string k] [A] fun K R=>∀ a m c B,Ge A B→RL B 2 RowM.c (.slice a m c) (dropR l k)→K (.slice a m c) (B::R):=by
 refine Spec.intro Tryz.func69 rfl Tryz.ntmps69 rfl fun R K hK=>?_
 refine WP.seq<|WP.reg<|WL.e e_assign<|WL.next<|WP.seq<|WP.reg<|WL.e e_move<|WL.e e_move ?_
 refine WL.h (h_call (rFind_spec k hA (by omega)) k25 ?_)
 have hle:=lowI_le l k
 refine WL.e e_move<|WL.e e_extract<|WL.e e_extract<|WL.e e_assign<|WL.e e_assign<|WL.next<|WP.seq<|WP.seq<|WP.reg<|WL.e e_move<|WL.e e_not<|WL.next ?_
 refine WP.cond rfl (fun h1=>?_) (fun h1=>?_)
 ·replace h1:hasI l k=false:=by simpa using h1
  refine WP.seq<|WP.reg<|WL.e e_move<|WL.e e_assign<|WL.next<|WP.ret<|PO.past nofun ?_
  exact PO.fin Tryz.results69 (rv_tmp rv_nil) (hK _ _ _ _ (Ge.refl A) (by rw [dropR_not h1];exact hA))
 ·replace h1:hasI l k=true:=by simpa using h1
  have h4:=has_lt h1
  refine WP.nils 59 2 RowM.c none ?_
  refine WP.skip<|PO.next<|WP.seq<|WP.draws mixedOk 10<|RW.e 0 rfl e_move<|RW.e 1 rfl e_move<|RW.e 2 rfl (el_to (hi:=lowI l k) sl24 hA hle)<|RW.e 4 rfl e_move<|RW.e 5 rfl e_move<|RW.e 6 rfl (e_add (c:=((lowI l k+1:Nat):Int)) rfl rfl (by rw [w_i64 (by omega) (by omega)];omega))<|RW.e 7 rfl (el_from (lo:=lowI l k+1) sl24 hA (by omega)) ?_
  refine RW.any (is:=[3]) rfl ⟨?_,trivial⟩
  refine RWat.h rfl rfl rfl ?_
  refine (hl_append (xs:=([]:List RowM)) sl24 rowE z59 (RL.to_ (hi:=lowI l k) rowE hA hle) (by simp;omega) fun a1 m1 c1=>?_)
  rw [List.nil_append]
  refine ⟨⟨⟨_,rfl,.inl ⟨rfl,(el_from (lo:=lowI l k+1) sl24 hA (by omega))⟩⟩,⟨_,rfl,.inl ⟨rfl,(e_add (c:=((lowI l k+1:Nat):Int)) rfl rfl (by rw [w_i64 (by omega) (by omega)];omega))⟩⟩,⟨_,rfl,.inl ⟨rfl,e_move⟩⟩,⟨_,rfl,.inl ⟨rfl,e_move⟩⟩,trivial⟩,?_⟩
  refine RW.any (is:=[8]) rfl ⟨?_,trivial⟩
  refine RWat.h rfl rfl rfl ?_
  refine (hl_append (xs:=l.take (lowI l k)) sl24 rowE z59 (RL.from_ (lo:=lowI l k+1) rowE hA (by omega)) (by simp;omega) fun a9 m9 c9=>?_)
  rw [← dropR_has h1]
  refine ⟨trivial,?_⟩
  refine RW.e 9 rfl e_assign<|RW.done<|PO.next<|WP.ret<|PO.cls (A:=bun [A,Sl 59 2 RowM.c (.slice a9 m9 c9) (dropR l k)]) (B:=[A,Sl 59 2 RowM.c (.slice a9 m9 c9) (dropR l k)]) (fun S h=>h) ?_
  exact PO.fin Tryz.results69 (rv_tmp rv_nil) (hK a9 m9 c9 _ Ge.one (RL.ge sl_rl Ge.two))
theorem rScan_spec {g:World} {A:HP} {u:Value} {l:List RowM} (s:SpanM) (most:Nat) (hA:RL A 2 RowM.c u l) (hn:l.length≤68719470000) (hk:kSz l) (hb:s.b.size≤1000):Spec Tryz.prog g 67 [u,s.v,.int .i64 most] [A] fun K R=>∀ a m c,K (.slice a m c) (Sl 59 2 RowM.c (.slice a m c) (scanR l s most)::A::R):=by
 refine Spec.intro Tryz.func67 rfl Tryz.ntmps67 rfl fun R K hK=>?_
 refine WP.seq<|WP.reg ?_
 refine WL.h (h_box fun b1=>?_)
 refine WL.e e_assign<|WL.next<|WP.seq<|WP.reg<|WL.e e_assign<|WL.next<|WP.seq<|WP.seq<|WP.reg<|WL.e e_assign<|WL.next<|WP.block<|WP.nils 59 2 RowM.c none ?_
 rw [show ([]:List RowM)=scanR (l.take 0) s most by simp [scanR]]
 refine WP.loopK (fun (x:Nat × Value)=>[(8,.int .i64 x.1),(7,x.2)]) (fun (x:Nat × Value)=>Sl 59 2 RowM.c (x.2) (scanR (l.take x.1) s most)::A::cl b1 132 (SpanM.c s)::R) [(0,_),(2,_),(4,_),(6,_)] (fun (x:Nat × Value)=>x.1≤l.length) (fun (x:Nat × Value)=>l.length - x.1) (0,.slice none 0 0) (Nat.zero_le _) ?_
 rintro ⟨i,v⟩ hi
 simp only at hi
 dsimp only
 have hsl:=scan_len (l:=l.take i) (s:=s) (most:=most)
 rw [List.length_take] at hsl
 refine WP.seq<|WP.seq<|WP.reg<|WL.e e_move<|WL.e e_move<|WL.e (el_len sl24 hA)<|WL.e e_lss<|WL.e e_move ?_
 refine WL.join 18 (.bool (decide (i < l.length∧(scanR (l.take i) s most).length < most))) (.c (.c (.c (.c (.c .n))))) ?_ ?_
 ·refine WL.bool 13 rfl (fun hg=>?_) (fun hg=>?_)
  ·skip
   refine WL.e e_move<|WL.e (el_len (xs:=scanR (l.take i) s most) sl24 sl_rl)<|WL.e e_move<|WL.e e_lss<|WL.e e_pick_t ?_
   exact WL.nil (PO.joined rfl (by simp at hg;simp [hg]))
  ·skip
   refine WL.skip<|WL.skip<|WL.skip<|WL.skip<|WL.e e_pick_f ?_
   exact WL.nil (PO.joined rfl (by simp at hg;simp;omega))
 refine WL.next ?_
 refine WP.cond rfl (fun h1=>?_) (fun h1=>?_)
 ·replace h1:=of_decide_eq_true h1
  have hlt:=h1.1
  obtain ⟨x,hx⟩:∃ x,l[i]?=some x:=⟨_,List.getElem?_eq_getElem hlt⟩
  refine WP.skip<|PO.next<|WP.seq<|WP.block<|WP.seq<|WP.draws mixedOk 10<|RW.e 0 rfl e_move<|RW.e 1 rfl e_move<|RW.e 2 rfl (el_ia (j:=i) sl24 hA hlt)<|RW.e 3 rfl (el_fa (j:=i) f59_0 hA hlt)<|RW.e 4 rfl (el_load0 (j:=i) (a:=x) a9 rowE hA hx)<|RW.e 5 rfl (e_fa f132_0)<|RW.e 6 rfl (e_load a9)<|RW.e 7 rfl (e_fa f132_1)<|RW.e 8 rfl (e_load a9) ?_
  refine RW.any (is:=[9]) rfl ⟨?_,trivial⟩
  refine RWat.h rfl rfl rfl ?_
  refine (h_call (rIn_spec x.key s.a s.b (hk x (List.mem_of_getElem? hx)) hb) k114 ?_)
  refine ⟨trivial,?_⟩
  refine RW.done<|PO.next ?_
  refine WP.cond rfl (fun h4=>?_) (fun h4=>?_)
  ·skip
   refine WP.reg<|WL.e e_move<|WL.e e_move<|WL.e e_move<|WL.e (el_ia (j:=i) sl24 hA hlt)<|WL.e (el_loadN (j:=i) (a:=x) a59 rowE hA hx) ?_
   refine WL.h (h_bs sl24 z59 (.a2 (.tmp 35) rfl<|.n) fun b2=>?_)
   refine WL.h (hl_append (xs:=scanR (l.take i) s most) sl24 rowE z59 (lit_rl rowE [x] rfl) (by simp;omega) fun a9 m9 c9=>?_)
   refine WL.e e_assign<|WL.nil<|PO.blockN<|PO.next<|WP.reg<|WL.e e_move<|WL.e (e_add (c:=((i+1:Nat):Int)) rfl rfl (by rw [w_i64 (by omega) (by omega)];omega))<|WL.e e_assign<|WL.nil ?_
   rw [← scanMore hx h4 h1.2]
   exact PO.againK (i+1,.slice a9 m9 c9) (by simp only;omega) (by simp only;omega)
  ·skip
   refine WP.skip<|PO.blockN<|PO.next<|WP.reg<|WL.e e_move<|WL.e (e_add (c:=((i+1:Nat):Int)) rfl rfl (by rw [w_i64 (by omega) (by omega)];omega))<|WL.e e_assign<|WL.nil ?_
   rw [← scan_out hx h4]
   exact PO.againK (i+1,v) (by simp only;omega) (by simp only;omega)
 ·replace h1:=of_decide_eq_false h1
  have hfin:scanR l s most=scanR (l.take i) s most:=by
   by_cases h5:i < l.length
   ·exact scan_full (by omega)
   ·exact scan_end (by omega)
  refine WP.exit<|PO.past nofun<|PO.round nofun<|PO.blockX<|PO.next<|WP.seq<|WP.reg<|WL.e e_move<|WL.e e_assign<|WL.next<|WP.ret ?_
  rw [← hfin]
  refine PO.sh (u:=v) ?_
  rintro a8 m8 c8 rfl
  exact PO.fin Tryz.results67 (rv_tmp rv_nil) (hK a8 m8 c8)
end Go.SL
namespace Go.SL.Fc
open Go Go.Proofs Go.SL
theorem k26:callable Tryz.prog 26=true:=by kernel_rfl
theorem k28:callable Tryz.prog 28=true:=by kernel_rfl
theorem k66:callable Tryz.prog 66=true:=by kernel_rfl
theorem k67:callable Tryz.prog 67=true:=by kernel_rfl
theorem k68:callable Tryz.prog 68=true:=by kernel_rfl
theorem k69:callable Tryz.prog 69=true:=by kernel_rfl
end Go.SL.Fc
namespace Go.SL
open Go Go.Proofs Fc
theorem rSameRows_spec {g:World} {A:HP} {u v:Value} {xs ys:List RowM} (hA:RL A 2 RowM.c u xs) (hB:RL A 2 RowM.c v ys) (hn:xs.length≤68719476736):Spec Tryz.prog g 28 [u,v] [A] fun K R=>K (.bool (decide (xs=ys))) (A::R):=by
  refine Spec.intro Tryz.func28 rfl Tryz.ntmps28 rfl fun R K hK=>?_
  refine WP.seq<|WP.reg<|WL.e e_assign<|WL.next<|WP.seq<|WP.seq<|WP.reg<|WL.e e_move<|WL.e (el_len (xs:=xs) sl24 hA)<|WL.e e_move<|WL.e (el_len (xs:=ys) sl24 hB)<|WL.e e_neq<|WL.next ?_
  refine WP.cond rfl (fun h1=>?_) (fun h1=>?_)
  · replace h1:xs≠ys:=fun e=>by subst e;simp at h1
    refine WP.seq<|WP.reg<|WL.e e_assign<|WL.next<|WP.ret<|PO.past nofun ?_
    exact PO.finE Tryz.results28 (rv_tmp rv_nil) (by rw [decide_eq_false h1];rfl) hK
  · replace h1:xs.length=ys.length:=by simp at h1;omega
    refine WP.skip<|PO.next<|WP.seq<|WP.seq<|WP.reg<|WL.e e_assign<|WL.next<|WP.block<|WP.loopK (fun (i:Nat)=>[(5,.int .i64 i)]) (fun (i:Nat)=>A::R) [(0,_),(1,_)] (fun (i:Nat)=>i≤xs.length∧xs.take i=ys.take i) (fun (i:Nat)=>xs.length - i) 0 (⟨Nat.zero_le _,rfl⟩) ?_
    rintro i ⟨hi,he⟩
    refine WP.seq<|WP.seq<|WP.reg<|WL.e e_move<|WL.e e_move<|WL.e (el_len (xs:=xs) sl24 hA)<|WL.e e_lss<|WL.next ?_
    refine WP.cond rfl (fun h2=>?_) (fun h2=>?_)
    · have hlt:i < xs.length:=by rw [decide_eq_true_eq] at h2;omega
      obtain ⟨x,hx⟩:∃ x,xs[i]?=some x:=⟨_,List.getElem?_eq_getElem hlt⟩
      obtain ⟨y,hy⟩:∃ y,ys[i]?=some y:=⟨_,List.getElem?_eq_getElem (by omega)⟩
      refine WP.skip<|PO.next<|WP.seq<|WP.block<|WP.seq<|WP.draws mixedOk 9<|RW.e 0 rfl e_move<|RW.e 1 rfl e_move<|RW.e 2 rfl (el_ia (j:=i) (xs:=xs) sl24 hA hlt)<|RW.e 3 rfl (el_loadN (j:=i) (a:=x) (xs:=xs) a59 rowE hA hx)<|RW.e 4 rfl e_move<|RW.e 5 rfl e_move<|RW.e 6 rfl (el_ia (j:=i) (xs:=ys) sl24 hB (by omega))<|RW.e 7 rfl (el_loadN (j:=i) (a:=y) (xs:=ys) a59 rowE hB hy)<|RW.e 8 rfl (e_rowne (a:=x) (b:=y) Tryz.underlying59 Tryz.underlying9 Tryz.underlying35 a9 a35 stoodRow eqgRow rfl rfl)<|RW.done<|PO.next ?_
      refine WP.cond rfl (fun h3=>?_) (fun h3=>?_)
      · replace h3:x≠y:=by simpa using h3
        replace h3:=ne_at hx hy h3
        refine WP.seq<|WP.reg<|WL.e e_assign<|WL.next<|WP.ret<|PO.blockR<|PO.past nofun<|PO.round nofun<|PO.blockR<|PO.past nofun ?_
        exact PO.finE Tryz.results28 (rv_tmp rv_nil) (by rw [decide_eq_false h3];rfl) hK
      · replace h3:x=y:=by simpa using h3
        refine WP.skip<|PO.blockN<|PO.next<|WP.reg<|WL.e e_move<|WL.e (e_add (c:=((i+1:Nat):Int)) rfl rfl (by rw [w_i64 (by omega) (by omega)];omega))<|WL.e e_assign<|WL.nil ?_
        exact PO.againK (i+1) ⟨by omega,eq_step he hx hy h3⟩ (by omega)
    · have hge:xs.length≤i:=by rw [decide_eq_false_iff_not] at h2;omega
      replace h2:xs=ys:=by rwa [List.take_of_length_le hge,List.take_of_length_le (by omega)] at he
      refine WP.exit<|PO.past nofun<|PO.round nofun<|PO.blockX<|PO.next<|WP.seq<|WP.reg<|WL.e e_assign<|WL.next<|WP.ret ?_
      exact PO.finE Tryz.results28 (rv_tmp rv_nil) (by rw [decide_eq_true h2];rfl) hK
theorem rSame_spec {g:World} {A:HP} {u v:Value} {ps qs:List (List RowM)} (hX:RsL A u ps) (hY:RsL A v qs) (hn:ps.length≤68719476736) (hr:∀ l ∈ ps,l.length≤68719476736):Spec Tryz.prog g 24 [u,v] [A] fun K R=>K (.bool (decide (ps=qs))) (A::R):=by
  obtain ⟨xs,hA,h1x,e1⟩:=hX
  obtain ⟨ys,hB,h1y,e2⟩:=hY
  rw [← e1,List.length_map] at hn
  refine Spec.intro Tryz.func24 rfl Tryz.ntmps24 rfl fun R K hK=>?_
  refine WP.seq<|WP.reg<|WL.e e_assign<|WL.next<|WP.seq<|WP.seq<|WP.reg<|WL.e e_move<|WL.e (el_len (xs:=xs) sl37 hA)<|WL.e e_move<|WL.e (el_len (xs:=ys) sl37 hB)<|WL.e e_neq<|WL.next ?_
  refine WP.cond rfl (fun h1=>?_) (fun h1=>?_)
  · replace h1:ps≠qs:=fun e=>by
      rw [← e1,← e2] at e
      have:=congrArg List.length e
      simp at this
      simp [this] at h1
    refine WP.seq<|WP.reg<|WL.e e_assign<|WL.next<|WP.ret<|PO.past nofun ?_
    exact PO.finE Tryz.results24 (rv_tmp rv_nil) (by rw [decide_eq_false h1];rfl) hK
  · replace h1:xs.length=ys.length:=by simp at h1;omega
    refine WP.skip<|PO.next<|WP.seq<|WP.seq<|WP.reg<|WL.e e_assign<|WL.next<|WP.block<|WP.loopK (fun (i:Nat)=>[(5,.int .i64 i)]) (fun (i:Nat)=>A::R) [(0,_),(1,_)] (fun (i:Nat)=>i≤xs.length∧ps.take i=qs.take i) (fun (i:Nat)=>xs.length - i) 0 (⟨Nat.zero_le _,rfl⟩) ?_
    rintro i ⟨hi,he⟩
    refine WP.seq<|WP.seq<|WP.reg<|WL.e e_move<|WL.e e_move<|WL.e (el_len (xs:=xs) sl37 hA)<|WL.e e_lss<|WL.next ?_
    refine WP.cond rfl (fun h2=>?_) (fun h2=>?_)
    · have hlt:i < xs.length:=by rw [decide_eq_true_eq] at h2;omega
      obtain ⟨x,hx⟩:∃ x,xs[i]?=some x:=⟨_,List.getElem?_eq_getElem hlt⟩
      obtain ⟨y,hy⟩:∃ y,ys[i]?=some y:=⟨_,List.getElem?_eq_getElem (by omega)⟩
      have hpx:ps[i]?=some x.2:=by rw [← e1,List.getElem?_map,hx];rfl
      have hqy:qs[i]?=some y.2:=by rw [← e2,List.getElem?_map,hy];rfl
      refine WP.skip<|PO.next<|WP.seq<|WP.block<|WP.seq<|WP.draws mixedOk 12<|RW.e 0 rfl e_move<|RW.e 1 rfl e_move<|RW.e 2 rfl (el_ia (j:=i) (xs:=xs) sl37 hA (by omega))<|RW.e 3 rfl (el_fa (z:=1) (j:=i) (xs:=xs) f123_0 hA (by omega))<|RW.e 4 rfl (el_load0 (j:=i) (a:=x) (xs:=xs) a24 resE hA hx)<|RW.e 5 rfl e_move<|RW.e 6 rfl e_move<|RW.e 7 rfl (el_ia (j:=i) (xs:=ys) sl37 hB (by omega))<|RW.e 8 rfl (el_fa (z:=1) (j:=i) (xs:=ys) f123_0 hB (by omega))<|RW.e 9 rfl (el_load0 (j:=i) (a:=y) (xs:=ys) a24 resE hB hy) ?_
      refine RW.any (is:=[10]) rfl ⟨?_,trivial⟩
      refine RWat.h rfl rfl rfl ?_
      refine (h_call (rSameRows_spec (h1x x (List.mem_of_getElem? hx)) (h1y y (List.mem_of_getElem? hy)) (hr x.2 (List.mem_of_getElem? hpx))) k28 ?_)
      refine ⟨trivial,?_⟩
      refine RW.e 11 rfl e_not<|RW.done<|PO.next ?_
      refine WP.cond rfl (fun h3=>?_) (fun h3=>?_)
      · replace h3:x.2≠y.2:=by simpa using h3
        replace h3:=ne_at hpx hqy h3
        refine WP.seq<|WP.reg<|WL.e e_assign<|WL.next<|WP.ret<|PO.blockR<|PO.past nofun<|PO.round nofun<|PO.blockR<|PO.past nofun ?_
        exact PO.finE Tryz.results24 (rv_tmp rv_nil) (by rw [decide_eq_false h3];rfl) hK
      · replace h3:x.2=y.2:=by simpa using h3
        refine WP.skip<|PO.blockN<|PO.next<|WP.reg<|WL.e e_move<|WL.e (e_add (c:=((i+1:Nat):Int)) rfl rfl (by rw [w_i64 (by omega) (by omega)];omega))<|WL.e e_assign<|WL.nil ?_
        exact PO.againK (i+1) ⟨by omega,eq_step he hpx hqy h3⟩ (by omega)
    · have hge:xs.length≤i:=by rw [decide_eq_false_iff_not] at h2;omega
      replace h2:ps=qs:=by rwa [List.take_of_length_le (by rw [← e1,List.length_map];omega),List.take_of_length_le (by rw [← e2,List.length_map];omega)] at he
      refine WP.exit<|PO.past nofun<|PO.round nofun<|PO.blockX<|PO.next<|WP.seq<|WP.reg<|WL.e e_assign<|WL.next<|WP.ret ?_
      exact PO.finE Tryz.results24 (rv_tmp rv_nil) (by rw [decide_eq_true h2];rfl) hK
set_option maxHeartbeats 4000000 in
theorem rRun_spec {g:World} {A:HP} {u v:Value} {rows:List RowM} {l:List OpM} (hA:RL A 2 RowM.c u rows) (hB:RL A 4 OpM.c v l) (hr:Rising rows) (hk:KeysOk rows) (hn:rows.length+l.length≤1000000) (hz:∀ x ∈ l,x.key.size≤140737488351232∧x.to.size≤140737488351232) :
    Spec Tryz.prog g 23 [u,v] [A] fun K R=>(l.all opOk=false→∀ B,Ge A B→K (.tuple #[.slice none 0 0,.slice none 0 0,.int .i64 1]) (B::R))∧(l.all opOk=true→∀ (s1 s2:SV) B,Ge A B→RsL B s1.v (runM rows l).1→RL B 2 RowM.c s2.v (runM rows l).2→K (.tuple #[s1.v,s2.v,.int .i64 0]) (B::R)):=by
  refine Spec.intro Tryz.func23 rfl Tryz.ntmps23 rfl fun R K hK=>?_
  refine WP.seq<|WP.reg<|WL.e e_assign<|WL.e e_assign<|WL.e e_assign<|WL.next<|WP.seq<|WP.reg<|WL.e e_assign<|WL.next<|WP.seq<|WP.seq<|WP.reg<|WL.e e_assign<|WL.next<|WP.block<|WP.loopK (fun (z:Nat × SV × HP)=>[(8,.int .i64 z.1),(7,z.2.1.v)]) (fun (z:Nat × SV × HP)=>z.2.2::R) [(0,_),(1,_)] (fun (z:Nat × SV × HP)=>z.1≤rows.length∧Ge A z.2.2∧RL z.2.2 2 RowM.c z.2.1.v (rows.take z.1)) (fun (z:Nat × SV × HP)=>rows.length - z.1) (0,⟨none,0,0⟩,A) (⟨Nat.zero_le _,Ge.refl A,nil_rl⟩) ?_
  rintro ⟨i,sm,B⟩ ⟨hi,hG,hL⟩
  simp only at hi hG hL
  dsimp only
  refine WP.seq<|WP.seq<|WP.reg<|WL.e e_move<|WL.e e_move<|WL.e (el_len (xs:=rows) sl24 (hA.ge hG))<|WL.e e_lss<|WL.next ?_
  refine WP.cond rfl (fun h1=>?_) (fun h1=>?_)
  · have hlt:i < rows.length:=by rw [decide_eq_true_eq] at h1;omega
    obtain ⟨x,hx⟩:∃ x,rows[i]?=some x:=⟨_,List.getElem?_eq_getElem hlt⟩
    have hkx:=hk x (List.mem_of_getElem? hx)
    refine WP.skip<|PO.next<|WP.seq<|WP.block<|WP.seq<|WP.reg<|WL.e e_move<|WL.e e_move<|WL.e e_move<|WL.e (el_ia (j:=i) (xs:=rows) sl24 (hA.ge hG) hlt)<|WL.e (el_fa (z:=2) (j:=i) (xs:=rows) f59_0 (hA.ge hG) hlt)<|WL.e (el_load0 (j:=i) (a:=x) (xs:=rows) a9 rowE (hA.ge hG) hx) ?_
    refine WL.h (h_call (rFind_spec x.key hL (by simp;omega)) k25 ?_)
    rw [has_app (rising_take hr hx)]
    refine WL.e e_move<|WL.e e_extract<|WL.e e_extract<|WL.e e_assign<|WL.e e_assign<|WL.next<|WP.seq<|WP.seq<|WP.reg<|WL.e e_move<|WL.e e_move ?_
    refine WL.bool 31 rfl (fun g1=>?_) (fun g1=>?_)
    · cases g1 
    · skip
      refine WL.e e_move<|WL.e e_move<|WL.e (el_ia (j:=i) (xs:=rows) sl24 (hA.ge hG) hlt)<|WL.e (el_fa (z:=2) (j:=i) (xs:=rows) f59_0 (hA.ge hG) hlt)<|WL.e (el_load0 (j:=i) (a:=x) (xs:=rows) a9 rowE (hA.ge hG) hx) ?_
      refine WL.h (h_call (rKey_spec x.key (by have:=key_sz hkx;omega)) k65 ?_)
      rw [hkx]
      refine WL.e e_not<|WL.e e_pick_f<|WL.next<|WP.cond_f rfl<|WP.skip<|PO.next<|WP.draws mixedOk 13<|RW.e 0 rfl e_move<|RW.e 1 rfl e_move<|RW.e 2 rfl e_move<|RW.e 3 rfl (el_ia (j:=i) (xs:=rows) sl24 (hA.ge hG) hlt)<|RW.e 4 rfl (el_fa (z:=2) (j:=i) (xs:=rows) f59_0 (hA.ge hG) hlt)<|RW.e 5 rfl (el_load0 (j:=i) (a:=x) (xs:=rows) a9 rowE (hA.ge hG) hx)<|RW.e 6 rfl e_move<|RW.e 7 rfl e_move<|RW.e 8 rfl (el_ia (j:=i) (xs:=rows) sl24 (hA.ge hG) hlt)<|RW.e 9 rfl (el_fa (z:=2) (j:=i) (xs:=rows) f59_1 (hA.ge hG) hlt)<|RW.e 10 rfl (el_load (j:=i) (f:=1) (a:=x) (xs:=rows) a35 rowE (hA.ge hG) hx) ?_
      refine RW.any (is:=[11]) rfl ⟨?_,trivial⟩
      refine RWat.h rfl rfl rfl ?_
      refine (h_call (rPut_spec x.key x.val hL (by simp;omega)) k26 ?_)
      intro a2 m2 c2 B2 hG2 hL2
      rw [setR_app (rising_take hr hx),show rows.take i++[⟨x.key,x.val⟩]=rows.take (i+1) from (take_snoc hx).symm] at hL2
      refine ⟨trivial,?_⟩
      refine RW.any (is:=[12]) rfl ⟨?_,trivial⟩
      refine RWat.h rfl rfl rfl<|HO.of_eo e_assign ?_
      refine ⟨trivial,?_⟩
      refine RW.done<|PO.blockN<|PO.next<|WP.reg<|WL.e e_move<|WL.e (e_add (c:=((i+1:Nat):Int)) rfl rfl (by rw [w_i64 (by omega) (by omega)];omega))<|WL.e e_assign<|WL.nil ?_
      exact PO.againK (i+1,⟨a2,m2,c2⟩,B2) ⟨by simp only;omega,hG.trans hG2,hL2⟩ (by simp only;omega)
  · rw [List.take_of_length_le (show rows.length≤i by rw [decide_eq_false_iff_not] at h1;omega)] at hL
    refine WP.exit<|PO.past nofun<|PO.round nofun<|PO.blockX<|PO.next<|WP.seq<|WP.reg<|WL.e e_assign<|WL.next<|WP.seq<|WP.seq<|WP.reg<|WL.e e_assign<|WL.next<|WP.block<|WP.nils 123 1 resC none ?_
    refine WP.loopK (fun (z:Nat × SV × List ResV × SV × HP)=>[(12,.int .i64 z.1),(11,z.2.1.v),(7,z.2.2.2.1.v)]) (fun (z:Nat × SV × List ResV × SV × HP)=>Sl 123 1 resC (z.2.1.v) (z.2.2.1)::z.2.2.2.2::R) [(1,_)] (fun (z:Nat × SV × List ResV × SV × HP)=>z.1≤l.length∧z.2.2.1.map (·.2)=(runM rows (l.take z.1)).1∧(l.take z.1).all opOk=true∧Ge A z.2.2.2.2∧(∀ r ∈ z.2.2.1,RL z.2.2.2.2 2 RowM.c r.1.v r.2)∧RL z.2.2.2.2 2 RowM.c z.2.2.2.1.v (runM rows (l.take z.1)).2) (fun (z:Nat × SV × List ResV × SV × HP)=>l.length - z.1) (0,⟨none,0,0⟩,[],sm,B) (⟨Nat.zero_le _,rfl,rfl,hG,(fun r hm=>by cases hm),hL⟩) ?_
    clear hG hL
    rintro ⟨i,so,ts,sm,B⟩ ⟨hi,ht,ho,hG,hT,hL⟩
    simp only at hi ht ho hG hT hL
    dsimp only
    obtain ⟨hr1,hr2,hr3⟩:=runM_rows hr (l.take i)
    have hk2:=runM_keys hr hk (l.take i) (fun y hy=>List.all_eq_true.1 ho y hy)
    rw [List.length_take] at hr2
    refine WP.seq<|WP.seq<|WP.reg<|WL.e e_move<|WL.e e_move<|WL.e (el_len (xs:=l) sl36 (hB.ge hG))<|WL.e e_lss<|WL.next ?_
    refine WP.cond rfl (fun h2=>?_) (fun h2=>?_)
    · have hlt:i < l.length:=by rw [decide_eq_true_eq] at h2;omega
      obtain ⟨x,hx⟩:∃ x,l[i]?=some x:=⟨_,List.getElem?_eq_getElem hlt⟩
      obtain ⟨z1,z2⟩:=hz x (List.mem_of_getElem? hx)
      refine WP.skip<|PO.next<|WP.seq<|WP.block<|WP.seq<|WP.seq<|WP.reg<|WL.e e_move<|WL.e e_move<|WL.e (el_ia (j:=i) (xs:=l) sl36 (hB.ge hG) hlt)<|WL.e (el_loadN (j:=i) (a:=x) (xs:=l) a115 opE (hB.ge hG) hx) ?_
      refine WL.h (h_call (rOp_spec x (by omega) (by omega)) k66 ?_)
      refine WL.e e_not<|WL.next ?_
      refine WP.cond rfl (fun h3=>?_) (fun h3=>?_)
      · replace h3:opOk x=false:=by simpa using h3
        refine WP.seq<|WP.reg<|WL.e e_assign<|WL.e e_assign<|WL.e e_assign<|WL.next<|WP.ret<|PO.past nofun<|PO.blockR<|PO.past nofun<|PO.round nofun<|PO.blockR<|PO.past nofun ?_
        exact PO.fin Tryz.results23 (rv_tmp (rv_tmp (rv_tmp rv_nil))) (hK.1 (List.all_eq_false.2 ⟨x,List.mem_of_getElem? hx,by rw [h3];decide⟩) _ hG)
      · replace h3:opOk x=true:=by simpa using h3
        refine WP.skip<|PO.next<|WP.seq<|WP.reg<|WL.e (e_build z123 p123 (.z (.slice none 0 0)<|.n)) ?_
        refine WL.h (h_alloc z123 fun b1=>?_)
        refine WL.h' (h_store s123 ?_)
        refine WL.next<|WP.seq<|WP.seq<|WP.reg<|WL.e e_move<|WL.e e_move<|WL.e (el_ia (j:=i) (xs:=l) sl36 (hB.ge hG) hlt)<|WL.e (el_fa (z:=4) (j:=i) (xs:=l) f115_0 (hB.ge hG) hlt)<|WL.e (el_load0 (j:=i) (a:=x) (xs:=l) a113 opE (hB.ge hG) hx)<|WL.next<|WP.block<|WP.seq<|WP.seq<|WP.reg<|WL.e (e_eql8 (b:=1))<|WL.e e_assign<|WL.next ?_
        refine WP.cond rfl (fun h4=>?_) (fun h4=>?_)
        · skip
          refine WP.skip<|PO.next ?_
          refine WP.cond rfl (fun h5=>?_) (fun h5=>?_)
          · replace h4:x.kind=1:=by simpa using h4
            have hm2:runM rows (l.take (i+1))=((runM rows (l.take i)).1++[scanR (runM rows (l.take i)).2 (spanOf x) 256],(runM rows (l.take i)).2):=by rw [runM_take rows hx,done_read hr1 h3 (by simp [writes,h4])]
            refine WP.reg<|WL.e e_move<|WL.e e_move<|WL.e e_move<|WL.e (el_ia (j:=i) (xs:=l) sl36 (hB.ge hG) hlt)<|WL.e (el_loadN (j:=i) (a:=x) (xs:=l) a115 opE (hB.ge hG) hx) ?_
            refine WL.h (h_call (rOf_spec x) k68 ?_)
            refine WL.h (h_call (rScan_spec (spanOf x) 256 hL (by omega) (KeysOk.sz hk2) (span_sz h3)) k67 ?_)
            intro a5 n5 c5
            refine WL.e (e_fa f123_0) ?_
            refine WL.h' (h_store s24 ?_)
            refine WL.nil<|PO.blockN<|PO.next<|WP.reg<|WL.e e_move<|WL.e (e_loadN a123) ?_
            refine WL.h (h_bs sl37 z123 (.a1 (.tmp 103) rfl<|.n) fun b2=>?_)
            refine WL.h (hl_append (xs:=ts) (ys:=[((⟨a5,n5,c5⟩,scanR (runM rows (l.take i)).2 (spanOf x) 256):ResV)]) sl37 resE z123 (lit_rl resE [((⟨a5,n5,c5⟩,scanR (runM rows (l.take i)).2 (spanOf x) 256):ResV)] rfl) (by have:=congrArg List.length ht;rw [List.length_map,hr3,List.length_take] at this;simp only [List.length_cons,List.length_nil];omega) (fun a2 n2 c2=>?_))
            refine WL.e e_assign<|WL.nil<|PO.blockN<|PO.next<|WP.reg<|WL.e e_move<|WL.e (e_add (c:=((i+1:Nat):Int)) rfl rfl (by rw [w_i64 (by omega) (by omega)];omega))<|WL.e e_assign<|WL.nil<|PO.cls (A:=bun [B,Sl 59 2 RowM.c (.slice a5 n5 c5) (scanR (runM rows (l.take i)).2 (spanOf x) 256)]) (B:=[B,Sl 59 2 RowM.c (.slice a5 n5 c5) (scanR (runM rows (l.take i)).2 (spanOf x) 256)]) (fun S h=>h) ?_
            exact PO.againK (i+1,⟨a2,n2,c2⟩,ts++[((⟨a5,n5,c5⟩,scanR (runM rows (l.take i)).2 (spanOf x) 256):ResV)],sm,bun [B,Sl 59 2 RowM.c (.slice a5 n5 c5) (scanR (runM rows (l.take i)).2 (spanOf x) 256)]) ⟨by simp only;omega,by simp only;rw [hm2,List.map_append,ht];rfl,all_snoc ho hx h3,hG.trans Ge.one,fun r hm=>by
              simp only at hm ⊢
              rcases List.mem_append.1 hm with hm | hm
              · exact (hT r hm).ge Ge.one
              · simp only [List.mem_singleton] at hm;subst hm;exact RL.ge sl_rl Ge.two,by simp only;rw [hm2];exact hL.ge Ge.one⟩ (by simp only;omega)
          · rw [h4] at h5;cases h5
        · skip
          refine WP.reg<|WL.e (e_eql8 (b:=4))<|WL.e e_assign<|WL.next ?_
          refine WP.cond rfl (fun h5=>?_) (fun h5=>?_)
          · replace h5:x.kind=4:=by simpa using h5
            have hm2:runM rows (l.take (i+1))=((runM rows (l.take i)).1++[scanR (runM rows (l.take i)).2 (spanOf x) 256],(runM rows (l.take i)).2):=by rw [runM_take rows hx,done_read hr1 h3 (by simp [writes,h5])]
            refine WP.reg<|WL.e e_move<|WL.e e_move<|WL.e e_move<|WL.e (el_ia (j:=i) (xs:=l) sl36 (hB.ge hG) hlt)<|WL.e (el_loadN (j:=i) (a:=x) (xs:=l) a115 opE (hB.ge hG) hx) ?_
            refine WL.h (h_call (rOf_spec x) k68 ?_)
            refine WL.h (h_call (rScan_spec (spanOf x) 256 hL (by omega) (KeysOk.sz hk2) (span_sz h3)) k67 ?_)
            intro a5 n5 c5
            refine WL.e (e_fa f123_0) ?_
            refine WL.h' (h_store s24 ?_)
            refine WL.nil<|PO.blockN<|PO.next<|WP.reg<|WL.e e_move<|WL.e (e_loadN a123) ?_
            refine WL.h (h_bs sl37 z123 (.a1 (.tmp 103) rfl<|.n) fun b3=>?_)
            refine WL.h (hl_append (xs:=ts) (ys:=[((⟨a5,n5,c5⟩,scanR (runM rows (l.take i)).2 (spanOf x) 256):ResV)]) sl37 resE z123 (lit_rl resE [((⟨a5,n5,c5⟩,scanR (runM rows (l.take i)).2 (spanOf x) 256):ResV)] rfl) (by have:=congrArg List.length ht;rw [List.length_map,hr3,List.length_take] at this;simp only [List.length_cons,List.length_nil];omega) (fun a2 n2 c2=>?_))
            refine WL.e e_assign<|WL.nil<|PO.blockN<|PO.next<|WP.reg<|WL.e e_move<|WL.e (e_add (c:=((i+1:Nat):Int)) rfl rfl (by rw [w_i64 (by omega) (by omega)];omega))<|WL.e e_assign<|WL.nil<|PO.cls (A:=bun [B,Sl 59 2 RowM.c (.slice a5 n5 c5) (scanR (runM rows (l.take i)).2 (spanOf x) 256)]) (B:=[B,Sl 59 2 RowM.c (.slice a5 n5 c5) (scanR (runM rows (l.take i)).2 (spanOf x) 256)]) (fun S h=>h) ?_
            exact PO.againK (i+1,⟨a2,n2,c2⟩,ts++[((⟨a5,n5,c5⟩,scanR (runM rows (l.take i)).2 (spanOf x) 256):ResV)],sm,bun [B,Sl 59 2 RowM.c (.slice a5 n5 c5) (scanR (runM rows (l.take i)).2 (spanOf x) 256)]) ⟨by simp only;omega,by simp only;rw [hm2,List.map_append,ht];rfl,all_snoc ho hx h3,hG.trans Ge.one,fun r hm=>by
              simp only at hm ⊢
              rcases List.mem_append.1 hm with hm | hm
              · exact (hT r hm).ge Ge.one
              · simp only [List.mem_singleton] at hm;subst hm;exact RL.ge sl_rl Ge.two,by simp only;rw [hm2];exact hL.ge Ge.one⟩ (by simp only;omega)
          · replace h4:x.kind≠1:=by simpa using h4
            replace h5:x.kind≠4:=by simpa using h5
            refine WP.seq<|WP.reg<|WL.e (e_eql8 (b:=2))<|WL.e e_assign<|WL.next ?_
            refine WP.cond rfl (fun h6=>?_) (fun h6=>?_)
            · replace h6:x.kind=2:=by simpa using h6
              have hm2:runM rows (l.take (i+1))=((runM rows (l.take i)).1++[[]],setR (runM rows (l.take i)).2 x.key x.val):=by rw [runM_take rows hx,show doneO (runM rows (l.take i)).2 x=([],setR (runM rows (l.take i)).2 x.key x.val) by simp [doneO,h6]]
              refine WP.draws mixedOk 13<|RW.e 0 rfl e_move<|RW.e 1 rfl e_move<|RW.e 2 rfl e_move<|RW.e 3 rfl (el_ia (j:=i) (xs:=l) sl36 (hB.ge hG) hlt)<|RW.e 4 rfl (el_fa (z:=4) (j:=i) (xs:=l) f115_1 (hB.ge hG) hlt)<|RW.e 5 rfl (el_load (j:=i) (f:=1) (a:=x) (xs:=l) a9 opE (hB.ge hG) hx)<|RW.e 6 rfl e_move<|RW.e 7 rfl e_move<|RW.e 8 rfl (el_ia (j:=i) (xs:=l) sl36 (hB.ge hG) hlt)<|RW.e 9 rfl (el_fa (z:=4) (j:=i) (xs:=l) f115_3 (hB.ge hG) hlt)<|RW.e 10 rfl (el_load (j:=i) (f:=3) (a:=x) (xs:=l) a35 opE (hB.ge hG) hx) ?_
              refine RW.any (is:=[11]) rfl ⟨?_,trivial⟩
              refine RWat.h rfl rfl rfl ?_
              refine (h_call (rPut_spec x.key x.val hL (by omega)) k26 ?_)
              intro a6 m6 c6 B2 hG2 hL2
              refine ⟨trivial,?_⟩
              refine RW.any (is:=[12]) rfl ⟨?_,trivial⟩
              refine RWat.h rfl rfl rfl<|HO.of_eo e_assign ?_
              refine ⟨trivial,?_⟩
              refine RW.done<|PO.blockN<|PO.next<|WP.reg<|WL.e e_move<|WL.e (e_loadN a123) ?_
              refine WL.h (h_bs sl37 z123 (.a1 (.tmp 103) rfl<|.n) fun b4=>?_)
              refine WL.h (hl_append (xs:=ts) (ys:=[((⟨none,0,0⟩,[]):ResV)]) sl37 resE z123 (lit_rl resE [((⟨none,0,0⟩,[]):ResV)] rfl) (by have:=congrArg List.length ht;rw [List.length_map,hr3,List.length_take] at this;simp only [List.length_cons,List.length_nil];omega) (fun a2 n2 c2=>?_))
              refine WL.e e_assign<|WL.nil<|PO.blockN<|PO.next<|WP.reg<|WL.e e_move<|WL.e (e_add (c:=((i+1:Nat):Int)) rfl rfl (by rw [w_i64 (by omega) (by omega)];omega))<|WL.e e_assign<|WL.nil ?_
              exact PO.againK (i+1,⟨a2,n2,c2⟩,ts++[((⟨none,0,0⟩,[]):ResV)],⟨a6,m6,c6⟩,B2) ⟨by simp only;omega,by simp only;rw [hm2,List.map_append,ht];rfl,all_snoc ho hx h3,hG.trans hG2,fun r hm=>by
                simp only at hm ⊢
                rcases List.mem_append.1 hm with hm | hm
                · exact (hT r hm).ge hG2
                · simp only [List.mem_singleton] at hm;subst hm;exact nil_rl,by simp only;rw [hm2];exact hL2⟩ (by simp only;omega)
            · replace h6:x.kind≠2:=by simpa using h6
              have hm2:runM rows (l.take (i+1))=((runM rows (l.take i)).1++[[]],dropR (runM rows (l.take i)).2 x.key):=by rw [runM_take rows hx,show doneO (runM rows (l.take i)).2 x=([],dropR (runM rows (l.take i)).2 x.key) by simp [doneO,h4,h5,h6]]
              refine WP.reg<|WL.e e_move<|WL.e e_move<|WL.e e_move<|WL.e (el_ia (j:=i) (xs:=l) sl36 (hB.ge hG) hlt)<|WL.e (el_fa (z:=4) (j:=i) (xs:=l) f115_1 (hB.ge hG) hlt)<|WL.e (el_load (j:=i) (f:=1) (a:=x) (xs:=l) a9 opE (hB.ge hG) hx) ?_
              refine WL.h (h_call (rDel_spec x.key hL (by omega)) k69 ?_)
              intro a6 m6 c6 B2 hG2 hL2
              refine WL.e e_assign<|WL.nil<|PO.blockN<|PO.next<|WP.reg<|WL.e e_move<|WL.e (e_loadN a123) ?_
              refine WL.h (h_bs sl37 z123 (.a1 (.tmp 103) rfl<|.n) fun b5=>?_)
              refine WL.h (hl_append (xs:=ts) (ys:=[((⟨none,0,0⟩,[]):ResV)]) sl37 resE z123 (lit_rl resE [((⟨none,0,0⟩,[]):ResV)] rfl) (by have:=congrArg List.length ht;rw [List.length_map,hr3,List.length_take] at this;simp only [List.length_cons,List.length_nil];omega) (fun a2 n2 c2=>?_))
              refine WL.e e_assign<|WL.nil<|PO.blockN<|PO.next<|WP.reg<|WL.e e_move<|WL.e (e_add (c:=((i+1:Nat):Int)) rfl rfl (by rw [w_i64 (by omega) (by omega)];omega))<|WL.e e_assign<|WL.nil ?_
              exact PO.againK (i+1,⟨a2,n2,c2⟩,ts++[((⟨none,0,0⟩,[]):ResV)],⟨a6,m6,c6⟩,B2) ⟨by simp only;omega,by simp only;rw [hm2,List.map_append,ht];rfl,all_snoc ho hx h3,hG.trans hG2,fun r hm=>by
                simp only at hm ⊢
                rcases List.mem_append.1 hm with hm | hm
                · exact (hT r hm).ge hG2
                · simp only [List.mem_singleton] at hm;subst hm;exact nil_rl,by simp only;rw [hm2];exact hL2⟩ (by simp only;omega)
    · rw [List.take_of_length_le (show l.length≤i by rw [decide_eq_false_iff_not] at h2;omega)] at ht ho hL
      refine WP.exit<|PO.past nofun<|PO.round nofun<|PO.blockX<|PO.next<|WP.seq<|WP.reg<|WL.e e_move<|WL.e e_move<|WL.e e_assign<|WL.e e_assign<|WL.e e_assign<|WL.next<|WP.ret<|PO.cls (A:=bun [B,Sl 123 1 resC (so.v) (ts)]) (B:=[B,Sl 123 1 resC (so.v) (ts)]) (fun S h=>h) ?_
      exact PO.fin Tryz.results23 (rv_tmp (rv_tmp (rv_tmp rv_nil))) (hK.2 ho so sm _ (hG.trans Ge.one) ⟨ts,RL.ge sl_rl Ge.two,fun r hm=>(hT r hm).ge Ge.one,ht⟩ (hL.ge Ge.one))
end Go.SL
