import Derived.Test.YtdfomffmfnpfoaaGreatDoorQA15
import Derived.Shelf.Strconv.Itoa3
import Derived.Laws.RangeString
set_option linter.unusedSimpArgs false
set_option linter.unusedVariables false
namespace Go.SL.Fc
open Go Go.Proofs Go.SL
theorem a67:aggOf Tryz.prog 67=some none:=by kernel_rfl
theorem k147:callable Tryz.prog 147=true:=by kernel_rfl
theorem k148:callable Tryz.prog 148=true:=by kernel_rfl
theorem k149:callable Tryz.prog 149=true:=by kernel_rfl
theorem k196:callable Tryz.prog 196=true:=by kernel_rfl
theorem k35:callable Tryz.prog 35=true:=by kernel_rfl
theorem k50:callable Tryz.prog 50=true:=by kernel_rfl
theorem k66:callable Tryz.prog 66=true:=by kernel_rfl
theorem k67:callable Tryz.prog 67=true:=by kernel_rfl
theorem k68:callable Tryz.prog 68=true:=by kernel_rfl
theorem s67:szOf Tryz.prog 67=some 1:=by kernel_rfl
theorem s79:szOf Tryz.prog 79=some 1:=by kernel_rfl
end Go.SL.Fc
namespace Go.SL
open Go Go.Proofs Fc
theorem Txs_nil {L:List HP} {S:Piece} (h:stars L S):stars (Txs []::L) S:=bun_stars (L:=[]) h
set_option maxHeartbeats 4000000 in
theorem NewR_spec {g:World} {dp:Nat} {d:DiskM} (ys:List RecG) (at0:Nat) (hd:d.ok) (hw:d.waits.length < 4000000000) (hz:(recs d.seen.flatten).map (·.1)=ys.map recB) (ha:((recs d.seen.flatten).map (·.2)).sum=at0) (hok:∀ y ∈ ys,recOk y) (hsum:(ys.map (fun y=>y.2.length)).sum≤1000000000) (hc:cleanTo d.seen.flatten d at0 (d.sure.length - at0)=d) :
  Spec Tryz.prog g 7 [.pointer (some ⟨dp,0,none⟩)] [Dk dp d] fun K R=>∀ p,K (.tuple #[.pointer (some ⟨p,0,none⟩),.int .i64 0]) (Gs p dp (reAll (⟨d.sync,at0,[],[],0,[],[]⟩:GamV) ys)::Txs []::R):=by
 refine Spec.intro Tryz.func7 rfl Tryz.ntmps7 rfl fun R K hK=>?_
 refine WP.seq<|WP.reg<|WL.e e_assign<|WL.e e_assign<|WL.next<|WP.seq<|WP.reg<|WL.e e_move ?_
 refine WL.h (h_call (Open_spec hd hw) k33 ?_)
 intro lp rv xs hx
 obtain rfl:tot xs=at0:=by rw [← ha,← hx];simp [tot];rfl
 have hxl:xs.map (·.2.1)=ys.map recB:=by rw [← hz,← hx];simp
 have hlen:xs.length=ys.length:=by have:=congrArg List.length hxl;simpa using this
 have hxb:xs.length≤4096:=by have h7:=(recs_le _ d.seen.flatten (Nat.le_refl _)).2;rw [flat_seen hd.l2,hd.len] at h7;have h8:=hd.le;have h9:=congrArg List.length hx;simp at h9;omega
 rw [hc]
 refine WL.e e_move<|WL.e e_extract<|WL.e e_extract<|WL.e e_extract<|WL.e e_assign<|WL.e e_assign<|WL.e e_assign<|WL.next<|WP.seq<|WP.seq<|WP.reg<|WL.e e_move<|WL.e e_neq<|WL.next<|WP.cond_f rfl<|WP.skip<|PO.next<|WP.seq<|WP.reg<|WL.e e_move ?_
 refine WL.h (h_call (MNew_spec) k34 ?_)
 intro mp
 refine WL.h (h_makeMapB (ek:=eStr) fun nb=>?_)
 refine WL.h (h_makeMapB (ek:=eU32) fun mb=>?_)
 refine WL.e (e_build z93 p93 (.o (.tmp 22) rfl<|.o (.tmp 23) rfl<|.o (.tmp 24) rfl<|.z (.int .u32 0)<|.z (.slice none 0 0)<|.o (.tmp 25) rfl<|.n)) ?_
 refine WL.h (h_box fun b1=>?_)
 refine WL.e e_assign<|WL.next<|WP.seq<|WP.seq<|WP.reg<|WL.e e_move<|WL.e (el_len (xs:=xs) sl84 sl_rl)<|WL.e e_move<|WL.next<|WP.block<|WP.nils 139 3 lookC none ?_
 refine WP.cls (A:=Gs b1 dp (⟨d.sync,tot xs,[],[],0,[],[]⟩:GamV)) (B:=[cl b1 93 [.pointer (some ⟨lp,0,none⟩),.pointer (some ⟨mp,0,none⟩),(.map (some nb)),.int .u32 0,.slice none 0 0,(.map (some mb))],cl lp 156 [.pointer (some ⟨dp,0,none⟩),.int .i64 (tot xs)],Dk dp d.sync,Mm mp [],Mp eStr (.map (some nb)) ([]:List (ByteArray × Value)),Sl 139 3 lookC (.slice none 0 0) [],Mp eU32 (.map (some mb)) ([]:List (UInt32 × Value))]) (fun S h=>⟨⟨lp,mp,.map (some nb),.map (some mb),⟨none,0,0⟩⟩,h⟩) ?_
 refine WP.conv (fun S h=>Txs_nil h) ?_
 refine WP.loopK (fun (i:Nat)=>[(30,.int .i64 i)]) (fun (i:Nat)=>Txs []::Gs b1 dp (reAll (⟨d.sync,tot xs,[],[],0,[],[]⟩:GamV) (ys.take i))::Sl 94 1 recC rv.v xs::RecsR xs::R) [(7,_),(28,_),(29,_)] (fun (i:Nat)=>i≤ys.length) (fun (i:Nat)=>ys.length - i) 0 (Nat.zero_le _) ?_
 intro i hi
 obtain ⟨hr1,hr2⟩:=re_rows (⟨d.sync,tot xs,[],[],0,[],[]⟩:GamV) rfl ys i
 obtain ⟨s,hS⟩:∃ s,s=reAll (⟨d.sync,tot xs,[],[],0,[],[]⟩:GamV) (ys.take i):=⟨_,rfl⟩
 rw [← hS] at hr1 hr2 ⊢
 refine WP.seq<|WP.reg<|WL.e e_lss<|WL.next<|WP.seq ?_
 refine WP.cond rfl (fun h1=>?_) (fun h1=>?_)
 ·have hlt:i < xs.length:=by rw [decide_eq_true_eq] at h1;omega
  obtain ⟨x,hxi⟩:∃ x,xs[i]?=some x:=⟨_,List.getElem?_eq_getElem hlt⟩
  obtain ⟨y,hy⟩:∃ y,ys[i]?=some y:=⟨_,List.getElem?_eq_getElem (by omega)⟩
  have hxy:x.2.1=recB y:=by have:=congrArg (·[i]?) hxl;simpa [hxi,hy] using this
  have hrl:=recs_rl (List.mem_of_getElem? hxi)
  have hyo:=hok y (List.mem_of_getElem? hy)
  have hxn:x.2.1.length=4+(chgsB y.2).length:=by rw [hxy,recB,List.length_append,numB_len]
  have hst:=sum_take i (l:=ys.map (fun y=>y.2.length)) (x:=y.2.length) (by rw [List.getElem?_map,hy];rfl)
  rw [← List.map_take] at hst
  refine WP.skip<|PO.next<|WP.seq<|WP.block<|WP.seq<|WP.reg<|WL.e (el_ia (j:=i) (xs:=xs) sl84 sl_rl hlt)<|WL.e (el_load0 (j:=i) (xs:=xs) (a:=x) a94 recCE sl_rl hxi)<|WL.e e_assign<|WL.next<|WP.seq<|WP.seq<|WP.reg<|WL.e e_move<|WL.e (el_len (xs:=x.2.1) sl94 hrl)<|WL.e e_lss<|WL.next ?_
  refine WP.cond rfl (fun h2=>?_) (fun h2=>?_)
  ·(rw [decide_eq_true_eq] at h2;omega)
  ·skip
   refine WP.skip<|PO.next<|WP.seq<|WP.draws mixedOk 23<|RW.e 0 rfl e_move<|RW.e 1 rfl (el_ia (j:=0) sl94 hrl (by omega))<|RW.e 2 rfl (el_load0 (j:=0) (a:=UInt8.ofNat (y.1.toNat / 2 ^ 24)) a5 eB_ok hrl (by rw [hxy];simp [recB,numB]))<|RW.e 3 rfl (e_c8to32 (by rw [Tryz.underlying5];rfl) Tryz.underlying48)<|RW.e 4 rfl (e_shl32 (m:=24) (by decide))<|RW.e 5 rfl e_move<|RW.e 6 rfl (el_ia (j:=1) sl94 hrl (by omega))<|RW.e 7 rfl (el_load0 (j:=1) (a:=UInt8.ofNat (y.1.toNat / 2 ^ 16)) a5 eB_ok hrl (by rw [hxy];simp [recB,numB]))<|RW.e 8 rfl (e_c8to32 (by rw [Tryz.underlying5];rfl) Tryz.underlying48)<|RW.e 9 rfl (e_shl32 (m:=16) (by decide))<|RW.e 10 rfl e_or32<|RW.e 11 rfl e_move<|RW.e 12 rfl (el_ia (j:=2) sl94 hrl (by omega))<|RW.e 13 rfl (el_load0 (j:=2) (a:=UInt8.ofNat (y.1.toNat / 2 ^ 8)) a5 eB_ok hrl (by rw [hxy];simp [recB,numB]))<|RW.e 14 rfl (e_c8to32 (by rw [Tryz.underlying5];rfl) Tryz.underlying48)<|RW.e 15 rfl (e_shl32 (m:=8) (by decide))<|RW.e 16 rfl e_or32<|RW.e 17 rfl e_move<|RW.e 18 rfl (el_ia (j:=3) sl94 hrl (by omega))<|RW.e 19 rfl (el_load0 (j:=3) (a:=UInt8.ofNat (y.1.toNat)) a5 eB_ok hrl (by rw [hxy];simp [recB,numB])) ?_
   refine RW.e 20 rfl (e_c8to32 (by rw [Tryz.underlying5];rfl) Tryz.underlying48)<|RW.e 21 rfl e_or32<|RW.e 22 rfl e_assign<|RW.done<|PO.next<|WP.seq<|WP.reg<|WL.e e_move<|WL.e (el_from (lo:=4) (xs:=x.2.1) sl94 hrl (by omega)) ?_
   rw [four_back]
   refine WL.h (h_call (GetChanges_spec (v:=subS x.1 4 x.2.1.length 1) (l:=y.2) hyo.1 hyo.2 (by have:=RL.from_ (lo:=4) eB_ok hrl (by omega);rwa [show x.2.1.drop 4=chgsB y.2 by rw [hxy,recB];exact List.drop_left' (numB_len _ _)] at this)) k35 ?_)
   intro a5 n5 c5
   refine WL.opn (Gs_op (p:=b1) (dp:=dp) (s:=s)) fun x=>?_
   obtain ⟨lp,mp,nm,lm,sv⟩:=x
   dsimp only
   refine WL.e e_move<|WL.e e_extract<|WL.e e_extract<|WL.e e_assign<|WL.e e_assign<|WL.next<|WP.seq<|WP.seq<|WP.reg<|WL.e e_move<|WL.e e_neq<|WL.e e_move ?_
   refine WL.bool 67 rfl (fun g1=>?_) (fun g1=>?_)
   ·exact absurd g1 (by decide) 
   ·skip
    refine WL.e e_move<|WL.e e_nil<|WL.e (e_fa f93_1)<|WL.e (e_load a87)<|WL.e e_move ?_
    refine WL.h (h_call (Change_spec (l:=s.rows) (sl_rl (xs:=y.2)) hr1 (by omega)) k36 ?_)
    refine ⟨fun hb=>absurd hb (by rw [List.any_eq_false.2 fun c hc=>by simp [hyo.2 c hc]];simp),fun _=>?_⟩
    refine WL.e e_neq<|WL.e e_pick_f<|WL.next<|WP.cond_f rfl<|WP.cls (A:=Gs b1 dp { s with rows:=changeR s.rows y.2 }) (B:=[cl b1 93 [.pointer (some ⟨lp,0,none⟩),.pointer (some ⟨mp,0,none⟩),nm,.int .u32 s.last.toNat,sv.v,lm],cl lp 156 [.pointer (some ⟨dp,0,none⟩),.int .i64 s.at_],Dk dp s.d,Mm mp (changeR s.rows y.2),Mp eStr nm (List.map numC s.nums),Sl 139 3 lookC (sv.v) s.looks,Mp eU32 lm (List.map kvT s.txs)]) (fun S h=>⟨⟨lp,mp,nm,lm,sv⟩,h⟩) ?_
    refine WP.skip<|PO.next<|WP.seq<|WP.reg<|WL.e e_move<|WL.e e_move<|WL.e e_move ?_
    refine WL.h (h_call (kept_spec (s:={ s with rows:=changeR s.rows y.2 }) y.1 (sl_rl (xs:=y.2)) (by have:=hyo.1;omega)) k37 ?_)
    refine WL.opn (Gs_op (p:=b1) (dp:=dp) (s:={ s with rows:=changeR s.rows y.2,nums:=keptG s.nums y.1 y.2 })) fun x=>?_
    obtain ⟨lp,mp,nm,lm,sv⟩:=x
    dsimp only
    refine WL.next<|WP.reg<|WL.e e_move<|WL.e e_move<|WL.e e_nil<|WL.e (e_fa f93_3)<|WL.e (e_load a48)<|WL.e e_move<|WL.e e_max32<|WL.e e_nil<|WL.e (e_fa f93_3) ?_
    refine WL.h' (h_store s48 ?_)
    refine WL.nil<|PO.blockN<|PO.next<|WP.reg<|WL.e (e_add rfl rfl (w_i64 (by omega) (by omega)))<|WL.e e_move<|WL.nil<|PO.cls (A:=Gs b1 dp (reAll (⟨d.sync,tot xs,[],[],0,[],[]⟩:GamV) (ys.take (i+1)))) (B:=[cl b1 93 [.pointer (some ⟨lp,0,none⟩),.pointer (some ⟨mp,0,none⟩),nm,.int .u32 (if s.last < y.1 then y.1 else s.last).toNat,sv.v,lm],cl lp 156 [.pointer (some ⟨dp,0,none⟩),.int .i64 { s with rows:=changeR s.rows y.2,nums:=keptG s.nums y.1 y.2 }.at_],Dk dp { s with rows:=changeR s.rows y.2,nums:=keptG s.nums y.1 y.2 }.d,Mm mp { s with rows:=changeR s.rows y.2,nums:=keptG s.nums y.1 y.2 }.rows,Mp eStr nm (List.map numC { s with rows:=changeR s.rows y.2,nums:=keptG s.nums y.1 y.2 }.nums),Sl 139 3 lookC (sv.v) { s with rows:=changeR s.rows y.2,nums:=keptG s.nums y.1 y.2 }.looks,Mp eU32 lm (List.map kvT { s with rows:=changeR s.rows y.2,nums:=keptG s.nums y.1 y.2 }.txs)]) (fun S h=>by rw [reAll_take _ hy,← hS];exact ⟨⟨lp,mp,nm,lm,sv⟩,h⟩) ?_
    exact PO.againK (i+1) (by omega) (by omega)
 ·rw [List.take_of_length_le (show ys.length≤i by rw [decide_eq_false_iff_not] at h1;omega)] at hS
  subst hS
  refine WP.exit<|PO.past nofun<|PO.round nofun<|PO.blockX<|PO.next<|WP.seq<|WP.reg<|WL.e e_move<|WL.e e_assign<|WL.e e_assign<|WL.next<|WP.ret ?_
  exact PO.fin Tryz.results7 (rv_tmp (rv_tmp rv_nil)) (hK b1)
theorem CloneP_spec {g:World} {A:HP} {u:Value} {xs:List (List UInt8)} (hA:RL A 64 pieceC u xs) (hb:xs.length≤68719476736):Spec Tryz.prog g 50 [u] [A] fun K R=>∀ a m c,K (.slice a m c) (Sl 127 64 pieceC (.slice a m c) xs::A::R):=by
 refine Spec.intro Tryz.func50 rfl Tryz.ntmps50 rfl fun R K hK=>?_
 refine WP.seq<|WP.reg<|WL.e e_assign<|WL.next<|WP.seq<|WP.seq<|WP.reg<|WL.e e_move<|WL.e (e_slnil sl79 hA)<|WL.next ?_
 refine WP.cond rfl (fun h=>?_) (fun h=>?_)
 ·refine WP.know (φ:=xs=[]) (Pick.know (A:=A) (by exact .z) fun S hS=>?_) fun hx=>?_
  ·rcases hA S hS with ⟨h0,_⟩ | ⟨b,o,c,l,t,e,_⟩
   ·simpa using h0
   ·rw [e] at h;cases h
  subst hx
  refine WP.nils 127 64 pieceC none ?_
  refine WP.seq<|WP.reg<|WL.e e_assign<|WL.next<|WP.ret<|PO.past nofun ?_
  exact PO.fin Tryz.results50 (rv_tmp rv_nil) (hK none 0 0)
 ·skip
  refine WP.skip<|PO.next<|WP.seq<|WP.reg ?_
  refine WL.h (h_bs0 sl79 (enc:=pieceC) fun a1 n1 c1=>?_)
  refine WL.e e_move ?_
  refine WL.h (hl_append (xs:=[]) (ys:=xs) sl79 pieceE z127 hA (by simp;omega) fun a2 n2 c2=>?_)
  rw [List.nil_append]
  refine WL.e e_assign<|WL.next<|WP.ret ?_
  exact PO.fin Tryz.results50 (rv_tmp rv_nil) (hK a2 n2 c2)
theorem Fail_spec {g:World} {p:Nat} {d:DiskM} (keep torn:Int) (ht:-1≤torn) (hd:d.ok) (hw:d.waits=[]):Spec Tryz.prog g 15 [.pointer (some ⟨p,0,none⟩),.int .u64 keep,.int .i64 torn] [Dk p d] fun K R=>∀ q,K (.tuple #[.pointer (some ⟨q,0,none⟩),.int .i64 0]) (Dk q ⟨d.sure,d.sure,[]⟩::Dk p d::R):=by
 refine Spec.intro Tryz.func15 rfl Tryz.ntmps15 rfl fun R K hK=>?_
 refine WP.seq<|WP.reg<|WL.e e_assign<|WL.e e_assign<|WL.next<|WP.seq<|WP.block<|WP.seq<|WP.reg<|WL.e e_move ?_
 refine WL.h (h_call (Size_spec) k49 ?_)
 refine WL.e e_eql<|WL.e e_assign<|WL.next ?_
 refine WP.cond rfl (fun h=>?_) (fun h=>?_)
 ·(rw [beq_iff_eq] at h;have:=hd.pos;omega)
 ·skip
  refine WP.seq<|WP.reg<|WL.e e_move<|WL.e e_lss<|WL.e e_assign<|WL.next ?_
  refine WP.cond rfl (fun h2=>?_) (fun h2=>?_)
  ·(rw [decide_eq_true_eq] at h2;omega)
  ·refine WP.opn (Dk_op (p:=p) (d:=d)) fun x=>?_
   obtain ⟨s1,s2,s3⟩:=x
   dsimp only
   refine WP.skip<|PO.blockN<|PO.next<|WP.seq<|WP.reg<|WL.e e_move<|WL.e e_nil<|WL.e (e_fa f82_0)<|WL.e (e_load a79) ?_
   refine WL.h (h_call (CloneP_spec (u:=s1.v) (sl_rl (E:=127) (xs:=d.sure)) (by have:=hd.le;omega)) k50 ?_)
   intro a1 n1 c1
   refine WL.e (e_build z82 p82 (.o (.tmp 23) rfl<|.z (.slice none 0 0)<|.z (.slice none 0 0)<|.n)) ?_
   refine WL.h (h_box fun b1=>?_)
   refine WL.e e_assign<|WL.next<|WP.seq<|WP.seq<|WP.reg<|WL.e e_move<|WL.e e_nil<|WL.e (e_fa f82_2)<|WL.e (e_load a80)<|WL.e (el_len (xs:=d.waits) sl80 sl_rl)<|WL.e e_move<|WL.next<|WP.block<|WP.loopK (fun (_:Unit)=>[(31,.int .i64 0)]) (fun (_:Unit)=>cl p 82 [s1.v,s2.v,s3.v]::Sl 127 64 pieceC s1.v d.sure::Sl 127 64 pieceC s2.v d.seen::Sl 129 65 waitC s3.v d.waits::cl b1 82 [.slice a1 n1 c1,.slice none 0 0,.slice none 0 0]::Sl 127 64 pieceC (.slice a1 n1 c1) d.sure::R) [(1,_),(2,_),(6,_),(7,_),(8,_),(29,_),(30,_)] (fun (_:Unit)=>True) (fun (_:Unit)=>0) () (trivial) ?_
   intro _ _
   refine WP.seq<|WP.reg<|WL.e e_lss<|WL.next<|WP.seq ?_
   refine WP.cond rfl (fun h1=>?_) (fun h1=>?_)
   ·(rw [hw] at h1;simp at h1)
   ·skip
    refine WP.exit<|PO.past nofun<|PO.round nofun<|PO.blockX<|PO.next<|WP.seq<|WP.reg<|WL.e e_move<|WL.e e_move<|WL.e e_nil<|WL.e (e_fa f82_0)<|WL.e (e_load a79) ?_
    refine WL.h (h_call (CloneP_spec (u:=.slice a1 n1 c1) (sl_rl (E:=127) (xs:=d.sure)) (by have:=hd.le;omega)) k50 ?_)
    intro a2 n2 c2
    refine WL.e e_nil<|WL.e (e_fa f82_1) ?_
    refine WL.h' (h_store s79 ?_)
    refine WL.next<|WP.seq<|WP.reg<|WL.e e_move<|WL.e e_assign<|WL.e e_assign<|WL.next<|WP.ret<|PO.nils 129 65 waitC none ?_
    refine PO.cls (A:=Dk b1 ⟨d.sure,d.sure,[]⟩) (B:=[cl b1 82 [.slice a1 n1 c1,.slice a2 n2 c2,.slice none 0 0],Sl 127 64 pieceC (.slice a1 n1 c1) d.sure,Sl 127 64 pieceC (.slice a2 n2 c2) d.sure,Sl 129 65 waitC (.slice none 0 0) []]) (fun S h=>⟨(⟨a1,n1,c1⟩,⟨a2,n2,c2⟩,⟨none,0,0⟩),h⟩) ?_
    refine PO.cls (A:=Dk p d) (B:=[cl p 82 [s1.v,s2.v,s3.v],Sl 127 64 pieceC s1.v d.sure,Sl 127 64 pieceC s2.v d.seen,Sl 129 65 waitC s3.v d.waits]) (fun S h=>⟨(s1,s2,s3),h⟩) ?_
    exact PO.fin Tryz.results15 (rv_tmp (rv_tmp rv_nil)) (hK b1)
def idG (t:TxV):List Value:=u32C t.id
theorem idGE:EncOk 1 idG:=⟨fun _=>rfl,fun _=>rfl⟩
theorem GKeys_spec {g:World} {m:Nat}:Spec Tryz.prog g 68 [.map (some m)] [] fun K R=>∀ b,K (.func (.func 149) #[] #[.pointer (some ⟨b,0,none⟩)]) (cl b 90 [.map (some m)]::R):=by
 refine Spec.intro Tryz.func68 rfl Tryz.ntmps68 rfl fun R K hK=>?_
 refine WP.seq<|WP.reg ?_
 refine WL.h (h_box fun b1=>?_)
 refine WL.e e_assign<|WL.next<|WP.seq<|WP.reg<|WL.e e_makeFunc<|WL.e e_assign<|WL.next<|WP.ret ?_
 exact PO.fin Tryz.results68 (rv_tmp rv_nil) (hK b1)
theorem GKeys_iter {g:World} {b m:Nat} {ts:List (TxV)}:Iter Tryz.prog g 149 (fun y=>[]++[y]++[.pointer (some ⟨b,0,none⟩)]) [cl b 90 [.map (some m)],Mp eU32 (.map (some m)) (List.map kvT ts)] idG (fun _=>pu True) (fun xs=>xs.Perm ts) (fun pre=>∃ r,(pre++r).Perm ts) [cl b 90 [.map (some m)],Mp eU32 (.map (some m)) (List.map kvT ts)]:=by
 intro y J X cont hy
 refine Spec.intro Tryz.func149 rfl Tryz.ntmps149 rfl fun R K hK=>?_
 refine WP.seq<|WP.reg<|WL.e (e_load a90) ?_
 refine WL.h (h_range (kvs:=List.map kvT ts) Tryz.underlying90 fun it=>?_)
 refine WL.next<|WP.block<|WP.loopK (fun (x:List (TxV) × List (TxV) × Option (UInt32 × Value))=>[]) (fun (x:List (TxV) × List (TxV) × Option (UInt32 × Value))=>J x.2.1::MpIt eU32 (.map (some m)) it (List.map kvT ts) (List.map kvT x.1) x.2.2::cl b 90 [.map (some m)]::R) [(0,_),(5,_)] (fun (x:List (TxV) × List (TxV) × Option (UInt32 × Value))=>(x.2.1++x.1).Perm ts∧Hist cont x.2.1) (fun (x:List (TxV) × List (TxV) × Option (UInt32 × Value))=>x.1.length) (ts,[],none) (⟨.refl _,Hist.nil⟩) ?_
 rintro ⟨left,pre,cur⟩ ⟨hx1,hx2⟩
 simp only at hx1 hx2
 dsimp only
 refine WP.seq<|WP.reg ?_
 refine WL.h (h_next (fun h0=>?_) (fun a y0 b0 hx=>?_))
 ·have hl0:left=[]:=by simpa using h0
  subst hl0
  refine WL.e e_extract<|WL.next<|WP.seq<|WP.cond_f rfl<|WP.exit<|PO.past nofun<|PO.round nofun<|PO.blockX ?_
  exact PO.fin Tryz.results149 rv_nil (hK.1 pre (by simpa using hx1) hx2)
 ·obtain ⟨A1,y,B1,hl,rfl,rfl,rfl⟩:=map_mid hx
  have hpp:(pre++([y]++(A1++B1))).Perm ts:=by refine List.Perm.trans ?_ hx1;rw [hl];exact List.Perm.append_left _ (List.perm_middle (a:=y) (l₁:=A1) (l₂:=B1)).symm
  refine WL.e e_extract<|WL.next<|WP.seq<|WP.cond_t rfl<|WP.skip<|PO.next<|WP.block<|WP.seq<|WP.reg<|WL.e e_entry<|WL.e e_extract<|WL.e e_assign<|WL.next<|WP.seq<|WP.reg<|WL.e e_move<|WL.e e_move ?_
  refine WL.h (HO.conv (fun S h=>pu_stars trivial h) (h_cally (hy pre y ⟨_,by rw [List.append_assoc];exact hpp⟩ hx2) ?_))
  refine ⟨fun hc=>?_,fun hc=>?_⟩
  ·skip
   refine WL.e e_not<|WL.next<|WP.cond_f rfl<|WP.skip<|PO.blockN ?_
   rw [← List.map_append]
   exact PO.againK (A1++B1,pre++[y],_) ⟨by simp only;rw [List.append_assoc];exact hpp,hx2.snoc hc⟩ (by simp only [hl,List.length_append,List.length_cons];omega)
  ·skip
   refine WL.e e_not<|WL.next<|WP.cond_t rfl<|WP.ret<|PO.blockR<|PO.round nofun<|PO.blockR<|PO.conv (conv1 (A:=MpIt eU32 (.map (some m)) it (List.map kvT ts) _ _) (B:=Mp eU32 (.map (some m)) (List.map kvT ts)) MpIt_Mp (by repeat first | exact .z | apply Put.s)) ?_
   exact PO.fin Tryz.results149 rv_nil (hK.2 pre y ⟨_,by rw [List.append_assoc];exact hpp⟩ hx2 hc)
def GKJ (b:Nat) (pre:List (TxV)):HP:=fun S=>∃ sv:SV,stars [cl b 67 [sv.v],Sl 48 1 idG sv.v pre] S
theorem GKA_spec {g:World} {b m:Nat} {ts:List (TxV)} (hn:ts.length≤68719476736):Spec Tryz.prog g 196 [.slice none 0 0,.func (.func 149) #[] #[.pointer (some ⟨b,0,none⟩)]] [cl b 90 [.map (some m)],Mp eU32 (.map (some m)) (List.map kvT ts)] fun K R=>∀ a n c xs,xs.Perm ts→K (.slice a n c) (Sl 48 1 idG (.slice a n c) xs::cl b 90 [.map (some m)]::Mp eU32 (.map (some m)) (List.map kvT ts)::R):=by
 refine Spec.intro Tryz.func196 rfl Tryz.ntmps196 rfl fun R K hK=>?_
 refine WP.seq<|WP.reg ?_
 refine WL.h (h_box fun b1=>?_)
 refine WL.e e_assign<|WL.next<|WP.seq<|WP.seq<|WP.reg<|WL.e e_move<|WL.next<|WP.block<|WP.nils 48 1 idG none ?_
 refine WP.cls (A:=GKJ b1 []) (B:=[cl b1 67 [.slice none 0 0],Sl 48 1 idG (.slice none 0 0) ([])]) (fun S h=>⟨⟨none,0,0⟩,h⟩) ?_
 refine WP.range (R:=?RR) (f:=149) (fs:=[]) (cs:=[.pointer (some ⟨b,0,none⟩)]) (GKJ b1) (fun _ _ _=>pu True) (fun _ _=>True) (GKeys_iter (b:=b) (m:=m) (ts:=ts)) k149 ?hLL ?_ ?_ ?_ (fun _=>rfl)
 case hLL=>repeat first | exact .nil | exact Pick.z | apply Pick.s | apply Split.cons
 ·rintro lb db fn tmps pre x R2 hp hh
  refine WP.opn (B:=fun sv:SV=>[cl b1 67 [sv.v],Sl 48 1 idG (sv.v) (pre)]) (fun _ h=>h) fun sv=>?_
  have hlen:pre.length+1≤68719476736:=by obtain ⟨r,hr⟩:=hp;have:=hr.length_eq;simp only [List.length_append,List.length_cons,List.length_nil] at this;omega
  refine WP.reg<|WL.e e_assign<|WL.nil<|PO.asg rfl (by repeat first | exact .z | apply Put.s)<|WP.block<|WP.reg<|WL.e (e_load a67)<|WL.e e_move ?_
  refine WL.h (h_bs sl67 z48 (.o (.tmp 9) rfl<|.n) fun b2=>?_)
  refine WL.h (hl_append (xs:=pre) (ys:=[x]) sl67 idGE z48 (lit_rl idGE [x] rfl) (by simp;omega) (fun a5 n5 c5=>?_))
  refine WL.h' (h_store s67 ?_)
  refine WL.nil<|PO.blockN<|PO.cls (A:=GKJ b1 (pre++[x])) (B:=[cl b1 67 [.slice a5 n5 c5],Sl 48 1 idG (.slice a5 n5 c5) (pre++[x])]) (fun S h=>⟨⟨a5,n5,c5⟩,h⟩) ?_
  exact PO.rnd trivial (by repeat first | exact .refl | exact Pick.z | apply Pick.s | apply Sub.cons | apply Sub.drop)
 ·rintro db xs hp hh
  refine PO.opn (B:=fun sv:SV=>[cl b1 67 [sv.v],Sl 48 1 idG (sv.v) (xs)]) (fun _ h=>h) fun sv=>?_
  obtain ⟨a9,n9,c9⟩:=sv
  refine PO.blockN<|PO.next<|WP.seq<|WP.reg<|WL.e (e_load a67)<|WL.e e_assign<|WL.next<|WP.ret ?_
  exact PO.finM (by repeat first | exact .z | apply Put.s) Tryz.results196 (rv_tmp rv_nil) (hK a9 n9 c9 xs hp)
 ·exact fun _ _ _ _ _ _ hc=>absurd trivial hc
theorem GKC_spec {g:World} {b m:Nat} {ts:List (TxV)} (hn:ts.length≤68719476736):Spec Tryz.prog g 147 [.func (.func 149) #[] #[.pointer (some ⟨b,0,none⟩)]] [cl b 90 [.map (some m)],Mp eU32 (.map (some m)) (List.map kvT ts)] fun K R=>∀ a n c xs,xs.Perm ts→K (.slice a n c) (Sl 48 1 idG (.slice a n c) xs::cl b 90 [.map (some m)]::Mp eU32 (.map (some m)) (List.map kvT ts)::R):=by
 refine Spec.intro Tryz.func147 rfl Tryz.ntmps147 rfl fun R K hK=>?_
 refine WP.seq<|WP.reg<|WL.e e_assign<|WL.next<|WP.seq<|WP.reg<|WL.e e_move ?_
 refine WL.h (h_call (GKA_spec hn) k196 ?_)
 intro a n c xs hp
 refine WL.e e_assign<|WL.next<|WP.ret ?_
 exact PO.fin Tryz.results147 (rv_tmp rv_nil) (hK a n c xs hp)
theorem GSortedU_spec {g:World} {b m:Nat} {ts:List TxV} (hn:ts.length≤68719476736):Spec Tryz.prog g 67 [.func (.func 149) #[] #[.pointer (some ⟨b,0,none⟩)]] [cl b 90 [.map (some m)],Mp eU32 (.map (some m)) (List.map kvT ts)] fun K R=>∀ a n c ys,ys.Perm (ts.map (·.id))→(ys.Pairwise fun x y=>x≤y)→K (.slice a n c) (Sl 48 1 u32C (.slice a n c) (ys)::cl b 90 [.map (some m)]::Mp eU32 (.map (some m)) (List.map kvT ts)::R):=by
 refine Spec.intro Tryz.func67 rfl Tryz.ntmps67 rfl fun R K hK=>?_
 refine WP.seq<|WP.reg<|WL.e e_assign<|WL.next<|WP.seq<|WP.reg<|WL.e e_move ?_
 refine WL.h (h_call (GKC_spec hn) k147 ?_)
 intro a n c xs hp
 refine WL.e e_assign<|WL.next<|WP.seq<|WP.reg<|WL.e e_move<|WL.conv (conv1 (A:=Sl 48 1 idG (.slice a n c) xs) (B:=Sl 48 1 u32C (.slice a n c) (xs.map (·.id))) (fun S h=>sl_map (enc:=u32C) (f:=fun t:TxV=>t.id) h) (by repeat first | exact .z | apply Put.s)) ?_
 refine WL.h (h_call (Sort32_spec (xs.map (·.id)) (by rw [List.length_map,hp.length_eq];exact hn)) k148 ?_)
 intro ys h1 h2
 refine WL.next<|WP.seq<|WP.reg<|WL.e e_move<|WL.e e_assign<|WL.next<|WP.ret ?_
 exact PO.fin Tryz.results67 (rv_tmp rv_nil) (hK a n c ys (h1.trans (hp.map _)) h2)
theorem GOpen_spec {g:World} {p dp:Nat} {s:GamV} (hn:s.txs.length≤68719476736):Spec Tryz.prog g 22 [.pointer (some ⟨p,0,none⟩)] [Gs p dp s] fun K R=>∀ a n c ys,ys.Perm (s.txs.map (·.id))→(ys.Pairwise fun x y=>x≤y)→K (.slice a n c) (Sl 48 1 u32C (.slice a n c) (ys)::Gs p dp s::R):=by
 refine Spec.intro Tryz.func22 rfl Tryz.ntmps22 rfl fun R K hK=>?_
 refine WP.seq<|WP.reg<|WL.e e_assign<|WL.next<|WP.seq<|WP.seq<|WP.reg<|WL.e e_move ?_
 refine WL.h (h_call (Gthere_spec) k38 ?_)
 refine WL.e e_not<|WL.next<|WP.cond_f rfl<|WP.opn (Gs_op (p:=p) (dp:=dp) (s:=s)) fun x=>?_
 obtain ⟨lp,mp,nm,lm,sv⟩:=x
 dsimp only
 refine WP.know (φ:=∃ b,lm=.map (some b)) (Pick.know (A:=Mp eU32 lm (List.map kvT s.txs)) (by repeat first | exact .z | apply Pick.s) fun S hS=>?_) fun hx=>?_
 ·obtain ⟨b,_,_,e,_⟩:=hS;exact ⟨b,e⟩
 obtain ⟨mb,rfl⟩:=hx
 refine WP.skip<|PO.next<|WP.seq<|WP.reg<|WL.e e_move<|WL.e e_nil<|WL.e (e_fa f93_5)<|WL.e (e_load a90) ?_
 refine WL.h (h_call (GKeys_spec (m:=mb)) k68 ?_)
 intro b
 refine WL.h (h_call (GSortedU_spec (b:=b) (m:=mb) (ts:=s.txs) hn) k67 ?_)
 intro a1 n1 c1 ys h1 h2
 refine WL.h (h_call (ClipU_spec) k66 ?_)
 intro a2 n2 c2
 refine WL.e e_assign<|WL.next<|WP.ret<|PO.cls (A:=Gs p dp s) (B:=[cl p 93 [.pointer (some ⟨lp,0,none⟩),.pointer (some ⟨mp,0,none⟩),nm,.int .u32 s.last.toNat,sv.v,.map (some mb)],cl lp 156 [.pointer (some ⟨dp,0,none⟩),.int .i64 s.at_],Dk dp s.d,Mm mp s.rows,Mp eStr nm (List.map numC s.nums),Sl 139 3 lookC (sv.v) s.looks,Mp eU32 (.map (some mb)) (List.map kvT s.txs)]) (fun S h=>⟨⟨lp,mp,nm,.map (some mb),sv⟩,h⟩) ?_
 exact PO.fin Tryz.results22 (rv_tmp rv_nil) (hK a2 n2 c2 ys h1 h2)
end Go.SL
set_option linter.unusedSectionVars false
namespace Go.SL
open Go
def Ge (A B:HP):Prop:=∀ S,B S→∃ S1,le S1 S∧A S1
theorem Ge.refl (A:HP):Ge A A:=fun S h=>⟨S,le_refl S,h⟩
theorem Ge.trans {A B C:HP} (h:Ge A B) (h':Ge B C):Ge A C:=fun S hS=>by
  obtain ⟨S1,h1,h2⟩:=h' S hS
  obtain ⟨S2,h3,h4⟩:=h S1 h2
  exact ⟨S2,le_trans h3 h1,h4⟩
theorem Ge.one {A:HP} {L:List HP}:Ge A (bun (A::L)):=fun S h=>by
  obtain ⟨S1,S2,_,h1,_,h2,_⟩:=h
  exact ⟨S1,h1,h2⟩
theorem Ge.two {A B:HP} {L:List HP}:Ge B (bun (A::B::L)):=fun S h=>by
  obtain ⟨S1,S2,_,_,h1,_,S3,S4,_,h2,_,h3,_⟩:=h
  exact ⟨S3,le_trans h2 h1,h3⟩
theorem RdS.le {S T:Piece} {z n:Nat} {u:Value} {cs:List Value} (h:RdS S z u n cs) (hl:SL.le S T):RdS T z u n cs:=by
  rcases h with h | ⟨b,o,c,l,t,h1,h2,h3,h4⟩
  · exact .inl h
  · exact .inr ⟨b,o,c,l,t,h1,h2,hl _ _ h3,h4⟩
theorem Rd.ge {A B:HP} {z n:Nat} {u:Value} {cs:List Value} (h:Rd A z u n cs) (hg:Ge A B):Rd B z u n cs:=fun S hS=>by
  obtain ⟨S1,h1,h2⟩:=hg S hS
  exact (h S1 h2).le h1
theorem RL.ge {α:Type} {A B:HP} {z:Nat} {enc:α→List Value} {u:Value} {xs:List α} (h:RL A z enc u xs) (hg:Ge A B):RL B z enc u xs:=Rd.ge h hg
def Gr {α:Type} (E z:Nat) (enc:α→List Value) (l:Value) (ws:List α) (u:Value) (xs:List α):HP:=fun S=>
  (Sl E z enc u xs S∧∃ a c,u=.slice a xs.length c∧l=.slice a ws.length c∧ws=xs.take ws.length∧ws.length≤xs.length)∨stars [Sl E z enc u xs,Sl E z enc l ws] S
section
variable {α : Type} {E z : Nat} {enc : α → List Value} {l u : Value} {ws xs : List α}
theorem own_len {n:Nat} {cs:List Value} {a:Option Addr} {m c:Nat} {S:Piece} (h:Own E z (.slice a m c) n cs S):m=n:=by
  rcases h with ⟨rfl,_,a',e⟩ | ⟨b,o,c',l,e,_⟩ <;> cases e <;> rfl
theorem Gr_in {a:Option Addr} {m c:Nat} {S:Piece} (h:Sl E z enc (.slice a m c) ws S):Gr E z enc (.slice a m c) ws (.slice a m c) ws S:=by
  have e:=own_len h
  exact .inl ⟨h,a,c,by rw [e],by rw [e],by simp,Nat.le_refl _⟩
theorem Gr_u:RL (Gr E z enc l ws u xs) z enc u xs:=fun S h=>by
  rcases h with ⟨h,_⟩ | ⟨S1,_,_,h1,_,h2,_⟩
  · exact sl_rl S h
  · exact (sl_rl S1 h2).le h1
theorem own_pre (he:EncOk z enc) {a:Option Addr} {m c:Nat} (hm:m≤xs.length) {S:Piece} (h:Sl E z enc (.slice a xs.length c) xs S):Sl E z enc (.slice a m c) (xs.take m) S:=by
  unfold Sl at h ⊢
  have hl:(xs.take m).length=m:=by simp;omega
  rcases h with ⟨h1,h2,a',e⟩ | ⟨b,o,c',l,e,h1,h2,h3,h4,h5⟩
  · obtain rfl:xs=[]:=List.length_eq_zero_iff.1 h1
    obtain rfl:m=0:=by simpa using hm
    cases e
    exact .inl ⟨by simp,by simp,_,rfl⟩
  · cases e
    refine .inr ⟨b,o,c,l,by rw [hl],by omega,h2,h3,h4,?_⟩
    rw [hl,← flat_take he,h5,List.take_take,Nat.min_eq_left (Nat.mul_le_mul_right z hm)]
theorem Gr_l (he:EncOk z enc):RL (Gr E z enc l ws u xs) z enc l ws:=fun S h=>by
  rcases h with ⟨h,a,c,rfl,rfl,h1,h2⟩ | ⟨_,S2,_,_,h1,_,S3,_,_,h2,_,h3,_⟩
  · have:=own_pre he h2 h
    rw [← h1] at this
    exact sl_rl S this
  · exact (sl_rl S3 h3).le (le_trans h2 h1)
end
section
variable {P : Program} {r : Option Nat} {g : World} {Γ : Env} {L M : List HP} {A : HP} {dst : Option Tmp} {t : TypeId} {pos : String} {aft : Array Edge} {gd : Option (Nat × Bool)}
theorem run_append2 {T T2 E z y n k:Nat} {u v:Value} {cs ds:List Value} {zs:List Value} {R:List HP} {w:World} (hs:slOf P T=some (E,z,y)) (h2:∃ d,P.underlying T2=some d∧∀ q,d≠.int q) (hz:zeroOf P E=some zs) (hzz:zs.length=z)
    (hw:Sat g L w) (p1:Pick L (Own E z u n cs) R) (hlen:(Builtin.lenOf v).run P w=.ok k w) (hdsd:∀ d,(Builtin.firstCells z k v).run P { w with drawn:=d }=.ok ds.toArray { w with drawn:=d }) (hdl:ds.length=k * z) (h1:ones ds=true) (hz0:0 < z) (hb:n+k≤68719476736) (hy:y≤512) :
    ∃ u' w',(Builtin.append_ #[T,T2] t #[u,v]).run P w=.ok u' w'∧((Sat g (Own E z u' (n+k) (cs++ds)::R) w'∧∃ a c,u=.slice a n c∧u'=.slice a (n+k) c)∨Sat g (Own E z u' (n+k) (cs++ds)::Own E z u n cs::R) w'):=by
  have hds:(Builtin.firstCells z k v).run P w=.ok ds.toArray w:=hdsd w.drawn
  unfold slOf at hs
  split at hs
  case h_2=>cases hs
  case h_1 hu=>
  simp only [Option.map_eq_some_iff] at hs
  obtain ⟨inf,hinf,hs⟩:=hs
  cases hs
  have hsz:szOf P E=some inf.size:=by simp [szOf,hinf]
  obtain ⟨d2,hd2,hni⟩:=h2
  have hown:=hw.rd p1 own_rd
  have hshape:∃ a c,u=.slice a n c∧n≤c∧(Builtin.firstCells inf.size n u).run P w=.ok cs.toArray w:=by
    have hr:=(hown.read (P:=P)).2
    rcases hown with ⟨rfl,_,a,c,rfl⟩ | ⟨b,o,c,l,t,rfl,hn,_⟩
    · exact ⟨a,c,rfl,Nat.zero_le _,hr⟩
    · exact ⟨_,c,rfl,hn,hr⟩
  obtain ⟨S1,S2,hd,l1,l2,hOw,hR⟩:=p1.to hw.heap
  by_cases hfit:∃ b o c l,u=.slice (some ⟨b,o,none⟩) n c∧n+k≤c∧c < 9223372036854775808∧S1 b=some (.cells (List.toArray l) E (0,0))∧o+c * inf.size≤l.length∧cs=(l.drop o).take (n * inf.size)
  · 
    obtain ⟨b,o,c,l,rfl,hnk,hc,hS,hl,rfl⟩:=hfit
    have hm1:(n+k) * inf.size≤c * inf.size:=Nat.mul_le_mul_right _ hnk
    rw [Nat.add_mul] at hm1
    obtain ⟨w',hr,a1,a2,a3,a4,a5,a6⟩:=run_storeCells (P:=P) (T:=E) ds 0 (o+n * inf.size) l w (l1 _ _ hS) (by rw [Nat.add_zero];omega) (ones_ok h1)
    rw [Nat.add_zero] at a5
    refine ⟨.slice (some ⟨b,o,none⟩) (n+k) c,w',?_,.inl ⟨?_,_,_,rfl,rfl⟩⟩
    · simp only [Builtin.append_,List.getElem?_toArray,List.getElem?_cons_zero,List.getElem?_cons_succ,Sem.run_bind,run_underlying hu,Result.andThen_ok,run_sizeOf hsz,run_underlying hd2]
      simp [hlen,hnk,hds,add_none,hr]
    · refine ⟨a1.trans hw.os,a2.trans hw.tape,a3.trans hw.output,a4 ▸ hw.size,?_⟩
      have hS2:S2 b=none:=by
        rcases hd b with h0 | h0
        · rw [hS] at h0;cases h0
        · exact h0
      refine ⟨fun i=>if i=b then some (.cells (splice l (o+n * inf.size) ds).toArray E (0,0)) else none,S2,fun i=>?_,fun i x hx=>?_,fun i x hx=>?_,.inr ⟨b,o,c,splice l (o+n * inf.size) ds,rfl,hnk,hc,by simp,?_,?_⟩,hR⟩
      · by_cases hi:i=b
        · subst hi;exact .inr hS2
        · left;simp [hi]
      · by_cases hi:i=b
        · subst hi;simp at hx;subst hx;exact a5
        · simp [hi] at hx
      · have hi:i≠b:=fun e=>by subst e;rw [hS2] at hx;cases hx
        show w'.heap[i]?=some x
        rw [a6 i hi];exact l2 i x hx
      · rw [splice_len _ _ _ (by omega)];exact hl
      · apply List.ext_getElem?
        intro i
        rw [td_get,splice_get _ _ _ (by omega),List.getElem?_append]
        simp only [List.length_take,List.length_drop]
        rw [Nat.min_eq_left (show n * inf.size≤l.length - o by omega),Nat.add_mul]
        by_cases hi:i < n * inf.size
        · rw [if_pos hi,if_pos (show i < n * inf.size+k * inf.size by omega),if_pos (show o+i < o+n * inf.size by omega),td_get,if_pos hi]
        · rw [if_neg hi,if_neg (show ¬ o+i < o+n * inf.size by omega)]
          by_cases h2:i < n * inf.size+k * inf.size
          · rw [if_pos h2,if_pos (show o+i < o+n * inf.size+ds.length by omega)];congr 1;omega
          · rw [if_neg h2,List.getElem?_eq_none (by omega)]
  · obtain ⟨a,c,rfl,hnc,hcs⟩:=hshape
    by_cases hk:n+k≤c
    · 
      have h0:n=0∧k=0∧cs=[]∧c=0:=by
        rcases hOw with ⟨rfl,rfl,a',e⟩ | ⟨b,o,c',l,e,h3,h4,h5,h6,h7⟩
        · cases e;exact ⟨rfl,by omega,rfl,rfl⟩
        · cases e;exact absurd ⟨b,o,c,l,rfl,hk,h4,h5,h6,h7⟩ hfit
      obtain ⟨rfl,rfl,rfl,rfl⟩:=h0
      have hd0:ds=[]:=by cases ds with
        | nil=>rfl
        | cons x l=>simp at hdl
      subst hd0
      refine ⟨.slice a 0 0,w,?_,.inl ⟨hw.conv fun S hS=>p1.to hS,_,_,rfl,rfl⟩⟩
      simp only [Builtin.append_,List.getElem?_toArray,List.getElem?_cons_zero,List.getElem?_cons_succ,Sem.run_bind,run_underlying hu,Result.andThen_ok,run_sizeOf hsz,run_underlying hd2]
      cases a <;> simp [hlen,hds,storeCells]
    · 
      have hkc:c < n+k:=by omega
      have hnext:=nextcap_le hkc
      unfold zeroOf at hz
      cases hzi:(P.info? E).bind (·.zero) with
      | none=>rw [hzi] at hz;cases hz
      | some zv=>
      rw [hzi] at hz
      simp at hz
      have hz':zv.cells=zs.toArray:=by rw [← hz]
      have hmul:Builtin.nextslicecap (n+k) c * inf.bytes≤(2 * (n+k)+192) * 512:=Nat.mul_le_mul hnext hy
      let q:Question:=.appendCap (n+k) c E
      let nc:=q.cut (w.tape w.drawn q)
      have hnc2:nc=n+k+(w.tape w.drawn q) % (2 ^ 63 - (n+k)):=rfl
      have hlt:(w.tape w.drawn q) % (2 ^ 63 - (n+k)) < 2 ^ 63 - (n+k):=Nat.mod_lt _ (by omega)
      let row:=(cs++ds++(Builtin.zeroCells zs.toArray (nc - (n+k))).toList)
      have hcl:cs.length=n * inf.size:=hown.len
      refine ⟨.slice (some ⟨w.heap.size,0,none⟩) (n+k) nc,w.drew.alloc (.cells row.toArray E (0,0)),?_,.inr ?_⟩
      · simp only [Builtin.append_,List.getElem?_toArray,List.getElem?_cons_zero,List.getElem?_cons_succ,Sem.run_bind,run_underlying hu,Result.andThen_ok,run_sizeOf hsz,run_underlying hd2]
        have e1:¬ (9223372036854775807 < (n:Int)+k∧inf.bytes=0):=by omega
        have e2:¬ 2 ^ 48 < Builtin.nextslicecap (n+k) c * inf.bytes:=by omega
        have hcs':(Builtin.firstCells inf.size n (.slice a n c)).run P w.drew=.ok cs.toArray w.drew:=by
          have:RdS (heapOf w.drew) inf.size (.slice a n c) n cs:=hown
          exact (this.read (P:=P)).2
        have hds':(Builtin.firstCells inf.size k v).run P w.drew=.ok ds.toArray w.drew:=hdsd (w.drawn+1)
        have e3:¬ n+k≤c:=hk
        simp [hlen,e3,e1,e2,run_typeInfo hinf,Question.forced,hcs',hds',run_zeroValue hzi,newRow,hz',row,nc,q]
        congr 2;apply Array.ext';simp
      · have h:=(hw.draw (w.drawn+1)).conv fun S hS=>p1.to hS
        have h':=h.push (.cells row.toArray E (0,0))
        obtain ⟨T1,T2,hd',m1,m2,hA1,hA2⟩:=h'.heap
        refine ⟨h'.os,h'.tape,h'.output,h'.size,T1,T2,hd',m1,m2,.inr ⟨w.heap.size,0,nc,row,rfl,by omega,by omega,hA1,?_,?_⟩,hA2⟩
        · simp only [row,List.length_append,Array.length_toList,mod_arr_len,List.size_toArray,hcl,hdl,hzz]
          rw [Nat.zero_add,← Nat.add_mul,← Nat.add_mul]
          exact Nat.mul_le_mul_right _ (by omega)
        · rw [List.drop_zero]
          simp only [row]
          rw [List.take_append_of_le_length (by simp [hcl,hdl,Nat.add_mul]),List.take_of_length_le (by simp [hcl,hdl,Nat.add_mul])]
variable {α : Type} {enc : α → List Value}
theorem gr_step {E z:Nat} (he:EncOk z enc) {l u u':Value} {ws xs ys:List α} {R:List HP} {w w':World} (hb:xs.length+ys.length≤68719476736)
    (hrun:∀ R':List HP,Sat g (Sl E z enc u xs::R') w→(Sat g (Sl E z enc u' (xs++ys)::R') w'∧∃ a c,u=.slice a xs.length c∧u'=.slice a (xs.length+ys.length) c)∨Sat g (Sl E z enc u' (xs++ys)::Sl E z enc u xs::R') w')
    (hw:Sat g (Gr E z enc l ws u xs::R) w):Sat g (Gr E z enc l ws u' (xs++ys)::R) w':=by
  obtain ⟨S1,S2,hd,l1,l2,hG,hR⟩:=hw.heap
  rcases hG with ⟨hA,a,c,hu,hl,hws,hle⟩ | hB
  · have h1:Sat g (Sl E z enc u xs::R) w:=⟨hw.os,hw.tape,hw.output,hw.size,S1,S2,hd,l1,l2,hA,hR⟩
    rcases hrun R h1 with ⟨h2,a',c',e1,e2⟩ | h2
    · rw [hu] at e1
      cases e1
      obtain ⟨T1,T2,hd',m1,m2,hA',hR'⟩:=h2.heap
      refine ⟨h2.os,h2.tape,h2.output,h2.size,T1,T2,hd',m1,m2,.inl ⟨hA',a,c,?_,hl,?_,?_⟩,hR'⟩
      · rw [e2,List.length_append]
      · rw [List.take_append_of_le_length hle];exact hws
      · rw [List.length_append];omega
    · refine h2.conv fun S hS=>?_
      have hS2:stars (Sl E z enc u' (xs++ys)::Sl E z enc l ws::R) S:=by
        refine stars_cons (fun T hT=>?_) hS
        obtain ⟨T1,T2,a1,a2,a3,a4,a5⟩:=hT
        refine ⟨T1,T2,a1,a2,a3,?_,a5⟩
        rw [hu] at a4
        have:=own_pre (m:=ws.length) he hle a4
        rw [← hws,← hl] at this
        exact this
      have h3:=bun_stars (L:=[Sl E z enc u' (xs++ys),Sl E z enc l ws]) (M:=R) hS2
      obtain ⟨T1,T2,a1,a2,a3,a4,a5⟩:=h3
      exact ⟨T1,T2,a1,a2,a3,.inr a4,a5⟩
  · have h1:Sat g (Sl E z enc u xs::Sl E z enc l ws::R) w:=by
      refine ⟨hw.os,hw.tape,hw.output,hw.size,?_⟩
      exact stars_bun (L:=[Sl E z enc u xs,Sl E z enc l ws]) ⟨S1,S2,hd,l1,l2,hB,hR⟩
    have h2:Sat g (Sl E z enc u' (xs++ys)::Sl E z enc l ws::R) w':=by
      rcases hrun _ h1 with ⟨h2,_⟩ | h2
      · exact h2
      · exact h2.conv fun S hS=>stars_cons (fun T hT=>stars_tail hT) hS
    refine h2.conv fun S hS=>?_
    have h3:=bun_stars (L:=[Sl E z enc u' (xs++ys),Sl E z enc l ws]) (M:=R) hS
    obtain ⟨T1,T2,a1,a2,a3,a4,a5⟩:=h3
    exact ⟨T1,T2,a1,a2,a3,.inr a4,a5⟩
theorem Gr_shape {E z:Nat} {l u:Value} {ws xs:List α} {S:Piece} (h:Gr E z enc l ws u xs S):∃ a m c,u=.slice a m c:=by
  rcases h with ⟨h,_⟩ | ⟨_,_,_,_,_,h,_⟩ <;> exact own_shape h
theorem hl_append_gr {T E z y:Nat} {x xv:Operand} {l u v:Value} {ws xs ys:List α} {zs:List Value} {R N:List HP} {B:HP} {K:Value→List HP→Prop} (hs:slOf P T=some (E,z,y)) (he:EncOk z enc) (hz:zeroOf P E=some zs) (hB:RL B z enc v ys) (hb:xs.length+ys.length≤68719476736)
    (hK:∀ a m c,K (.slice a m c) (Gr E z enc l ws (.slice a m c) (xs++ys)::R)) (hzz:zs.length=z:=by rfl) (hz0:0 < z:=by decide) (hy:y≤512:=by decide)
    (hx:ev Γ x=some u:=by rfl) (hv:ev Γ xv=some v:=by rfl) (p1:Pick L (Gr E z enc l ws u xs) R:=by repeat first | exact .z | apply Pick.s) (p2:Pick L B N:=by repeat first | exact .z | apply Pick.s):HO P r g ⟨dst,.call ⟨.builtin .append,#[x,xv],#[T,T]⟩,t,pos,aft,gd⟩ Γ L K:=by
  have h0:HO P r g ⟨dst,.call ⟨.builtin .append,#[x,xv],#[T,T]⟩,t,pos,aft,gd⟩ Γ L (fun v M=>M=Gr E z enc l ws v (xs++ys)::R):=
    HO.run (by simp) fun a w ha hw=>by
      have hr:∀ d,_:=fun d=>((hw.draw d).rd p2 hB).read (P:=P)
      have key:∃ u' w',(Builtin.append_ #[T,T] t #[u,v]).run P w=.ok u' w'∧∀ R':List HP,Sat g (Sl E z enc u xs::R') w→(Sat g (Sl E z enc u' (xs++ys)::R') w'∧∃ a c,u=.slice a xs.length c∧u'=.slice a (xs.length+ys.length) c)∨Sat g (Sl E z enc u' (xs++ys)::Sl E z enc u xs::R') w':=by
        have step:∀ R':List HP,Sat g (Sl E z enc u xs::R') w→∃ u' w',(Builtin.append_ #[T,T] t #[u,v]).run P w=.ok u' w'∧((Sat g (Sl E z enc u' (xs++ys)::R') w'∧∃ a c,u=.slice a xs.length c∧u'=.slice a (xs.length+ys.length) c)∨Sat g (Sl E z enc u' (xs++ys)::Sl E z enc u xs::R') w'):=fun R' h=>by
          have:=run_append2 (t:=t) (ds:=ys.flatMap enc) (k:=ys.length) hs (notInt_sl hs) hz hzz h .z (((hw.rd p2 hB).read (P:=P)).1) (fun d=>(hr d).2) (flat_len he ys) (ones_flat he ys) hz0 hb hy
          unfold Sl
          rw [List.length_append,List.flatMap_append]
          exact this
        obtain ⟨S1,S2,hd,l1,l2,hG,hR⟩:=p1.to hw.heap
        have h1:∃ R',Sat g (Sl E z enc u xs::R') w:=by
          rcases hG with ⟨hA,_⟩ | hB'
          · exact ⟨R,hw.os,hw.tape,hw.output,hw.size,S1,S2,hd,l1,l2,hA,hR⟩
          · exact ⟨_,hw.os,hw.tape,hw.output,hw.size,stars_bun (L:=[Sl E z enc u xs,Sl E z enc l ws]) ⟨S1,S2,hd,l1,l2,hB',hR⟩⟩
        obtain ⟨R1,h1⟩:=h1
        obtain ⟨u',w',e,_⟩:=step R1 h1
        refine ⟨u',w',e,fun R' h=>?_⟩
        obtain ⟨u2,w2,e2,h2⟩:=step R' h
        rw [e] at e2
        cases e2
        exact h2
      obtain ⟨u',w',hrun,hst⟩:=key
      refine ⟨u',_,w',?_,rfl,gr_step he hb hst (hw.conv fun S hS=>p1.to hS)⟩
      have hm:(#[x,xv]:Array Operand).map a.eval=#[u,v]:=by simp [ev_ok hx ha,ev_ok hv ha]
      show (do let d ← resolve a.eval ⟨.builtin .append,#[x,xv],#[T,T]⟩ t;invoke d.target d.args:Sem Next).run P w=_
      simp only [resolve,hm,Sem.run_bind,Sem.run_pure,Result.andThen_ok,invoke,builtin,hrun]
  refine HO.sat h0 fun v M w hM hw=>?_
  subst hM
  obtain ⟨S1,S2,_,_,_,h1,_⟩:=hw.heap
  obtain ⟨a,m,c,rfl⟩:=Gr_shape h1
  exact hK a m c
end
end Go.SL
namespace Go.SL
open Go Go.Proofs Go.Sort Go.Shelf
def Tab (P:Program) (A:HP):Prop:=∀ (S:Piece) (w:World),A S→le S (heapOf w)→Lib.TabIs P w "internal/strconv.uint64pow10" .u64 Lib.pow10Tab
theorem sat_grow {g w:World} {L:List HP} (h:Sat g L w) (os:Array Obj):Sat g L (grow w os):=
  ⟨h.os,h.tape,h.output,by have:=h.size;simp [grow];omega,stars_le h.heap fun b o hb=>by
    have hlt:b < w.heap.size:=by
      rcases Nat.lt_or_ge b w.heap.size with h' | h'
      · exact h'
      · simp [heapOf,Array.getElem?_eq_none h'] at hb
    show (w.heap++os)[b]?=some o
    rw [Array.getElem?_append_left hlt];exact hb⟩
def itoaB (n:Nat):ByteArray:=⟨(Lib.itoa (n:Int)).toArray⟩
theorem itoa_spec {P:Program} {ρ:Ren} {g:World} (La:LaysM.n171 P ρ) {A:HP} (hT:Tab P A) (n:Nat) (hn:n≤9223372036854775807):Spec P g (ρ.f 171) [.int .i64 n] [A] fun K R=>K (.string (itoaB n)) (A::R):=by
  intro R K w hw hK
  obtain ⟨S1,S2,_,l1,_,hA,_⟩:=hw.heap
  refine (Any.strconv_Itoa La (n:Int) (by omega) (by omega) w (hT S1 w hA l1)).mono ?_
  rintro e w' ⟨rfl,k,os,rfl⟩
  exact ⟨_,_,rfl,hK,sat_grow (hw.draw _) os⟩
def Mb {α:Type} (F:α→HP) (hs:List α):HP:=bun (hs.map F)
theorem Mb_nil {α:Type} {F:α→HP} {L:List HP} {S:Piece} (h:stars L S):stars (Mb F []::L) S:=bun_stars (L:=[]) h
theorem Mb_out {α:Type} {F:α→HP} {hs A B:List α} {x:α} (h:hs=A++x::B):∀ S,Mb F hs S→∃ _:Unit,stars [F x,Mb F (A++B)] S:=fun S hS=>by
  subst h
  have hS:stars ((A++x::B).map F) S:=hS
  rw [List.map_append,List.map_cons] at hS
  obtain ⟨S1,S2,a,b,c,d,e⟩:=stars_unmove hS
  refine ⟨(),S1,S2,a,b,c,d,?_⟩
  rw [Mb,List.map_append]
  exact bun_stars (M:=[]) (S:=S2) (by simpa using e)
theorem Mb_in {α:Type} {F:α→HP} {A B:List α} {x:α}:∀ S,stars [F x,Mb F (A++B)] S→Mb F (A++x::B) S:=fun S hS=>by
  show stars ((A++x::B).map F) S
  rw [List.map_append,List.map_cons]
  refine stars_move ?_
  obtain ⟨S1,S2,a,b,c,d,e⟩:=hS
  refine ⟨S1,S2,a,b,c,d,?_⟩
  rw [Mb,List.map_append] at e
  have:=stars_bun (M:=[]) e
  simpa using this
end Go.SL
namespace Go.SL
open Go
theorem ba_get (a:ByteArray) (i:Nat):a.toList[i]?=a[i]?:=by
  rw [ByteArray.toList_eq]
  obtain ⟨⟨l⟩⟩:=a
  by_cases h:i < l.length
  · rw [getElem?_pos (⟨⟨l⟩⟩:ByteArray) i (by simpa [ByteArray.size] using h)]
    rw [List.getElem?_eq_getElem h];rfl
  · rw [getElem?_neg (⟨⟨l⟩⟩:ByteArray) i (by simpa [ByteArray.size] using h)]
    exact List.getElem?_eq_none (Nat.le_of_not_lt h)
theorem ba_size (a:ByteArray):a.toList.length=a.size:=by
  rw [ByteArray.toList_eq]
  obtain ⟨⟨l⟩⟩:=a
  rfl
theorem less_skip:∀ (i:Nat) (l m:List UInt8),l.take i=m.take i→i≤l.length→i≤m.length→Op.bytesLess l m=Op.bytesLess (l.drop i) (m.drop i)
  | 0,l,m,_,_,_=>by simp
  | i+1,[],m,_,h,_=>by simp at h
  | i+1,_::_,[],_,_,h=>by simp at h
  | i+1,x::l,y::m,h,h1,h2=>by
    simp only [List.take_succ_cons,List.cons.injEq] at h
    obtain ⟨rfl,h⟩:=h
    rw [List.drop_succ_cons,List.drop_succ_cons,← less_skip i l m h (by simpa using h1) (by simpa using h2)]
    have:¬ x < x:=by rw [UInt8.lt_iff_toNat_lt];omega
    simp [Op.bytesLess,this]
theorem less_at {a b:ByteArray} {i:Nat} {x y:UInt8} (h:a.toList.take i=b.toList.take i) (hx:a[i]?=some x) (hy:b[i]?=some y) (hne:x≠y):sLt a b=decide (x < y):=by
  rw [← ba_get] at hx hy
  have h1:=(List.getElem?_eq_some_iff.1 hx).1
  have h2:=(List.getElem?_eq_some_iff.1 hy).1
  unfold sLt
  rw [less_skip i _ _ h (by omega) (by omega),List.drop_eq_getElem_cons h1,List.drop_eq_getElem_cons h2]
  rw [(List.getElem?_eq_some_iff.1 hx).2,(List.getElem?_eq_some_iff.1 hy).2]
  have hne':(x == y)=false:=by simpa using hne
  simp [Op.bytesLess,hne']
theorem less_end {a b:ByteArray} {i:Nat} (h:a.toList.take i=b.toList.take i) (h1:i≤a.size) (h2:i≤b.size) (he:a.size=i∨b.size=i):sLt a b=decide (a.size < b.size):=by
  unfold sLt
  rw [less_skip i _ _ h (by rw [ba_size];exact h1) (by rw [ba_size];exact h2)]
  rcases he with e | e
  · rw [List.drop_of_length_le (by rw [ba_size];omega)]
    cases hd:b.toList.drop i with
    | nil=>have:=congrArg List.length hd;rw [List.length_drop,ba_size] at this;simp at this;simp [Op.bytesLess];omega
    | cons y m=>have:=congrArg List.length hd;rw [List.length_drop,ba_size] at this;simp at this;simp [Op.bytesLess];omega
  · rw [show b.toList.drop i=[] from List.drop_of_length_le (by rw [ba_size];omega)]
    have:¬ a.size < b.size:=by omega
    cases a.toList.drop i <;> simp [Op.bytesLess,this]
theorem take_step {a b:ByteArray} {i:Nat} {x:UInt8} (h:a.toList.take i=b.toList.take i) (hx:a[i]?=some x) (hy:b[i]?=some x):a.toList.take (i+1)=b.toList.take (i+1):=by
  rw [← ba_get] at hx hy
  rw [List.take_add_one,List.take_add_one,h,hx,hy]
def keyByte (c:UInt8):Bool:=(decide (97≤c) && decide (c≤122)) || (decide (48≤c) && decide (c≤57)) || c == 95
theorem keyByte_rune {c:UInt8}:keyRune (c.toNat:Int)=keyByte c:=by
  unfold keyRune keyByte
  have e:((c.toNat:Int) == 95)=(c == 95):=by
    rw [Bool.eq_iff_iff]
    simp only [beq_iff_eq]
    rw [← UInt8.toNat_inj]
    show (c.toNat:Int)=95↔c.toNat=95
    omega
  rw [e]
  simp only [UInt8.le_iff_toNat_le]
  congr 1
  rw [Bool.eq_iff_iff]
  simp only [Bool.or_eq_true,Bool.and_eq_true,decide_eq_true_eq]
  show (((c.toNat:Int)≥97∧(c.toNat:Int)≤122)∨((c.toNat:Int)≥48∧(c.toNat:Int)≤57))↔((97≤c.toNat∧c.toNat≤122)∨(48≤c.toNat∧c.toNat≤57))
  omega
theorem rune_high {r:Nat} (h:128≤r):keyRune (r:Int)=false:=by
  unfold keyRune
  rw [Bool.eq_false_iff]
  intro e
  simp only [Bool.or_eq_true,Bool.and_eq_true,decide_eq_true_eq,beq_iff_eq] at e
  omega
theorem byte_high {c:UInt8} (h:128≤c.toNat):keyByte c=false:=by
  rw [← keyByte_rune];exact rune_high h
theorem allFrom_bytes (s:ByteArray):∀ (k i:Nat),s.size≤i+k→allFrom keyRune s k i=(s.toList.drop i).all keyByte
  | 0,i,h=>by
    rw [List.drop_of_length_le (by rw [ba_size];omega)];rfl
  | k+1,i,h=>by
    unfold allFrom
    by_cases hi:i < s.size
    · rw [if_pos hi]
      have hl:i < s.toList.length:=by rw [ba_size];exact hi
      rw [List.drop_eq_getElem_cons hl,List.all_cons]
      have hc:s.toList[i]=s[i]'hi:=by
        have:=ba_get s i
        rw [List.getElem?_eq_getElem hl,getElem?_pos s i hi] at this
        exact Option.some.inj this
      rw [hc]
      by_cases ha:(s[i]'hi).toNat < 128
      · rw [decode_ascii s i hi ha,keyByte_rune,allFrom_bytes s k (i+1) (by omega)]
      · have hh:=decode_high s i hi (by omega)
        rw [rune_high hh.1,byte_high (by omega)]
        rfl
    · rw [if_neg hi,List.drop_of_length_le (by rw [ba_size];omega)];rfl
theorem keyOk_bytes (s:ByteArray):keyOk s=(decide (1≤s.size) && decide (s.size≤16) && s.toList.all keyByte):=by
  unfold keyOk allR
  rw [allFrom_bytes s s.size 0 (by omega),List.drop_zero]
  congr 1
  have e1:sEq s ⟨#[]⟩=decide (s.size=0):=by
    rw [Bool.eq_iff_iff,decide_eq_true_eq]
    unfold sEq
    rw [beq_iff_eq,← ba_size s]
    show s.toList=(⟨#[]⟩:ByteArray).toList↔_
    rw [ByteArray.toList_eq ⟨#[]⟩]
    show s.toList=[]↔_
    exact List.length_eq_zero_iff.symm
  rw [e1]
  rw [Bool.eq_iff_iff]
  simp only [Bool.and_eq_true,Bool.not_eq_true',decide_eq_false_iff_not,decide_eq_true_eq]
  omega
theorem all_step {s:ByteArray} {i:Nat} {c:UInt8} (h:(s.toList.take i).all keyByte=true) (hc:s[i]?=some c) (hk:keyByte c=true):(s.toList.take (i+1)).all keyByte=true:=by
  rw [← ba_get] at hc
  rw [List.take_add_one,hc,List.all_append,h]
  simp [hk]
theorem all_bad {s:ByteArray} {i:Nat} {c:UInt8} (hc:s[i]?=some c) (hk:keyByte c=false):keyOk s=false:=by
  rw [← ba_get] at hc
  rw [keyOk_bytes]
  have:s.toList.all keyByte=false:=by
    rw [List.all_eq_false]
    exact ⟨c,List.mem_of_getElem? hc,by rw [hk];decide⟩
  rw [this,Bool.and_false]
theorem all_done {s:ByteArray} {i:Nat} (h:(s.toList.take i).all keyByte=true) (hi:s.size≤i):keyOk s=(decide (1≤s.size) && decide (s.size≤16)):=by
  rw [List.take_of_length_le (by rw [ba_size];exact hi)] at h
  rw [keyOk_bytes,h,Bool.and_true]
theorem sIn_lt (k a b:ByteArray):sIn k a b=(!sLt k a && !sLt b k):=by
  rw [Bool.eq_iff_iff,sIn_iff]
  simp
def hasS (a:SpanM):Bool:=!sLt a.b a.a
theorem meet_ref (a b:SpanM):(hasS a && hasS b && (sIn a.a b.a b.b || sIn b.a a.a a.b))=meet a b:=by
  unfold meet hasS
  rw [sMax_iff]
  simp only [sIn_lt]
  by_cases h:sLt a.a b.a=true
  · rw [if_pos h]
    have h2:=sLt_asymm h
    simp only [h,h2,sLt_irrefl,Bool.not_true,Bool.not_false,Bool.false_and,Bool.false_or,Bool.true_and,Bool.and_true]
    cases h3:sLt a.b b.a with
    | true=>simp
    | false=>
      have h4:sLt a.b a.a=false:=by
        cases h5:sLt a.b a.a with
        | false=>rfl
        | true=>
          rw [sLt_trans h5 h] at h3;cases h3
      simp [h4]
  · have h':sLt a.a b.a=false:=by simpa using h
    rw [if_neg h]
    simp only [h',sLt_irrefl,Bool.not_false,Bool.true_and]
    cases h3:sLt b.b a.a with
    | true=>
      simp only [Bool.not_true,Bool.and_false,Bool.false_or]
      rcases sLt_tri b.a a.a with h4 | h4 | h4
      · rw [h4];simp
      · rw [h4,sLt_irrefl,h3];simp
      · rw [h4] at h';cases h'
    | false=>
      have h4:sLt b.b b.a=false:=by
        cases h5:sLt b.b b.a with
        | false=>rfl
        | true=>
          rcases sLt_tri b.a a.a with h6 | h6 | h6
          · rw [sLt_trans h5 h6] at h3;cases h3
          · rw [← h6,h5] at h3;cases h3
          · rw [h6] at h';cases h'
      simp [h4]
theorem kb_letter {c:UInt8} (h:(decide ((c.toNat:Int) < 97) || decide ((c.toNat:Int) > 122))=false):keyByte c=true:=by
  rw [← keyByte_rune];unfold keyRune
  simp only [Bool.or_eq_false_iff,decide_eq_false_iff_not] at h
  simp only [Bool.or_eq_true,Bool.and_eq_true,decide_eq_true_eq]
  omega
theorem kb_digit {c:UInt8} (h:(decide ((c.toNat:Int) < 48) || decide ((c.toNat:Int) > 57))=false):keyByte c=true:=by
  rw [← keyByte_rune];unfold keyRune
  simp only [Bool.or_eq_false_iff,decide_eq_false_iff_not] at h
  simp only [Bool.or_eq_true,Bool.and_eq_true,decide_eq_true_eq]
  omega
theorem kb_under {c:UInt8} (h:c=95):keyByte c=true:=by subst h;rfl
theorem kb_bad {c:UInt8} (h1:(decide ((c.toNat:Int) < 97) || decide ((c.toNat:Int) > 122))=true) (h2:(decide ((c.toNat:Int) < 48) || decide ((c.toNat:Int) > 57))=true) (h3:c≠95):keyByte c=false:=by
  rw [← keyByte_rune];unfold keyRune
  have h4:(c.toNat:Int)≠95:=fun e=>h3 (UInt8.toNat_inj.1 (by show c.toNat=95;omega))
  simp only [Bool.or_eq_true,decide_eq_true_eq] at h1 h2
  rw [Bool.eq_false_iff]
  intro e
  simp only [Bool.or_eq_true,Bool.and_eq_true,decide_eq_true_eq,beq_iff_eq] at e
  omega
theorem opOk_bad {x:OpM} (h:keyOk x.key=false):opOk x=false:=by simp [opOk,h]
theorem opOk_get {x:OpM} (hk:keyOk x.key=true) (h:x.kind=1∨x.kind=3):opOk x=(sEq x.to ⟨#[]⟩ && x.val == 0):=by
  unfold opOk
  rcases h with h | h <;> simp [h,hk]
theorem opOk_put {x:OpM} (hk:keyOk x.key=true) (h:x.kind=2):opOk x=sEq x.to ⟨#[]⟩:=by
  unfold opOk
  simp [h,hk]
theorem opOk_scan {x:OpM} (hk:keyOk x.key=true) (h:x.kind=4):opOk x=(keyOk x.to && x.val == 0):=by
  unfold opOk
  simp [h,hk]
theorem opOk_none {x:OpM} (h1:x.kind≠1) (h2:x.kind≠2) (h3:x.kind≠3) (h4:x.kind≠4):opOk x=false:=by
  unfold opOk
  rw [Bool.eq_false_iff]
  intro e
  simp only [Bool.and_eq_true,decide_eq_true_eq] at e
  obtain ⟨⟨⟨⟨e1,e2⟩,_⟩,_⟩,_⟩:=e
  have:x.kind.toNat=1∨x.kind.toNat=2∨x.kind.toNat=3∨x.kind.toNat=4:=by omega
  rcases this with h | h | h | h
  · exact h1 (UInt8.toNat_inj.1 h)
  · exact h2 (UInt8.toNat_inj.1 h)
  · exact h3 (UInt8.toNat_inj.1 h)
  · exact h4 (UInt8.toNat_inj.1 h)
end Go.SL
