import Derived.Test.YtdfomffmfnpfoaaGreatDoorQA9
set_option linter.unusedSimpArgs false
set_option linter.unusedVariables false
namespace Go.SL.Fc
open Go Go.Proofs Go.SL
theorem a105:aggOf Tryz.prog 105=some none:=by kernel_rfl
theorem a29:aggOf Tryz.prog 29=some none:=by kernel_rfl
theorem a89:aggOf Tryz.prog 89=some none:=by kernel_rfl
theorem a90:aggOf Tryz.prog 90=some none:=by kernel_rfl
theorem a91:aggOf Tryz.prog 91=some none:=by kernel_rfl
theorem a96:aggOf Tryz.prog 96=some none:=by kernel_rfl
theorem f114_0:fldOf Tryz.prog 114 0=some 0:=by kernel_rfl
theorem f116_0:fldOf Tryz.prog 116 0=some 0:=by kernel_rfl
theorem f116_1:fldOf Tryz.prog 116 1=some 1:=by kernel_rfl
theorem f139_0:fldOf Tryz.prog 139 0=some 0:=by kernel_rfl
theorem f139_1:fldOf Tryz.prog 139 1=some 1:=by kernel_rfl
theorem f93_2:fldOf Tryz.prog 93 2=some 2:=by kernel_rfl
theorem f93_3:fldOf Tryz.prog 93 3=some 3:=by kernel_rfl
theorem f93_4:fldOf Tryz.prog 93 4=some 4:=by kernel_rfl
theorem f93_5:fldOf Tryz.prog 93 5=some 5:=by kernel_rfl
theorem k122:callable Tryz.prog 122=true:=by kernel_rfl
theorem k123:callable Tryz.prog 123=true:=by kernel_rfl
theorem k136:callable Tryz.prog 136=true:=by kernel_rfl
theorem k137:callable Tryz.prog 137=true:=by kernel_rfl
theorem k138:callable Tryz.prog 138=true:=by kernel_rfl
theorem k139:callable Tryz.prog 139=true:=by kernel_rfl
theorem k140:callable Tryz.prog 140=true:=by kernel_rfl
theorem k55:callable Tryz.prog 55=true:=by kernel_rfl
theorem p114:placesOf Tryz.prog 114=some [(0,1)]:=by kernel_rfl
theorem p116:placesOf Tryz.prog 116=some [(0,1),(1,1)]:=by kernel_rfl
theorem pt29:isPtr Tryz.prog 29=true:=by kernel_rfl
theorem s116:szOf Tryz.prog 116=some 2:=by kernel_rfl
theorem s4:szOf Tryz.prog 4=some 1:=by kernel_rfl
theorem s91:szOf Tryz.prog 91=some 1:=by kernel_rfl
theorem z114:zeroOf Tryz.prog 114=some [.int .u32 0]:=by kernel_rfl
theorem z116:zeroOf Tryz.prog 116=some [.int .u32 0,.slice none 0 0]:=by kernel_rfl
theorem z4:zeroOf Tryz.prog 4=some [.bool false]:=by kernel_rfl
theorem z48:zeroOf Tryz.prog 48=some [.int .u32 0]:=by kernel_rfl
end Go.SL.Fc
namespace Go.SL
open Go Go.Proofs Fc
def Gs (p dp:Nat) (s:GamV):HP:=fun S=>∃ x:GI,stars [cl p 93 [.pointer (some ⟨x.lp,0,none⟩),.pointer (some ⟨x.mp,0,none⟩),x.nm,.int .u32 s.last.toNat,x.sv.v,x.lm],cl x.lp 156 [.pointer (some ⟨dp,0,none⟩),.int .i64 s.at_],Dk dp s.d,Mm x.mp s.rows,Mp eStr x.nm (List.map numC s.nums),Sl 139 3 lookC (x.sv.v) s.looks,Mp eU32 x.lm (List.map kvT s.txs)] S
theorem Gs_op {p dp:Nat} {s:GamV}:∀ S,Gs p dp s S→∃ x:GI,stars [cl p 93 [.pointer (some ⟨x.lp,0,none⟩),.pointer (some ⟨x.mp,0,none⟩),x.nm,.int .u32 s.last.toNat,x.sv.v,x.lm],cl x.lp 156 [.pointer (some ⟨dp,0,none⟩),.int .i64 s.at_],Dk dp s.d,Mm x.mp s.rows,Mp eStr x.nm (List.map numC s.nums),Sl 139 3 lookC (x.sv.v) s.looks,Mp eU32 x.lm (List.map kvT s.txs)] S:=fun _ h=>h
def TxL (t:TxV):List HP:=[cl t.q 116 [.int .u32 t.num.toNat,t.sv.v],Sl 123 3 ChgM.c t.sv.v t.own]
def TxP (t:TxV):HP:=bun (TxL t)
def Txs (ts:List TxV):HP:=bun (ts.map TxP)
theorem Txs_out {ts A B:List TxV} {t:TxV} (h:ts=A++t::B):∀ S,Txs ts S→∃ _:Unit,stars [cl t.q 116 [.int .u32 t.num.toNat,t.sv.v],Sl 123 3 ChgM.c t.sv.v t.own,Txs (A++B)] S:=fun S hS=>by
 subst h
 refine ⟨(),?_⟩
 unfold Txs bun at hS
 rw [List.map_append,List.map_cons] at hS
 have h1:=stars_unmove hS
 have h2:stars (TxL t++(A.map TxP++B.map TxP)) S:=stars_bun h1
 refine stars_cons (fun S h=>stars_cons (fun S h=>?_) h) h2
 show stars [bun ((A++B).map TxP)] S
 rw [List.map_append]
 have:=bun_stars (L:=A.map TxP++B.map TxP) (M:=[]) (S:=S) (by simpa using h)
 exact this
theorem Txs_in {A B:List TxV} {t:TxV}:∀ S,stars [cl t.q 116 [.int .u32 t.num.toNat,t.sv.v],Sl 123 3 ChgM.c t.sv.v t.own,Txs (A++B)] S→Txs (A++t::B) S:=fun S hS=>by
 unfold Txs bun
 rw [List.map_append,List.map_cons]
 refine stars_move<|bun_stars (L:=TxL t) ?_
 refine stars_cons (fun S h=>stars_cons (fun S h=>?_) h) hS
 have h':stars (bun ((A++B).map TxP)::[]) S:=h
 rw [List.map_append] at h'
 have:=stars_bun h'
 simpa using this
theorem four_spec {g:World} (n:UInt32):Spec Tryz.prog g 44 [.int .u32 n.toNat] [] fun K R=>∀ a m c,K (.slice a m c) (Sl 5 1 eB (.slice a m c) (numB n 4)::R):=by
 refine Spec.intro Tryz.func44 rfl Tryz.ntmps44 rfl fun R K hK=>?_
 refine WP.seq<|WP.reg<|WL.e e_assign<|WL.next<|WP.seq<|WP.reg<|WL.e e_move<|WL.e (e_shrN (k:=.u32) (a:=n.toNat) (m:=24) (by decide))<|WL.e (e_c8 (by rw [Tryz.underlying48];rfl) Tryz.underlying5)<|WL.e e_move<|WL.e (e_shrN (k:=.u32) (a:=n.toNat) (m:=16) (by decide))<|WL.e (e_c8 (by rw [Tryz.underlying48];rfl) Tryz.underlying5)<|WL.e e_move<|WL.e (e_shrN (k:=.u32) (a:=n.toNat) (m:=8) (by decide))<|WL.e (e_c8 (by rw [Tryz.underlying48];rfl) Tryz.underlying5)<|WL.e e_move<|WL.e (e_c8 (by rw [Tryz.underlying48];rfl) Tryz.underlying5) ?_
 refine WL.h (h_bs sl94 z5 (.o (.tmp 5) rfl<|.o (.tmp 8) rfl<|.o (.tmp 11) rfl<|.o (.tmp 13) rfl<|.n) fun b1=>?_)
 refine WL.e e_assign<|WL.next<|WP.ret ?_
 have e4:numB n 4=[UInt8.ofNat (n.toNat / 2 ^ 24),UInt8.ofNat (n.toNat / 2 ^ 16),UInt8.ofNat (n.toNat / 2 ^ 8),UInt8.ofNat n.toNat]:=by simp [numB]
 rw [e4] at hK
 refine PO.conv (conv1 (B:=Sl 5 1 eB (.slice (some ⟨b1,0,none⟩) 4 4) [UInt8.ofNat (n.toNat / 2 ^ 24),UInt8.ofNat (n.toNat / 2 ^ 16),UInt8.ofNat (n.toNat / 2 ^ 8),UInt8.ofNat n.toNat]) (lit_own eB_ok [UInt8.ofNat (n.toNat / 2 ^ 24),UInt8.ofNat (n.toNat / 2 ^ 16),UInt8.ofNat (n.toNat / 2 ^ 8),UInt8.ofNat n.toNat] rfl rfl (by decide)) (by repeat first | exact .z | apply Put.s)) ?_
 exact PO.fin Tryz.results44 (rv_tmp rv_nil) (hK _ _ _)
theorem Gthere_spec {g:World} {p dp:Nat} {s:GamV}:Spec Tryz.prog g 38 [.pointer (some ⟨p,0,none⟩)] [Gs p dp s] fun K R=>K (.bool true) (Gs p dp s::R):=by
 refine Spec.intro Tryz.func38 rfl Tryz.ntmps38 rfl fun R K hK=>?_
 refine WP.opn (Gs_op (p:=p) (dp:=dp) (s:=s)) fun x=>?_
 obtain ⟨lp,mp,nm,lm,sv⟩:=x
 dsimp only
 refine WP.seq<|WP.reg<|WL.e e_assign<|WL.next<|WP.seq<|WP.reg<|WL.e e_move<|WL.e (e_pne pt29)<|WL.e e_move ?_
 refine WL.bool 5 rfl (fun h=>?_) (fun h=>?_)
 ·skip
  refine WL.e e_move<|WL.e e_nil<|WL.e (e_fa f93_5)<|WL.e (e_load a90)<|WL.e (e_mne Tryz.underlying90)<|WL.e e_pick_t<|WL.e e_assign<|WL.next<|WP.ret<|PO.cls (A:=Gs p dp (s)) (B:=[cl p 93 [.pointer (some ⟨lp,0,none⟩),.pointer (some ⟨mp,0,none⟩),nm,.int .u32 s.last.toNat,sv.v,lm],cl lp 156 [.pointer (some ⟨dp,0,none⟩),.int .i64 s.at_],Dk dp s.d,Mm mp s.rows,Mp eStr nm (List.map numC s.nums),Sl 139 3 lookC (sv.v) s.looks,Mp eU32 lm (List.map kvT s.txs)]) (fun S h=>⟨⟨lp,mp,nm,lm,sv⟩,h⟩) ?_
  exact PO.fin Tryz.results38 (rv_tmp rv_nil) hK
 ·cases h 
theorem kept_spec {g:World} {A:HP} {u:Value} {p dp:Nat} {s:GamV} {cs:List ChgM} (num:UInt32) (hA:RL A 3 ChgM.c u cs) (hn:cs.length≤68719476736):Spec Tryz.prog g 37 [.pointer (some ⟨p,0,none⟩),.int .u32 num.toNat,u] [Gs p dp s,A] fun K R=>K (.tuple #[]) (Gs p dp { s with nums:=keptG s.nums num cs }::A::R):=by
 refine Spec.intro Tryz.func37 rfl Tryz.ntmps37 rfl fun R K hK=>?_
 refine WP.opn (Gs_op (p:=p) (dp:=dp) (s:=s)) fun x=>?_
 obtain ⟨lp,mp,nm,lm,sv⟩:=x
 dsimp only
 refine WP.seq<|WP.reg<|WL.e e_move<|WL.e (el_len (xs:=cs) sl96 hA)<|WL.e e_move<|WL.next<|WP.block<|WP.loopK (fun (i:Nat)=>[(10,.int .i64 i)]) (fun (i:Nat)=>cl p 93 [.pointer (some ⟨lp,0,none⟩),.pointer (some ⟨mp,0,none⟩),nm,.int .u32 s.last.toNat,sv.v,lm]::cl lp 156 [.pointer (some ⟨dp,0,none⟩),.int .i64 s.at_]::Dk dp s.d::Mm mp s.rows::Mp eStr nm (List.map numC (keptG s.nums num (cs.take i)))::Sl 139 3 lookC (sv.v) s.looks::Mp eU32 lm (List.map kvT s.txs)::A::R) [(0,_),(1,_),(8,_),(9,_)] (fun (i:Nat)=>i≤cs.length) (fun (i:Nat)=>cs.length - i) 0 (Nat.zero_le _) ?_
 intro i hi
 refine WP.seq<|WP.reg<|WL.e e_lss<|WL.next<|WP.seq ?_
 refine WP.cond rfl (fun h2=>?_) (fun h2=>?_)
 ·have hlt:i < cs.length:=by rw [decide_eq_true_eq] at h2;omega
  obtain ⟨c,hc⟩:∃ c,cs[i]?=some c:=⟨_,List.getElem?_eq_getElem hlt⟩
  refine WP.skip<|PO.next<|WP.seq<|WP.block<|WP.seq<|WP.reg<|WL.e (el_ia (xs:=cs) sl96 hA hlt)<|WL.e (el_loadN (a:=c) a123 chgE hA hc) ?_
  refine WL.h (h_alloc z123 fun b1=>?_)
  refine WL.h' (h_store s123 ?_)
  refine WL.next<|WP.draws mixedOk 8<|RW.e 0 rfl e_move<|RW.e 1 rfl e_nil<|RW.e 2 rfl (e_fa f93_2)<|RW.e 3 rfl (e_load a89)<|RW.e 4 rfl (e_fa f123_0)<|RW.e 5 rfl (e_load a9)<|RW.e 6 rfl e_move ?_
  refine RW.any (is:=[7]) rfl ⟨?_,trivial⟩
  refine RWat.h' rfl rfl rfl ?_
  refine (h_mapUpdate (k:=c.key) (kvs:=List.map numC (keptG s.nums num (cs.take i))) Tryz.underlying89 (key_str Tryz.underlying9) ?_)
  refine ⟨trivial,?_⟩
  refine RW.done<|PO.blockN<|PO.next<|WP.reg<|WL.e (e_add rfl rfl (w_i64 (by omega) (by omega)))<|WL.e e_move<|WL.nil ?_
  rw [mset_num,← keptG_snoc,← take_snoc hc]
  exact PO.againK (i+1) (by omega) (by omega)
 ·rw [List.take_of_length_le (show cs.length≤i by rw [decide_eq_false_iff_not] at h2;omega)]
  refine WP.exit<|PO.past nofun<|PO.round nofun<|PO.blockX<|PO.cls (A:=Gs p dp ({ s with nums:=keptG s.nums num cs })) (B:=[cl p 93 [.pointer (some ⟨lp,0,none⟩),.pointer (some ⟨mp,0,none⟩),nm,.int .u32 s.last.toNat,sv.v,lm],cl lp 156 [.pointer (some ⟨dp,0,none⟩),.int .i64 s.at_],Dk dp s.d,Mm mp s.rows,Mp eStr nm (List.map numC (keptG s.nums num cs)),Sl 139 3 lookC (sv.v) s.looks,Mp eU32 lm (List.map kvT s.txs)]) (fun S h=>⟨⟨lp,mp,nm,lm,sv⟩,h⟩) ?_
  exact PO.fin Tryz.results37 rv_nil hK
theorem begins_spec {g:World} {p dp:Nat} {s:GamV} (n:UInt32) (hf:findT s.txs n=none):Spec Tryz.prog g 39 [.pointer (some ⟨p,0,none⟩),.int .u32 n.toNat] [Gs p dp s,Txs s.txs] fun K R=>∀ q,K (.tuple #[]) (Gs p dp { s with last:=s.last+1,txs:=s.txs++[⟨n,s.last+1,[],q,⟨none,0,0⟩⟩] }::Txs (s.txs++[⟨n,s.last+1,[],q,⟨none,0,0⟩⟩])::R):=by
 refine Spec.intro Tryz.func39 rfl Tryz.ntmps39 rfl fun R K hK=>?_
 refine WP.opn (Gs_op (p:=p) (dp:=dp) (s:=s)) fun x=>?_
 obtain ⟨lp,mp,nm,lm,sv⟩:=x
 dsimp only
 refine WP.seq<|WP.reg<|WL.e e_move<|WL.e e_nil<|WL.e (e_fa f93_3)<|WL.e (e_load a48)<|WL.e (e_add32 (b:=1))<|WL.e e_nil<|WL.e (e_fa f93_3) ?_
 refine WL.h' (h_store s48 ?_)
 refine WL.next<|WP.draws mixedOk 13<|RW.e 0 rfl e_move<|RW.e 1 rfl e_nil<|RW.e 2 rfl (e_fa f93_5)<|RW.e 3 rfl (e_load a90)<|RW.e 4 rfl e_move<|RW.e 5 rfl e_move<|RW.e 6 rfl e_nil<|RW.e 7 rfl (e_fa f93_3)<|RW.e 8 rfl (e_load a48)<|RW.e 9 rfl (e_build z114 p114 (.o (.tmp 19) rfl<|.n))<|RW.e 10 rfl (e_build z116 p116 (.a1 (.tmp 20) rfl<|.z (.slice none 0 0)<|.n)) ?_
 refine RW.any (is:=[11]) rfl ⟨?_,trivial⟩
 refine RWat.h rfl rfl rfl ?_
 refine (h_box fun b1=>?_)
 refine ⟨⟨⟨_,rfl,.inl ⟨rfl,e_move⟩⟩,⟨_,rfl,.inl ⟨rfl,(e_load a90)⟩⟩,⟨_,rfl,.inl ⟨rfl,(e_fa f93_5)⟩⟩,⟨_,rfl,.inl ⟨rfl,e_nil⟩⟩,⟨_,rfl,.inl ⟨rfl,e_move⟩⟩,trivial⟩,?_⟩
 refine RW.any (is:=[12]) rfl ⟨?_,trivial⟩
 refine RWat.h' rfl rfl rfl ?_
 refine (h_mapUpdate (k:=n) (kvs:=List.map kvT s.txs) Tryz.underlying90 (key_u32 Tryz.underlying48) ?_)
 rw [mset_kv s.txs ⟨n,s.last+1,[],b1,⟨none,0,0⟩⟩ hf]
 refine ⟨trivial,?_⟩
 refine RW.done<|PO.nils 123 3 ChgM.c none ?_
 refine PO.cls (A:=Gs p dp ({ s with last:=s.last+1,txs:=s.txs++[⟨n,s.last+1,[],b1,⟨none,0,0⟩⟩] })) (B:=[cl p 93 [.pointer (some ⟨lp,0,none⟩),.pointer (some ⟨mp,0,none⟩),nm,.int .u32 (s.last+1).toNat,sv.v,lm],cl lp 156 [.pointer (some ⟨dp,0,none⟩),.int .i64 s.at_],Dk dp s.d,Mm mp s.rows,Mp eStr nm (List.map numC s.nums),Sl 139 3 lookC (sv.v) s.looks,Mp eU32 lm (List.map kvT (s.txs++[⟨n,s.last+1,[],b1,⟨none,0,0⟩⟩]))]) (fun S h=>⟨⟨lp,mp,nm,lm,sv⟩,h⟩) ?_
 refine PO.cls (A:=Txs (s.txs++[⟨n,s.last+1,[],b1,⟨none,0,0⟩⟩])) (B:=[cl b1 116 [.int .u32 (s.last+1).toNat,.slice none 0 0],Sl 123 3 ChgM.c (.slice none 0 0) [],Txs s.txs]) (fun S h=>Txs_in (A:=s.txs) (B:=[]) (t:=⟨n,s.last+1,[],b1,⟨none,0,0⟩⟩) S (by rw [List.append_nil];exact h)) ?_
 exact PO.fin Tryz.results39 rv_nil (hK b1)
theorem ends1_spec {g:World} (x:UInt32 × SpanM) {b:Nat} (m:UInt32):Spec Tryz.prog g 123 [.agg (lookC x).toArray,.pointer (some ⟨b,0,none⟩)] [cl b 48 [.int .u32 m.toNat]] fun K R=>K (.bool (decide (x.1 < m))) (cl b 48 [.int .u32 m.toNat]::R):=by
 refine Spec.intro Tryz.func123 rfl Tryz.ntmps123 rfl fun R K hK=>?_
 refine WP.seq<|WP.reg ?_
 refine WL.h (h_box fun b1=>?_)
 refine WL.e e_assign<|WL.next<|WP.seq<|WP.reg<|WL.e (e_fa f139_0)<|WL.e (e_fa f114_0)<|WL.e (e_load a48)<|WL.e (e_load a48)<|WL.e (e_lss32)<|WL.e e_assign<|WL.next<|WP.ret ?_
 exact PO.fin Tryz.results123 (rv_tmp rv_nil) hK
theorem ends_spec {g:World} {p dp:Nat} {s:GamV} (n:UInt32) (hn:s.looks.length≤68719476736):Spec Tryz.prog g 41 [.pointer (some ⟨p,0,none⟩),.int .u32 n.toNat] [Gs p dp s,Txs (delT s.txs n)] fun K R=>K (.tuple #[]) (Gs p dp (endsG s n)::Txs (delT s.txs n)::R):=by
 refine Spec.intro Tryz.func41 rfl Tryz.ntmps41 rfl fun R K hK=>?_
 refine WP.opn (Gs_op (p:=p) (dp:=dp) (s:=s)) fun x=>?_
 obtain ⟨lp,mp,nm,lm,sv⟩:=x
 dsimp only
 refine WP.seq<|WP.reg<|WL.e e_move<|WL.e e_nil<|WL.e (e_fa f93_5)<|WL.e (e_load a90)<|WL.e e_move ?_
 refine WL.h' (h_delete (k:=n) (kvs:=List.map kvT s.txs) Tryz.underlying90 (key_u32 Tryz.underlying48) ?_)
 rw [mdel_kv]
 refine WL.next<|WP.seq<|WP.reg<|WL.e e_move<|WL.e e_nil<|WL.e (e_fa f93_3)<|WL.e (e_load a48) ?_
 refine WL.h (h_alloc z48 fun b1=>?_)
 refine WL.h' (h_store s48 ?_)
 refine WL.next<|WP.seq<|WP.seq<|WP.reg<|WL.e e_move<|WL.e e_nil<|WL.e (e_fa f93_5)<|WL.e (e_load a90) ?_
 refine WL.h (h_range (kvs:=List.map kvT (delT s.txs n)) Tryz.underlying90 fun it=>?_)
 refine WL.next<|WP.block<|WP.loopK (fun (x:List TxV × UInt32 × Option (UInt32 × Value))=>[]) (fun (x:List TxV × UInt32 × Option (UInt32 × Value))=>MpIt eU32 lm it (List.map kvT (delT s.txs n)) (List.map kvT x.1) x.2.2::cl b1 48 [.int .u32 x.2.1.toNat]::Txs (delT s.txs n)::cl p 93 [.pointer (some ⟨lp,0,none⟩),.pointer (some ⟨mp,0,none⟩),nm,.int .u32 s.last.toNat,sv.v,lm]::cl lp 156 [.pointer (some ⟨dp,0,none⟩),.int .i64 s.at_]::Dk dp s.d::Mm mp s.rows::Mp eStr nm (List.map numC s.nums)::Sl 139 3 lookC (sv.v) s.looks::R) [(0,_),(4,_),(20,_)] (fun (x:List TxV × UInt32 × Option (UInt32 × Value))=>(∀ t ∈ x.1,t ∈ (delT s.txs n))∧minL x.1 x.2.1=minL (delT s.txs n) s.last) (fun (x:List TxV × UInt32 × Option (UInt32 × Value))=>x.1.length) ((delT s.txs n),s.last,none) (⟨fun _ h=>h,rfl⟩) ?_
 rintro ⟨left,m,cur⟩ ⟨hx1,hx2⟩
 simp only at hx1 hx2
 dsimp only
 refine WP.seq<|WP.reg ?_
 refine WL.h (h_next (fun h0=>?_) (fun a y b hx=>?_))
 ·have hl0:left=[]:=by simpa using h0
  subst hl0
  refine WL.e e_extract<|WL.next<|WP.seq<|WP.cond_f rfl<|WP.exit<|PO.past nofun<|PO.round nofun<|PO.blockX<|PO.next<|WP.reg<|WL.e e_move<|WL.e e_move<|WL.e e_nil<|WL.e (e_fa f93_4)<|WL.e (e_load a91)<|WL.e e_makeFunc ?_
  refine WL.h (h_call (DelL_spec (p:=fun x=>decide (x.1 < m)) hn (fun x=>CallV.of_spec (fs:=[]) (cs:=[.pointer (some ⟨b1,0,none⟩)]) (ends1_spec x m) k123)) k122 ?_)
  intro a3 m3 c3
  refine WL.e e_nil<|WL.e (e_fa f93_4) ?_
  refine WL.h' (h_store s91 ?_)
  refine WL.nil ?_
  rw [show m=minL (delT s.txs n) s.last from hx2]
  refine PO.cls (A:=Gs p dp ((endsG s n))) (B:=[cl p 93 [.pointer (some ⟨lp,0,none⟩),.pointer (some ⟨mp,0,none⟩),nm,.int .u32 s.last.toNat,.slice a3 m3 c3,lm],cl lp 156 [.pointer (some ⟨dp,0,none⟩),.int .i64 s.at_],Dk dp s.d,Mm mp s.rows,Mp eStr nm (List.map numC s.nums),Sl 139 3 lookC (.slice a3 m3 c3) (s.looks.filter fun x=>!decide (x.1 < minL (delT s.txs n) s.last)),Mp eU32 lm (List.map kvT (delT s.txs n))]) (fun S h=>⟨⟨lp,mp,nm,lm,⟨a3,m3,c3⟩⟩,h⟩) ?_
  exact PO.fin Tryz.results41 rv_nil hK
 ·obtain ⟨A,t,B,hl,rfl,rfl,rfl⟩:=map_mid hx
  obtain ⟨A2,B2,hAB⟩:=mem_mid (hx1 t (by simp [hl]))
  refine WL.opn (Txs_out hAB) fun _=>?_
  refine WL.e e_extract<|WL.next<|WP.seq<|WP.cond_t rfl<|WP.skip<|PO.next<|WP.block<|WP.seq<|WP.reg<|WL.e e_entry<|WL.e e_extract<|WL.e e_assign<|WL.next<|WP.draws mixedOk 8<|RW.e 0 rfl (e_load a48)<|RW.e 1 rfl e_move<|RW.e 2 rfl e_nil<|RW.e 3 rfl (e_fa f116_0)<|RW.e 4 rfl (e_fa f114_0)<|RW.e 5 rfl (e_load a48)<|RW.e 6 rfl e_min32 ?_
  refine RW.any (is:=[7]) rfl ⟨?_,trivial⟩
  refine RWat.h' rfl rfl rfl ?_
  refine (h_store s48 ?_)
  refine ⟨trivial,?_⟩
  refine RW.done<|PO.blockN ?_
  rw [← List.map_append]
  refine PO.cls (A:=Txs (delT s.txs n)) (B:=[cl t.q 116 [.int .u32 t.num.toNat,t.sv.v],Sl 123 3 ChgM.c t.sv.v t.own,Txs (A2++B2)]) (fun S h=>hAB ▸ Txs_in S h) ?_
  exact PO.againK (A++B,(if t.num < m then t.num else m),_) ⟨fun y hy=>hx1 y (by rw [hl];simp only [List.mem_append,List.mem_cons] at hy ⊢;rcases hy with h | h;exact .inl h;exact .inr (.inr h)),by simp only;rw [← minL_mid,← hl];exact hx2⟩ (by simp only [hl,List.length_append,List.length_cons];omega)
theorem und1_spec {g:World} (c:ChgM) {b:Nat} (sp:SpanM):Spec Tryz.prog g 140 [.agg (ChgM.c c).toArray,.pointer (some ⟨b,0,none⟩)] [cl b 132 [.string sp.a,.string sp.b]] fun K R=>K (.bool (meet (one c.key) sp)) (cl b 132 [.string sp.a,.string sp.b]::R):=by
 refine Spec.intro Tryz.func140 rfl Tryz.ntmps140 rfl fun R K hK=>?_
 refine WP.seq<|WP.reg ?_
 refine WL.h (h_box fun b1=>?_)
 refine WL.e e_assign<|WL.next<|WP.seq<|WP.draws mixedOk 6<|RW.e 0 rfl (e_fa f123_0)<|RW.e 1 rfl (e_load a9)<|RW.e 3 rfl (e_loadN a132) ?_
 refine RW.any (is:=[2]) rfl ⟨?_,trivial⟩
 refine RWat.h rfl rfl rfl ?_
 refine (h_call (one_spec _) k136 ?_)
 refine ⟨⟨⟨_,rfl,.inl ⟨rfl,(e_loadN a132)⟩⟩,trivial⟩,?_⟩
 refine RW.any (is:=[4]) rfl ⟨?_,trivial⟩
 refine RWat.h rfl rfl rfl ?_
 refine (h_call (Meet_spec ⟨_,_⟩ ⟨_,_⟩) k135 ?_)
 refine ⟨trivial,?_⟩
 refine RW.e 5 rfl e_assign<|RW.done<|PO.next<|WP.ret ?_
 exact PO.fin Tryz.results140 (rv_tmp rv_nil) hK
def numV (n:UInt32):List Value:=[.int .u32 n.toNat]
theorem under_iter {g:World} {c1 c2 c3 p dp:Nat} {s:GamV} {t:TxV} {A B:List TxV} {sp:SpanM} (hts:s.txs=A++t::B) (hnd:(s.txs.map (·.id)).Nodup) (hown:∀ x ∈ s.txs,x.own.length≤68719476736) :
  IterL (cl t.q 116 [.int .u32 t.num.toNat,t.sv.v]) Tryz.prog g 139 (fun y=>[]++[y]++[.pointer (some ⟨c1,0,none⟩),.pointer (some ⟨c2,0,none⟩),.pointer (some ⟨c3,0,none⟩)]) [cl c1 29 [.pointer (some ⟨p,0,none⟩)],cl c2 132 [.string sp.a,.string sp.b],cl c3 105 [.pointer (some ⟨t.q,0,none⟩)],Gs p dp s,Txs (A++B),cl t.q 116 [.int .u32 t.num.toNat,t.sv.v]] numV (fun _=>pu True) (fun xs=>xs.Perm (underL s.txs t.id sp)) (fun pre=>∃ r,(pre++r).Perm (underL s.txs t.id sp)) [Gs p dp s,Txs (A++B),cl t.q 116 [.int .u32 t.num.toNat,t.sv.v]]:=by
 intro y J X cont hy
 refine Spec.intro Tryz.func139 rfl Tryz.ntmps139 rfl fun R K hK=>?_
 refine WP.opn (Gs_op (p:=p) (dp:=dp) (s:=s)) fun x=>?_
 obtain ⟨lp,mp,nm,lm,sv⟩:=x
 dsimp only
 refine WP.seq<|WP.reg<|WL.e (e_load a29)<|WL.e e_nil<|WL.e (e_fa f93_5)<|WL.e (e_load a90) ?_
 refine WL.h (h_range (kvs:=List.map kvT s.txs) Tryz.underlying90 fun it=>?_)
 refine WL.next<|WP.block<|WP.loopK (fun (x:List TxV × List UInt32 × Option (UInt32 × Value))=>[]) (fun (x:List TxV × List UInt32 × Option (UInt32 × Value))=>MpIt eU32 lm it (List.map kvT s.txs) (List.map kvT x.1) x.2.2::J x.2.1::cl p 93 [.pointer (some ⟨lp,0,none⟩),.pointer (some ⟨mp,0,none⟩),nm,.int .u32 s.last.toNat,sv.v,lm]::cl lp 156 [.pointer (some ⟨dp,0,none⟩),.int .i64 s.at_]::Dk dp s.d::Mm mp s.rows::Mp eStr nm (List.map numC s.nums)::Sl 139 3 lookC (sv.v) s.looks::cl c1 29 [.pointer (some ⟨p,0,none⟩)]::cl c2 132 [.string sp.a,.string sp.b]::cl c3 105 [.pointer (some ⟨t.q,0,none⟩)]::Txs (A++B)::cl t.q 116 [.int .u32 t.num.toNat,t.sv.v]::R) [(0,_),(2,_),(3,_),(12,_)] (fun (x:List TxV × List UInt32 × Option (UInt32 × Value))=>(∀ y ∈ x.1,y ∈ s.txs)∧(x.2.1++underL x.1 t.id sp).Perm (underL s.txs t.id sp)∧Hist cont x.2.1) (fun (x:List TxV × List UInt32 × Option (UInt32 × Value))=>x.1.length) (s.txs,[],none) (⟨fun _ h=>h,.refl _,Hist.nil⟩) ?_
 rintro ⟨left,pre,cur⟩ ⟨hx1,hx2,hx3⟩
 simp only at hx1 hx2 hx3
 dsimp only
 refine WP.seq<|WP.reg ?_
 refine WL.h (h_next (fun h0=>?_) (fun a y0 b hx=>kv_cases hx t.id (fun A1 y B1 hl ha hy0 hb hid=>?_) (fun A1 y B1 hl ha hy0 hb hid=>?_)))
 ·have hl0:left=[]:=by simpa using h0
  subst hl0
  refine WL.e e_extract<|WL.next<|WP.seq<|WP.cond_f rfl<|WP.exit<|PO.past nofun<|PO.round nofun<|PO.blockX<|PO.cls (A:=Gs p dp (s)) (B:=[cl p 93 [.pointer (some ⟨lp,0,none⟩),.pointer (some ⟨mp,0,none⟩),nm,.int .u32 s.last.toNat,sv.v,lm],cl lp 156 [.pointer (some ⟨dp,0,none⟩),.int .i64 s.at_],Dk dp s.d,Mm mp s.rows,Mp eStr nm (List.map numC s.nums),Sl 139 3 lookC (sv.v) s.looks,Mp eU32 lm (List.map kvT s.txs)]) (fun S h=>⟨⟨lp,mp,nm,lm,sv⟩,h⟩) ?_
  exact PO.fin Tryz.results139 rv_nil (hK.1 pre (by simpa [underL] using hx2) hx3)
 ·subst ha hy0 hb
  have hsub:∀ z ∈ A1++B1,z ∈ s.txs:=fun z hz=>hx1 z (by rw [hl];simp only [List.mem_append,List.mem_cons] at hz ⊢;rcases hz with h | h;exact .inl h;exact .inr (.inr h))
  obtain rfl:y=t:=under_same hts hnd (hx1 y (by simp [hl])) hid
  refine WL.e e_extract<|WL.next<|WP.seq<|WP.cond_t rfl<|WP.skip<|PO.next<|WP.block<|WP.seq<|WP.reg<|WL.e e_entry<|WL.e e_extract<|WL.e e_assign<|WL.next<|WP.seq<|WP.reg<|WL.e e_makeFunc<|WL.e e_assign<|WL.next<|WP.seq<|WP.reg<|WL.e e_move<|WL.e (e_load a105)<|WL.e (e_pp (q:=true) (.inr rfl) Tryz.underlying105 s116 (by decide) rfl rfl (.inl ⟨rfl,rfl,rfl⟩))<|WL.e e_move ?_
  refine WL.bool 21 rfl (fun hg=>?_) (fun hg=>?_)
  ·cases hg 
  ·skip
   refine WL.skip<|WL.skip<|WL.skip<|WL.skip<|WL.skip<|WL.skip<|WL.e e_pick_f<|WL.e e_move<|WL.skip<|WL.skip<|WL.skip<|WL.skip<|WL.skip<|WL.skip<|WL.skip<|WL.skip<|WL.e e_pick_f<|WL.next<|WP.cond_f rfl<|WP.skip<|PO.blockN ?_
   rw [← List.map_append]
   exact PO.againK (A1++B1,pre,_) ⟨hsub,by simp only;rwa [hl,underL_mid,underL_one,if_pos hid,List.nil_append,← underL_app] at hx2,hx3⟩ (by simp only [hl,List.length_append,List.length_cons];omega)
 ·subst ha hy0 hb
  have hsub:∀ z ∈ A1++B1,z ∈ s.txs:=fun z hz=>hx1 z (by rw [hl];simp only [List.mem_append,List.mem_cons] at hz ⊢;rcases hz with h | h;exact .inl h;exact .inr (.inr h))
  have hyin:=hx1 y (by simp [hl])
  obtain ⟨A2,B2,hAB⟩:=mem_mid (under_other hts hyin hid)
  have hpp:changes y sp=true→(pre++underL left t.id sp).Perm (pre++([y.num]++(underL A1 t.id sp++underL B1 t.id sp))):=fun h=>by rw [hl,underL_mid,underL_one,if_neg hid,h,if_pos rfl];exact (List.Perm.append_left _ (List.perm_append_comm_assoc _ _ _))
  refine WL.opn (Txs_out hAB) fun _=>?_
  refine WL.e e_extract<|WL.next<|WP.seq<|WP.cond_t rfl<|WP.skip<|PO.next<|WP.block<|WP.seq<|WP.reg<|WL.e e_entry<|WL.e e_extract<|WL.e e_assign<|WL.next<|WP.seq<|WP.reg<|WL.e e_makeFunc<|WL.e e_assign<|WL.next<|WP.seq<|WP.reg<|WL.e e_move<|WL.e (e_load a105)<|WL.e (e_pp (q:=false) (.inr rfl) Tryz.underlying105 s116 (by decide) rfl rfl (.inr ⟨rfl,_,_,_,_,_,_,by repeat first | exact .z | apply Pick.s,by repeat first | exact .z | apply Pick.s⟩))<|WL.e e_move ?_
  refine WL.bool 21 rfl (fun hg=>?_) (fun hg=>?_)
  ·skip
   refine WL.e e_move<|WL.e e_nil<|WL.e (e_fa f116_1)<|WL.e (e_load a96)<|WL.e e_move ?_
   refine WL.h (h_call (ContainsC_spec (p:=fun c=>meet (one c.key) sp) sl_rl (hown y hyin) (fun x=>CallV.of_spec (fs:=[]) (cs:=[.pointer (some ⟨c2,0,none⟩)]) (und1_spec x sp) k140)) k117 ?_)
   refine WL.e e_pick_t<|WL.e e_move ?_
   refine WL.bool 29 rfl (fun hch=>?_) (fun hch=>?_)
   ·skip
    refine WL.e e_move<|WL.e e_move<|WL.e e_nil<|WL.e (e_fa f116_0)<|WL.e (e_fa f114_0)<|WL.e (e_load a48) ?_
    refine WL.h (HO.conv (fun S h=>pu_stars trivial h) (h_cally (hy pre y.num ⟨_,by rw [List.append_assoc];exact (hpp hch).symm.trans hx2⟩ hx3) ?_))
    refine ⟨fun hcc=>?_,fun hcc=>?_⟩
    ·skip
     refine WL.e e_not<|WL.e e_pick_t<|WL.next<|WP.cond_f rfl<|WP.skip<|PO.blockN ?_
     rw [← List.map_append]
     refine PO.cls (A:=Txs (A++B)) (B:=[cl y.q 116 [.int .u32 y.num.toNat,y.sv.v],Sl 123 3 ChgM.c y.sv.v y.own,Txs (A2++B2)]) (fun S h=>hAB ▸ Txs_in S h) ?_
     exact PO.againK (A1++B1,pre++[y.num],_) ⟨hsub,by simp only;rw [underL_app,List.append_assoc];exact (hpp hch).symm.trans hx2,hx3.snoc hcc⟩ (by simp only [hl,List.length_append,List.length_cons];omega)
    ·skip
     refine WL.e e_not<|WL.e e_pick_t<|WL.next<|WP.cond_t rfl<|WP.ret<|PO.blockR<|PO.round nofun<|PO.blockR<|PO.cls (A:=Txs (A++B)) (B:=[cl y.q 116 [.int .u32 y.num.toNat,y.sv.v],Sl 123 3 ChgM.c y.sv.v y.own,Txs (A2++B2)]) (fun S h=>hAB ▸ Txs_in S h) ?_
     refine PO.conv (conv1 (A:=MpIt eU32 lm it (List.map kvT s.txs) _ _) (B:=Mp eU32 lm (List.map kvT s.txs)) MpIt_Mp (by repeat first | exact .z | apply Put.s)) ?_
     refine PO.cls (A:=Gs p dp (s)) (B:=[cl p 93 [.pointer (some ⟨lp,0,none⟩),.pointer (some ⟨mp,0,none⟩),nm,.int .u32 s.last.toNat,sv.v,lm],cl lp 156 [.pointer (some ⟨dp,0,none⟩),.int .i64 s.at_],Dk dp s.d,Mm mp s.rows,Mp eStr nm (List.map numC s.nums),Sl 139 3 lookC (sv.v) s.looks,Mp eU32 lm (List.map kvT s.txs)]) (fun S h=>⟨⟨lp,mp,nm,lm,sv⟩,h⟩) ?_
     exact PO.fin Tryz.results139 rv_nil (hK.2 pre y.num ⟨_,by rw [List.append_assoc];exact (hpp hch).symm.trans hx2⟩ hx3 hcc)
   ·skip
    refine WL.skip<|WL.skip<|WL.skip<|WL.skip<|WL.skip<|WL.skip<|WL.skip<|WL.skip<|WL.e e_pick_f<|WL.next<|WP.cond_f rfl<|WP.skip<|PO.blockN ?_
    rw [← List.map_append]
    refine PO.cls (A:=Txs (A++B)) (B:=[cl y.q 116 [.int .u32 y.num.toNat,y.sv.v],Sl 123 3 ChgM.c y.sv.v y.own,Txs (A2++B2)]) (fun S h=>hAB ▸ Txs_in S h) ?_
    exact PO.againK (A1++B1,pre,_) ⟨hsub,by simp only;rwa [hl,underL_mid,underL_one,if_neg hid,show changes y sp=false from hch,if_neg (by simp),List.nil_append,← underL_app] at hx2,hx3⟩ (by simp only [hl,List.length_append,List.length_cons];omega)
  ·cases hg 
theorem under_spec {g:World} {p q:Nat} (sp:SpanM):Spec Tryz.prog g 55 [.pointer (some ⟨p,0,none⟩),.pointer (some ⟨q,0,none⟩),sp.v] [] fun K R=>∀ c1 c2 c3,K (.func (.func 139) #[] #[.pointer (some ⟨c1,0,none⟩),.pointer (some ⟨c2,0,none⟩),.pointer (some ⟨c3,0,none⟩)]) (cl c1 29 [.pointer (some ⟨p,0,none⟩)]::cl c2 132 [.string sp.a,.string sp.b]::cl c3 105 [.pointer (some ⟨q,0,none⟩)]::R):=by
 refine Spec.intro Tryz.func55 rfl Tryz.ntmps55 rfl fun R K hK=>?_
 refine WP.seq<|WP.reg ?_
 refine WL.h (h_box fun b1=>?_)
 refine WL.h (h_box fun b2=>?_)
 refine WL.h (h_box fun b3=>?_)
 refine WL.e e_assign<|WL.next<|WP.seq<|WP.reg<|WL.e e_makeFunc<|WL.e e_assign<|WL.next<|WP.ret ?_
 exact PO.fin Tryz.results55 (rv_tmp rv_nil) (hK b1 b3 b2)
theorem late1_spec {g:World} (x:UInt32 × SpanM) {b1 b2:Nat} (t:TxV) (sp:SpanM):Spec Tryz.prog g 138 [.agg (lookC x).toArray,.pointer (some ⟨b1,0,none⟩),.pointer (some ⟨b2,0,none⟩)] [cl b1 105 [.pointer (some ⟨t.q,0,none⟩)],cl b2 132 [.string sp.a,.string sp.b],cl t.q 116 [.int .u32 t.num.toNat,t.sv.v]] fun K R=>K (.bool (decide (t.num < x.1) && meet x.2 sp)) (cl b1 105 [.pointer (some ⟨t.q,0,none⟩)]::cl b2 132 [.string sp.a,.string sp.b]::cl t.q 116 [.int .u32 t.num.toNat,t.sv.v]::R):=by
 refine Spec.intro Tryz.func138 rfl Tryz.ntmps138 rfl fun R K hK=>?_
 refine WP.seq<|WP.reg ?_
 refine WL.h (h_box fun b1=>?_)
 refine WL.e e_assign<|WL.next<|WP.seq<|WP.draws mixedOk 16<|RW.e 0 rfl (e_fa f139_0)<|RW.e 1 rfl (e_fa f114_0)<|RW.e 2 rfl (e_load a48)<|RW.e 3 rfl (e_load a105)<|RW.e 4 rfl e_nil<|RW.e 5 rfl (e_fa f116_0)<|RW.e 6 rfl (e_fa f114_0)<|RW.e 7 rfl (e_load a48)<|RW.e 8 rfl (e_gtr32)<|RW.e 9 rfl e_move ?_
 refine RW.bool 14 rfl (fun h=>?_) (fun h=>?_)
 ·skip
  refine RW.e 10 rfl (e_fa f139_1)<|RW.e 11 rfl (e_loadN a132)<|RW.e 12 rfl (e_loadN a132) ?_
  refine RW.any (is:=[13]) rfl ⟨?_,trivial⟩
  refine RWat.h rfl rfl rfl ?_
  refine (h_call (Meet_spec ⟨_,_⟩ ⟨_,_⟩) k135 ?_)
  refine ⟨trivial,?_⟩
  refine RW.e 14 rfl e_pick_t<|RW.e 15 rfl e_assign<|RW.done<|PO.next<|WP.ret ?_
  exact PO.finE Tryz.results138 (rv_tmp rv_nil) (by simp [h]) hK
 ·skip
  refine RW.skip 10 rfl<|RW.skip 11 rfl<|RW.skip 12 rfl<|RW.skip 13 rfl<|RW.e 14 rfl e_pick_f<|RW.e 15 rfl e_assign<|RW.done<|PO.next<|WP.ret ?_
  exact PO.finE Tryz.results138 (rv_tmp rv_nil) (by simp [h]) hK
def LtJ (b1 b3 q:Nat) (b:Bool):HP:=fun S=>∃ _:Unit,stars [cl b1 105 [.pointer (some ⟨q,0,none⟩)],cl b3 4 [.bool b]] S
def LtX (b1 b3 q:Nat) (j:Code):HP:=fun S=>∃ _:{ u:Unit // j=.ret },stars [cl b1 105 [.pointer (some ⟨q,0,none⟩)],cl b3 4 [.bool true]] S
theorem late_spec {g:World} {p dp:Nat} {s:GamV} {t:TxV} {A B:List TxV} (sp:SpanM) (w:Bool) (hts:s.txs=A++t::B) (hnd:(s.txs.map (·.id)).Nodup) (hown:∀ x ∈ s.txs,x.own.length≤68719476736) (hn:s.looks.length≤68719476736) :
  Spec Tryz.prog g 54 [.pointer (some ⟨p,0,none⟩),.pointer (some ⟨t.q,0,none⟩),sp.v,.bool w] [Gs p dp s,Txs (A++B),cl t.q 116 [.int .u32 t.num.toNat,t.sv.v]] fun K R=>K (.bool (lateG s t sp w)) (Gs p dp s::Txs (A++B)::cl t.q 116 [.int .u32 t.num.toNat,t.sv.v]::R):=by
 refine Spec.intro Tryz.func54 rfl Tryz.ntmps54 rfl fun R K hK=>?_
 refine WP.opn (Gs_op (p:=p) (dp:=dp) (s:=s)) fun x=>?_
 obtain ⟨lp,mp,nm,lm,sv⟩:=x
 dsimp only
 refine WP.seq<|WP.reg ?_
 refine WL.h (h_box fun b1=>?_)
 refine WL.h (h_box fun b2=>?_)
 refine WL.h (h_alloc z4 fun b3=>?_)
 refine WL.next<|WP.seq<|WP.seq<|WP.reg<|WL.e e_move<|WL.e e_nil<|WL.e (e_fa f93_2)<|WL.e (e_load a89) ?_
 refine WL.h (h_range (kvs:=List.map numC s.nums) Tryz.underlying89 fun it=>?_)
 refine WL.next<|WP.block<|WP.loopK (fun (x:List (ByteArray × UInt32) × Option (ByteArray × Value))=>[]) (fun (x:List (ByteArray × UInt32) × Option (ByteArray × Value))=>MpIt eStr nm it (List.map numC s.nums) (List.map numC x.1) x.2::cl p 93 [.pointer (some ⟨lp,0,none⟩),.pointer (some ⟨mp,0,none⟩),nm,.int .u32 s.last.toNat,sv.v,lm]::cl lp 156 [.pointer (some ⟨dp,0,none⟩),.int .i64 s.at_]::Dk dp s.d::Mm mp s.rows::Sl 139 3 lookC (sv.v) s.looks::Mp eU32 lm (List.map kvT s.txs)::cl b1 105 [.pointer (some ⟨t.q,0,none⟩)]::cl b2 132 [.string sp.a,.string sp.b]::cl b3 4 [.bool false]::cl t.q 116 [.int .u32 t.num.toNat,t.sv.v]::Txs (A++B)::R) [(0,_),(3,_),(5,_),(6,_),(8,_),(16,_)] (fun (x:List (ByteArray × UInt32) × Option (ByteArray × Value))=>numsLate x.1 t.num sp=numsLate s.nums t.num sp) (fun (x:List (ByteArray × UInt32) × Option (ByteArray × Value))=>x.1.length) (s.nums,none) (rfl) ?_
 rintro ⟨left,cur⟩ hx1
 simp only at hx1
 dsimp only
 refine WP.seq<|WP.reg ?_
 refine WL.h (h_next (fun h0=>?_) (fun a y0 b hx=>?_))
 ·have hl0:left=[]:=by simpa using h0
  subst hl0
  have hl1:numsLate s.nums t.num sp=false:=by rw [← hx1];rfl
  refine WL.e e_extract<|WL.next<|WP.seq<|WP.cond_f rfl<|WP.exit<|PO.past nofun<|PO.round nofun<|PO.blockX<|PO.next<|WP.seq<|WP.seq<|WP.reg<|WL.e e_move<|WL.e e_not<|WL.next ?_
  refine WP.cond rfl (fun hw=>?_) (fun hw=>?_)
  ·replace hw:w=false:=by simpa using hw
   refine WP.seq<|WP.reg ?_
   refine WL.h' (h_store s4 ?_)
   refine WL.next<|WP.ret<|PO.past nofun<|PO.cls (A:=Gs p dp (s)) (B:=[cl p 93 [.pointer (some ⟨lp,0,none⟩),.pointer (some ⟨mp,0,none⟩),nm,.int .u32 s.last.toNat,sv.v,lm],cl lp 156 [.pointer (some ⟨dp,0,none⟩),.int .i64 s.at_],Dk dp s.d,Mm mp s.rows,Mp eStr nm (List.map numC s.nums),Sl 139 3 lookC (sv.v) s.looks,Mp eU32 lm (List.map kvT s.txs)]) (fun S h=>⟨⟨lp,mp,nm,lm,sv⟩,h⟩) ?_
   exact PO.fin Tryz.results54 (rv_cell a4 rv_nil) (by simpa [lateG,hl1,hw] using hK)
  ·replace hw:w=true:=by simpa using hw
   refine WP.skip<|PO.next<|WP.seq<|WP.seq<|WP.reg<|WL.e e_move<|WL.e (e_load a105)<|WL.e (e_loadN a132) ?_
   refine WL.h (h_call (under_spec sp) k55 ?_)
   intro c1 c2 c3
   refine WL.next<|WP.block<|WP.cls (A:=Gs p dp (s)) (B:=[cl p 93 [.pointer (some ⟨lp,0,none⟩),.pointer (some ⟨mp,0,none⟩),nm,.int .u32 s.last.toNat,sv.v,lm],cl lp 156 [.pointer (some ⟨dp,0,none⟩),.int .i64 s.at_],Dk dp s.d,Mm mp s.rows,Mp eStr nm (List.map numC s.nums),Sl 139 3 lookC (sv.v) s.looks,Mp eU32 lm (List.map kvT s.txs)]) (fun S h=>⟨⟨lp,mp,nm,lm,sv⟩,h⟩) ?_
   refine WP.cls (A:=LtJ b1 b3 t.q false) (B:=[cl b1 105 [.pointer (some ⟨t.q,0,none⟩)],cl b3 4 [.bool false]]) (fun S h=>⟨(),h⟩) ?_
   refine WP.rangeL (R:=?RR) (f:=139) (fs:=[]) (cs:=[.pointer (some ⟨c1,0,none⟩),.pointer (some ⟨c2,0,none⟩),.pointer (some ⟨c3,0,none⟩)]) (fun _=>LtJ b1 b3 t.q false) (fun _ _=>LtX b1 b3 t.q) (fun _ x=>¬ t.num < x) (under_iter (c1:=c1) (c2:=c2) (c3:=c3) (p:=p) (dp:=dp) (s:=s) (t:=t) (A:=A) (B:=B) (sp:=sp) hts hnd hown) k139 ?hLL ?_ ?_ ?_ (fun _=>rfl)
   case hLL=>repeat first | exact .nil | exact Pick.z | apply Pick.s | apply Split.cons
   ·rintro lb db fn tmps pre x R2 hp hh
    refine WP.opn (B:=fun _:Unit=>[cl b1 105 [.pointer (some ⟨t.q,0,none⟩)],cl b3 4 [.bool false]]) (fun _ h=>h) fun _=>?_
    refine WP.reg<|WL.e e_assign<|WL.nil<|PO.asg rfl (by repeat first | exact .z | apply Put.s)<|WP.block<|WP.seq<|WP.reg<|WL.e e_move<|WL.e (e_load a105)<|WL.e e_nil<|WL.e (e_fa f116_0)<|WL.e (e_fa f114_0)<|WL.e (e_load a48)<|WL.e (e_gtr32)<|WL.next ?_
    refine WP.cond rfl (fun h5=>?_) (fun h5=>?_)
    ·skip
     refine WP.seq<|WP.reg ?_
     refine WL.h' (h_store s4 ?_)
     refine WL.next<|WP.ret<|PO.blockR<|PO.cls (A:=LtX b1 b3 t.q .ret) (B:=[cl b1 105 [.pointer (some ⟨t.q,0,none⟩)],cl b3 4 [.bool true]]) (fun S h=>⟨⟨(),rfl⟩,h⟩) ?_
     exact PO.rnd_ret (by simpa using h5) (by repeat first | exact .refl | exact Pick.z | apply Pick.s | apply Sub.cons | apply Sub.drop)
    ·skip
     refine WP.skip<|PO.blockN<|PO.cls (A:=LtJ b1 b3 t.q false) (B:=[cl b1 105 [.pointer (some ⟨t.q,0,none⟩)],cl b3 4 [.bool false]]) (fun S h=>⟨(),h⟩) ?_
     exact PO.rnd (by simpa using h5) (by repeat first | exact .refl | exact Pick.z | apply Pick.s | apply Sub.cons | apply Sub.drop)
   ·intro db xs hx hh
    have hu1:(underL s.txs t.id sp).any (fun n=>decide (t.num < n))=false:=by rw [List.any_eq_false];intro n hn;have:=hist_all hh n (hx.symm.subset hn);simpa using this
    refine PO.opn (B:=fun _:Unit=>[cl b1 105 [.pointer (some ⟨t.q,0,none⟩)],cl b3 4 [.bool false]]) (fun _ h=>h) fun _=>?_
    refine PO.opn (Gs_op (p:=p) (dp:=dp) (s:=s)) fun x=>?_
    obtain ⟨lp,mp,nm,lm,sv⟩:=x
    dsimp only
    refine PO.blockN<|PO.next<|WP.seq<|WP.reg<|WL.e e_move<|WL.e e_nil<|WL.e (e_fa f93_4)<|WL.e (e_load a91)<|WL.e e_makeFunc<|WL.cls (A:=bun [cl b1 105 [.pointer (some ⟨t.q,0,none⟩)],cl b2 132 [.string sp.a,.string sp.b],cl t.q 116 [.int .u32 t.num.toNat,t.sv.v]]) (B:=[cl b1 105 [.pointer (some ⟨t.q,0,none⟩)],cl b2 132 [.string sp.a,.string sp.b],cl t.q 116 [.int .u32 t.num.toNat,t.sv.v]]) (fun S h=>h) ?_
    refine WL.h (h_call (ContainsL_spec sl_rl hn (fun x=>CallV.bun (CallV.of_spec (fs:=[]) (cs:=[.pointer (some ⟨b1,0,none⟩),.pointer (some ⟨b2,0,none⟩)]) (late1_spec x t sp) k138))) k137 ?_)
    show WL _ _ _ _ _ _ _ _
    refine WL.open_ (k:=?_)
    refine WL.h' (h_store s4 ?_)
    refine WL.next<|WP.ret<|PO.cls (A:=Gs p dp (s)) (B:=[cl p 93 [.pointer (some ⟨lp,0,none⟩),.pointer (some ⟨mp,0,none⟩),nm,.int .u32 s.last.toNat,sv.v,lm],cl lp 156 [.pointer (some ⟨dp,0,none⟩),.int .i64 s.at_],Dk dp s.d,Mm mp s.rows,Mp eStr nm (List.map numC s.nums),Sl 139 3 lookC (sv.v) s.looks,Mp eU32 lm (List.map kvT s.txs)]) (fun S h=>⟨⟨lp,mp,nm,lm,sv⟩,h⟩) ?_
    exact PO.finM (by repeat first | exact .z | apply Put.s) Tryz.results54 (rv_cell a4 rv_nil) (by simpa [lateG,hl1,hw,hu1] using hK)
   ·intro db pre x j hp hh hc
    have hu1:(underL s.txs t.id sp).any (fun n=>decide (t.num < n))=true:=by obtain ⟨r,hr⟩:=hp;rw [List.any_eq_true];exact ⟨x,hr.subset (by simp),by simpa using hc⟩
    refine WP.opn (B:=fun sv:{ u:Unit // j=.ret }=>[cl b1 105 [.pointer (some ⟨t.q,0,none⟩)],cl b3 4 [.bool true]]) (fun _ h=>h) fun u=>?_
    obtain ⟨_,rfl⟩:=u
    refine WP.ret<|PO.blockR<|PO.past nofun ?_
    exact PO.finM (by repeat first | exact .z | apply Put.s) Tryz.results54 (rv_cell a4 rv_nil) (by simpa [lateG,hl1,hw,hu1] using hK)
 ·obtain ⟨A1,y,B1,hl,rfl,rfl,rfl⟩:=map_mid hx
  refine WL.e e_extract<|WL.next<|WP.seq<|WP.cond_t rfl<|WP.skip<|PO.next<|WP.block<|WP.seq<|WP.reg<|WL.e e_entry<|WL.e e_extract<|WL.e e_extract<|WL.e e_assign<|WL.e e_assign<|WL.next<|WP.seq<|WP.draws mixedOk 13<|RW.e 0 rfl e_move<|RW.e 1 rfl (e_load a105)<|RW.e 2 rfl e_nil<|RW.e 3 rfl (e_fa f116_0)<|RW.e 4 rfl (e_fa f114_0)<|RW.e 5 rfl (e_load a48)<|RW.e 6 rfl (e_gtr32) ?_
  refine RW.e 7 rfl e_move ?_
  refine RW.bool 29 rfl (fun h2=>?_) (fun h2=>?_)
  ·skip
   refine RW.e 8 rfl e_move<|RW.e 10 rfl (e_loadN a132) ?_
   refine RW.any (is:=[9]) rfl ⟨?_,trivial⟩
   refine RWat.h rfl rfl rfl ?_
   refine (h_call (one_spec _) k136 ?_)
   refine ⟨⟨⟨_,rfl,.inl ⟨rfl,(e_loadN a132)⟩⟩,trivial⟩,?_⟩
   refine RW.any (is:=[11]) rfl ⟨?_,trivial⟩
   refine RWat.h rfl rfl rfl ?_
   refine (h_call (Meet_spec ⟨_,_⟩ ⟨_,_⟩) k135 ?_)
   refine ⟨trivial,?_⟩
   refine RW.e 12 rfl e_pick_t<|RW.done<|PO.next ?_
   refine WP.cond rfl (fun h3=>?_) (fun h3=>?_)
   ·replace h3:meet (one y.1) sp=true:=h3
    have h9:numsLate s.nums t.num sp=true:=by rw [← hx1,hl,numsLate_mid,h2,h3];simp
    refine WP.seq<|WP.reg ?_
    refine WL.h' (h_store s4 ?_)
    refine WL.next<|WP.ret<|PO.blockR<|PO.round nofun<|PO.blockR<|PO.past nofun<|PO.conv (conv1 (A:=MpIt eStr nm it (List.map numC s.nums) _ _) (B:=Mp eStr nm (List.map numC s.nums)) MpIt_Mp (by repeat first | exact .z | apply Put.s)) ?_
    refine PO.cls (A:=Gs p dp (s)) (B:=[cl p 93 [.pointer (some ⟨lp,0,none⟩),.pointer (some ⟨mp,0,none⟩),nm,.int .u32 s.last.toNat,sv.v,lm],cl lp 156 [.pointer (some ⟨dp,0,none⟩),.int .i64 s.at_],Dk dp s.d,Mm mp s.rows,Mp eStr nm (List.map numC s.nums),Sl 139 3 lookC (sv.v) s.looks,Mp eU32 lm (List.map kvT s.txs)]) (fun S h=>⟨⟨lp,mp,nm,lm,sv⟩,h⟩) ?_
    exact PO.fin Tryz.results54 (rv_cell a4 rv_nil) (by simpa [lateG,h9] using hK)
   ·replace h3:meet (one y.1) sp=false:=h3
    refine WP.skip<|PO.blockN ?_
    rw [← List.map_append]
    exact PO.againK (A1++B1,_) (by simp only;rw [← hx1,hl,numsLate_mid,h2];simp [h3]) (by simp only [hl,List.length_append,List.length_cons];omega)
  ·skip
   refine RW.skip 8 rfl<|RW.skip 9 rfl<|RW.skip 10 rfl<|RW.skip 11 rfl<|RW.e 12 rfl e_pick_f<|RW.done<|PO.next<|WP.cond_f rfl<|WP.skip<|PO.blockN ?_
   rw [← List.map_append]
   exact PO.againK (A1++B1,_) (by simp only;rw [← hx1,hl,numsLate_mid,h2];simp) (by simp only [hl,List.length_append,List.length_cons];omega)
end Go.SL
set_option linter.unusedSectionVars false
namespace Go.SL
open Go
inductive DoR
  | err (s:GamV) (e:Nat)
  | put (t:TxV) (c:ChgM)
  | look (t:TxV)
def doG (s:GamV) (n:UInt32) (x:OpM):DoR:=
  if opOk x then match findT s.txs n with
    | none=>.err s 6
    | some t=>if lateG s t (spanOf x) (writes x) then .err (endsG s n) 9
      else if (underL s.txs t.id (spanOf x)).any (fun m=>decide (m < t.num)) then .err s 8
      else if writes x then .put t (chgOf x) else .look t
  else .err s 1
def putT (ts:List TxV) (n:UInt32) (c:ChgM) (sv:SV):List TxV:=ts.map fun o=>if o.id=n then { o with own:=o.own++[c],sv:=sv } else o
def putG (s:GamV) (n:UInt32) (c:ChgM) (sv:SV):GamV:={ s with txs:=putT s.txs n c sv }
def lookG (s:GamV) (t:TxV) (p:SpanM):GamV:={ s with looks:=s.looks++[(t.num,p)] }
theorem putT_kv (ts:List TxV) (n:UInt32) (c:ChgM) (sv:SV):(putT ts n c sv).map kvT=ts.map kvT:=by
  unfold putT
  rw [List.map_map]
  apply List.map_congr_left
  intro o _
  simp only [Function.comp]
  split <;> rfl
theorem putT_mid {A B:List TxV} {t:TxV} (h:((A++t::B).map (·.id)).Nodup) (c:ChgM) (sv:SV):putT (A++t::B) t.id c sv=A++{ t with own:=t.own++[c],sv:=sv }::B:=by
  have hn:=nodup_mid h
  unfold putT
  rw [List.map_append,List.map_cons,if_pos rfl]
  have e1:∀ l:List TxV,(∀ x ∈ l,x.id≠t.id)→l.map (fun o=>if o.id=t.id then { o with own:=o.own++[c],sv:=sv } else o)=l:=fun l hl=>by
    conv=>rhs;rw [← List.map_id l]
    apply List.map_congr_left
    intro o ho
    rw [if_neg (hl o ho)];rfl
  rw [e1 A (fun x hx=>hn x (by simp [hx])),e1 B (fun x hx=>hn x (by simp [hx]))]
theorem Gs_txs {p dp:Nat} {s:GamV} {ts:List TxV} (h:ts.map kvT=s.txs.map kvT):∀ S,Gs p dp s S→Gs p dp { s with txs:=ts } S:=fun S hS=>by
  obtain ⟨x,hx⟩:=hS
  exact ⟨x,by simp only [h];exact hx⟩
def recG (t:TxV):List UInt8:=numB t.num 4++chgsB t.own
def fitsG (s:GamV) (t:TxV):Prop:=(recG t).length≤16384∧s.at_+secs (recG t).length≤s.d.sure.length
instance (s:GamV) (t:TxV):Decidable (fitsG s t):=by unfold fitsG;infer_instance
def commG (s:GamV) (n:UInt32) (t:TxV):GamV:=
  let e:=endsG s n
  if fitsG s t then { e with d:=(addW s.d s.at_ (frame (recG t)) (secs (recG t).length)).sync,at_:=s.at_+secs (recG t).length,rows:=changeR s.rows t.own,nums:=keptG s.nums t.num t.own } else e
theorem GamOk.bad {s:GamV} {b:Nat} (h:GamOk s b) {t:TxV} (ht:t ∈ s.txs):t.own.any (fun c=>!chgOk c)=false:=by
  rw [List.any_eq_false]
  intro c hc
  simp [h.own t ht c hc]
theorem find_mem {ts:List TxV} {n:UInt32} {t:TxV} (h:findT ts n=some t):t ∈ ts:=List.mem_of_find?_eq_some h
def comG (s:GamV) (n:UInt32):GamV:=match findT s.txs n with
  | none=>s
  | some t=>commG s n t
def comEg (s:GamV) (n:UInt32):Nat:=match findT s.txs n with
  | none=>6
  | some t=>if fitsG s t then 0 else 5
def comNg (s:GamV) (n:UInt32):UInt32:=match findT s.txs n with
  | none=>0
  | some t=>if fitsG s t then t.num else 0
def begEg (s:GamV) (n:UInt32):Nat:=if n=0 then 1 else if (findT s.txs n).isSome then 7 else if 32≤s.txs.length then 5 else 0
def begG (s:GamV) (n:UInt32) (q:Nat):GamV:=if begEg s n=0 then { s with last:=s.last+1,txs:=s.txs++[⟨n,s.last+1,[],q,⟨none,0,0⟩⟩] } else s
def aboEg (s:GamV) (n:UInt32):Nat:=if (findT s.txs n).isSome then 0 else 6
def aboG (s:GamV) (n:UInt32):GamV:=if (findT s.txs n).isSome then endsG s n else s
theorem comG_txs {s:GamV} {n:UInt32} {t:TxV} (h:findT s.txs n=some t):(comG s n).txs=delT s.txs n:=by
  unfold comG;rw [h];simp only [commG];split <;> rfl
theorem recG_len (t:TxV):(recG t).length=6+(t.own.flatMap chgB).length:=by
  simp only [recG,chgsB,List.length_append,numB_len];omega
theorem not_fits {s:GamV} {t:TxV} (h:¬ t.own.length≤4096):¬ fitsG s t:=fun hf=>by
  have h1:=hf.1
  rw [recG_len] at h1
  have:=(chgs_len t.own).1
  omega
end Go.SL
