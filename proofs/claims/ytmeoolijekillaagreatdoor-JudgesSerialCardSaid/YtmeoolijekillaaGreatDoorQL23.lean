import Derived.Test.YtmeoolijekillaaGreatDoorQL22
set_option linter.unusedSimpArgs false
set_option linter.unusedVariables false
set_option linter.unusedSectionVars false
namespace Go.SL
open Go
def RkE (l:List DeedM):Prop:=∃ rk,Ranked (RelE (allE l)) rk
theorem RkE.of {l:List DeedM} (hl:l.length≤1000) (f:Nat→Nat) (h:∀ u v,(u,v) ∈ allE l→f v < f u):RkE l:=by
  refine ⟨fun x=>f (x.toNat - 1),?_⟩
  rintro x y ⟨u,v,hm,rfl,rfl⟩
  have hlt:=edge_lt (Nat.le_refl _) (Nat.zero_le _) hm
  have e:∀ w,w < l.length→(no32 w).toNat - 1=w:=fun w hw=>by
    rw [no32_nat (by omega)]
    omega
  show f _ < f _
  rw [e _ hlt.1,e _ hlt.2]
  exact h u v hm
theorem RkE.nat {l:List DeedM} (h:RkE l):∃ f:Nat→Nat,∀ u v,(u,v) ∈ allE l→f v < f u:=by
  obtain ⟨rk,hr⟩:=h
  exact ⟨fun u=>rk (no32 u),fun u v hm=>hr _ _ ⟨u,v,hm,rfl,rfl⟩⟩
theorem RkE.orders {l:List DeedM} (hl:l.length≤1000) (h:∀ i d,l[i]?=some d→∃ e,l[unitAt l i]?=some e∧e.order=d.order):RkE l:=by
  refine RkE.of hl (fun u=>((l[u]?).map fun d=>d.order.toNat).getD 0) fun u v hm=>?_
  obtain ⟨i,k,hi,hk,he,rfl,rfl⟩:=allE_iff.1 hm
  have hx:l[i]?=some l[i]:=List.getElem?_eq_getElem hi
  have hy:l[k]?=some l[k]:=List.getElem?_eq_getElem hk
  obtain ⟨a,h1,h2⟩:=h i _ hx
  obtain ⟨b,h3,h4⟩:=h k _ hy
  simp only [edgeB,hx,hy,Bool.and_eq_true,decide_eq_true_eq] at he
  simp only [h1,h3,Option.map_some,Option.getD_some,h2,h4]
  exact UInt32.lt_iff_toNat_lt.1 he.1.2
theorem RkE.local {l:List DeedM} (hl:l.length≤1000) (h:∀ d ∈ l,d.g=0):RkE l:=RkE.orders hl fun i d hd=>⟨d,by rw [unitAt_local hd (h d (List.mem_of_getElem? hd))];exact hd,rfl⟩
theorem RkE.cross {l:List DeedM} {u v:Nat} (h1:(u,v) ∈ allE l) (h2:(v,u) ∈ allE l):¬ RkE l:=fun h=>by
  obtain ⟨f,hf⟩:=h.nat
  have:=hf _ _ h1
  have:=hf _ _ h2
  omega
def dd (g:UInt32) (s:UInt8) (o:UInt32):DeedM:=⟨g,s,o,⟨none,0,0⟩,⟨none,0,0⟩⟩
def two:List DeedM:=[dd 0 1 2,dd 0 1 1]
theorem two_out {out:List Nat} (h:OutOk two out):out=[1,0]:=by
  obtain ⟨hp,hw⟩:=h
  have hlen:=hp.length_eq
  have h0:(0:Nat) ∈ out:=hp.mem_iff.2 (by decide)
  have h1:(1:Nat) ∈ out:=hp.mem_iff.2 (by decide)
  match out,hlen with
  | [a,b],_=>
    have hb:before two a b:=by
      have:=List.pairwise_cons.1 hw
      exact this.1 b (by simp)
    have hno:¬ (a=0∧b=1):=by
      rintro ⟨rfl,rfl⟩
      have:=hb (dd 0 1 2) (dd 0 1 1) rfl rfl rfl
      revert this;decide
    simp only [List.mem_cons,List.not_mem_nil,or_false] at h0 h1
    have:a=1∧b=0:=by omega
    rw [this.1,this.2]
def four_:List DeedM:=[dd 7 1 1,dd 8 1 2,dd 8 2 1,dd 7 2 2]
theorem four_no:¬ RkE four_:=RkE.cross (u:=1) (v:=0) (by decide) (by decide)
def LocL (l:List DeedM) (i:Nat):Prop:=l.length=i∧(∀ d ∈ l,d.g=0∧1≤d.site.toNat∧d.site.toNat≤3)∧unitsOk l=true
theorem LocL.init:LocL [] 0:=⟨rfl,(fun d h=>by cases h),rfl⟩
theorem unitsOk_snoc {l:List DeedM} (h:unitsOk l=true) {d:DeedM} (hs:1≤d.site.toNat∧d.site.toNat≤3) (hn:∀ e ∈ l,¬ (e.site=d.site∧e.order=d.order)):unitsOk (l++[d])=true:=by
  unfold unitsOk at h ⊢
  rw [List.length_append,List.length_singleton,List.range_succ,List.all_append,Bool.and_eq_true]
  constructor
  · refine List.all_eq_true.2 fun j hj=>?_
    have hlt:=List.mem_range.1 hj
    have:=List.all_eq_true.1 h j hj
    unfold dOkAt at this ⊢
    rw [List.getElem?_append_left hlt,List.take_append_of_le_length (by omega)]
    exact this
  · simp only [List.all_cons,List.all_nil,Bool.and_true]
    unfold dOkAt
    rw [List.getElem?_append_right (Nat.le_refl _),Nat.sub_self]
    simp only [List.getElem?_cons_zero]
    rw [List.take_append_of_le_length (Nat.le_refl _),List.take_length]
    simp only [hs,and_self,decide_true,Bool.true_and,Bool.not_eq_true']
    refine List.any_eq_false.2 fun e he=>?_
    simpa using hn e he
theorem LocL.step {l:List DeedM} {i:Nat} (h:LocL l i) {d:DeedM} (hg:d.g=0) (hs:1≤d.site.toNat∧d.site.toNat≤3) (hn:∀ e ∈ l,¬ (e.site=d.site∧e.order=d.order)):LocL (l++[d]) (i+1):=by
  obtain ⟨h1,h2,h3⟩:=h
  refine ⟨by simp [h1],fun e he=>?_,?_⟩
  · rcases List.mem_append.1 he with he | he
    · exact h2 e he
    · simp only [List.mem_singleton] at he
      subst he;exact ⟨hg,hs⟩
  · exact unitsOk_snoc h3 hs hn
theorem OutOk.len {l:List DeedM} {out:List Nat} (h:OutOk l out):out.length=l.length:=by rw [h.1.length_eq,List.length_range]
theorem OutOk.nodup {l:List DeedM} {out:List Nat} (h:OutOk l out):out.Nodup:=h.1.nodup_iff.2 List.nodup_range
theorem OutOk.ne {l:List DeedM} {out:List Nat} (h:OutOk l out) {i k a b:Nat} (hk:out[k]?=some a) (hi:out[i]?=some b) (hlt:k < i):a≠b:=fun e=>by
  subst e
  have h1:=idx_lt hk
  have h2:=idx_lt hi
  rw [List.getElem?_eq_getElem h1] at hk
  rw [List.getElem?_eq_getElem h2] at hi
  have:=(List.pairwise_iff_getElem.1 h.nodup) k i h1 h2 hlt
  rw [Option.some.inj hk,Option.some.inj hi] at this
  exact this rfl
end Go.SL
namespace Go.SL.Fc
open Go Go.Proofs Go.SL
theorem a136:aggOf Tryz.prog 136=some none:=by kernel_rfl
theorem a137:aggOf Tryz.prog 137=some none:=by kernel_rfl
theorem a33:aggOf Tryz.prog 33=some none:=by kernel_rfl
theorem k116:callable Tryz.prog 116=true:=by kernel_rfl
theorem k117:callable Tryz.prog 117=true:=by kernel_rfl
theorem k118:callable Tryz.prog 118=true:=by kernel_rfl
theorem k119:callable Tryz.prog 119=true:=by kernel_rfl
theorem k178:callable Tryz.prog 178=true:=by kernel_rfl
theorem k73:callable Tryz.prog 73=true:=by kernel_rfl
theorem k74:callable Tryz.prog 74=true:=by kernel_rfl
theorem k75:callable Tryz.prog 75=true:=by kernel_rfl
theorem k76:callable Tryz.prog 76=true:=by kernel_rfl
theorem k77:callable Tryz.prog 77=true:=by kernel_rfl
theorem k78:callable Tryz.prog 78=true:=by kernel_rfl
theorem s136:szOf Tryz.prog 136=some 1:=by kernel_rfl
theorem s33:szOf Tryz.prog 33=some 1:=by kernel_rfl
theorem z136:zeroOf Tryz.prog 136=some [.map none]:=by kernel_rfl
theorem z35:zeroOf Tryz.prog 35=some [.int .u32 0]:=by kernel_rfl
theorem zz33:(Tryz.prog.info? 33).bind (·.zero)=some (.slice none 0 0):=by kernel_rfl
end Go.SL.Fc
namespace Go.SL
open Go Go.Proofs Fc
set_option maxHeartbeats 2000000 in
theorem waits2_spec {g:World} {A B:HP} {u v:Value} {fs ts:List UInt32} (hA:RL A 1 u32C u fs) (hB:RL B 1 u32C v ts) (hl:fs.length=ts.length) (hn:fs.length≤68719476000):Spec Tryz.prog g 73 [u,v] [A,B] fun K R=>∀ mb es,AllOk es fs ts fs.length→KeyW es→es.length≤2 * fs.length→K (.map (some mb)) (Mp eU32 (.map (some mb)) (List.map kvE (es))::Ents 35 1 u32C (es)::A::B::R):=by
 refine Spec.intro Tryz.func73 rfl Tryz.ntmps73 rfl fun R K hK=>?_
 refine WP.seq<|WP.reg<|WL.e e_assign<|WL.next<|WP.seq<|WP.reg ?_
 refine WL.h (h_makeMapB (ek:=eU32) fun mb=>?_)
 refine WL.e e_assign<|WL.next<|WP.seq<|WP.seq<|WP.reg<|WL.e e_move<|WL.e (el_len (xs:=fs) sl33 hA)<|WL.e e_move<|WL.next<|WP.block<|WP.conv (fun S h=>Ents_nil (κ:=UInt32) (E:=35) (z:=1) (enc:=u32C) h) ?_
 refine WP.loopK (fun (x:Nat × List (EntV UInt32 UInt32))=>[(13,.int .i64 x.1)]) (fun (x:Nat × List (EntV UInt32 UInt32))=>Ents 35 1 u32C (x.2)::Mp eU32 (.map (some mb)) (List.map kvE (x.2))::A::B::R) [(1,_),(4,_),(5,_),(11,_),(12,_)] (fun (x:Nat × List (EntV UInt32 UInt32))=>x.1≤fs.length∧AllOk x.2 fs ts x.1∧KeyW x.2∧x.2.length≤2 * x.1) (fun (x:Nat × List (EntV UInt32 UInt32))=>fs.length - x.1) (0,[]) (⟨Nat.zero_le _,AllOk.init _ _,KeyW.init,Nat.zero_le _⟩) ?_
 rintro ⟨i,es⟩ ⟨hi,hO,hW,hel⟩
 simp only at hi hO hW hel
 dsimp only
 refine WP.seq<|WP.reg<|WL.e e_lss<|WL.next<|WP.seq ?_
 refine WP.cond rfl (fun h1=>?_) (fun h1=>?_)
 ·have hlt:i < fs.length:=by rw [decide_eq_true_eq] at h1;omega
  obtain ⟨x,hx⟩:∃ x,fs[i]?=some x:=⟨_,List.getElem?_eq_getElem hlt⟩
  obtain ⟨y,hy⟩:∃ y,ts[i]?=some y:=⟨_,List.getElem?_eq_getElem (by omega)⟩
  have hwl:=hO.len x
  refine WP.opn (Ents_take es x) fun _=>?_
  refine WP.skip<|PO.next<|WP.seq<|WP.block<|WP.seq<|WP.reg<|WL.e e_move<|WL.e (el_ia (j:=i) (xs:=fs) sl33 hA hlt)<|WL.e (el_load0 (j:=i) (a:=x) a35 u32E hA hx)<|WL.e e_assign<|WL.e e_assign<|WL.next<|WP.seq<|WP.draws mixedOk 12<|RW.e 0 rfl e_move<|RW.e 1 rfl e_move<|RW.e 2 rfl e_move<|RW.e 3 rfl e_move<|RW.e 4 rfl (eu_look (k:=x) (es:=es) Tryz.underlying137 (key_u32 Tryz.underlying35) zz33)<|RW.e 5 rfl e_move<|RW.e 6 rfl e_move<|RW.e 7 rfl (el_ia (j:=i) (xs:=ts) sl33 hB (by omega))<|RW.e 8 rfl (el_load0 (j:=i) (a:=y) a35 u32E hB hy) ?_
  refine RW.any (is:=[9]) rfl ⟨?_,trivial⟩
  refine RWat.h rfl rfl rfl ?_
  refine (h_bs sl33 z35 (.o (.tmp 26) rfl<|.n) fun b1=>?_)
  refine ⟨⟨⟨_,rfl,.inl ⟨rfl,(eu_look (k:=x) (es:=es) Tryz.underlying137 (key_u32 Tryz.underlying35) zz33)⟩⟩,⟨_,rfl,.inl ⟨rfl,e_move⟩⟩,⟨_,rfl,.inl ⟨rfl,e_move⟩⟩,⟨_,rfl,.inl ⟨rfl,e_move⟩⟩,⟨_,rfl,.inl ⟨rfl,e_move⟩⟩,trivial⟩,?_⟩
  refine RW.any (is:=[10]) rfl ⟨?_,trivial⟩
  refine RWat.h rfl rfl rfl ?_
  refine (hl_append (xs:=wsE es x) (ys:=[y]) sl33 u32E z35 (lit_rl u32E [y] rfl) (by simp;omega) (fun a5 n5 c5=>?_))
  refine ⟨⟨⟨_,rfl,.inl ⟨rfl,e_move⟩⟩,⟨_,rfl,.inl ⟨rfl,e_move⟩⟩,trivial⟩,?_⟩
  refine RW.any (is:=[11]) rfl ⟨?_,trivial⟩
  refine RWat.h' rfl rfl rfl ?_
  refine (h_mapUpdate (k:=x) (kvs:=List.map kvE es) Tryz.underlying137 (key_u32 Tryz.underlying35) ?_)
  rw [show mset (List.map kvE es) x (.slice a5 n5 c5)=List.map kvE (setE es x ⟨a5,n5,c5⟩ (wsE es x++[y])) from mset_kvE es x ⟨a5,n5,c5⟩ _]
  have hO2:=hO.step hx hy ⟨a5,n5,c5⟩
  refine ⟨trivial,?_⟩
  refine RW.done<|PO.next<|WP.seq<|WP.reg<|WL.e e_move<|WL.e e_move<|WL.e e_move<|WL.e (el_ia (j:=i) (xs:=ts) sl33 hB (by omega))<|WL.e (el_load0 (j:=i) (a:=y) a35 u32E hB hy)<|WL.e (eu_look2 (k:=y) (es:=(setE es x ⟨a5,n5,c5⟩ (wsE es x++[y]))) Tryz.underlying137 (key_u32 Tryz.underlying35) zz33)<|WL.e e_move<|WL.e e_extract<|WL.e e_extract<|WL.e e_assign<|WL.e e_assign<|WL.next<|WP.seq<|WP.reg<|WL.e e_move<|WL.e e_not<|WL.next ?_
  refine WP.cond rfl (fun h6=>?_) (fun h6=>?_)
  ·replace h6:findE (setE es x ⟨a5,n5,c5⟩ (wsE es x++[y])) y=none:=by cases e:findE (setE es x ⟨a5,n5,c5⟩ (wsE es x++[y])) y with
    | none=>rfl
    | some z=>rw [e] at h6;cases h6
   refine WP.reg<|WL.e e_move<|WL.e e_move<|WL.e e_move<|WL.e (el_ia (j:=i) (xs:=ts) sl33 hB (by omega))<|WL.e (el_load0 (j:=i) (a:=y) a35 u32E hB hy) ?_
   refine WL.h' (h_mapUpdate (k:=y) (kvs:=List.map kvE (setE es x ⟨a5,n5,c5⟩ (wsE es x++[y]))) Tryz.underlying137 (key_u32 Tryz.underlying35) ?_)
   rw [show mset (List.map kvE (setE es x ⟨a5,n5,c5⟩ (wsE es x++[y]))) y (.slice none 0 0)=List.map kvE (setE (setE es x ⟨a5,n5,c5⟩ (wsE es x++[y])) y ⟨none,0,0⟩ []) from mset_kvE (setE es x ⟨a5,n5,c5⟩ (wsE es x++[y])) y ⟨none,0,0⟩ []]
   refine WL.nil<|PO.blockN<|PO.next<|WP.reg<|WL.e (e_add rfl rfl (w_i64 (by omega) (by omega)))<|WL.e e_move<|WL.nil<|PO.cls (A:=Ents 35 1 u32C ((setE es x ⟨a5,n5,c5⟩ (wsE es x++[y])))) (B:=[Sl 35 1 u32C (.slice a5 n5 c5) (wsE es x++[y]),Ents 35 1 u32C (delE es x)]) (Ents_put es x ⟨a5,n5,c5⟩ (wsE es x++[y])) ?_
   refine PO.conv (conv1 (A:=Ents 35 1 u32C ((setE es x ⟨a5,n5,c5⟩ (wsE es x++[y])))) (B:=Ents 35 1 u32C (delE (setE es x ⟨a5,n5,c5⟩ (wsE es x++[y])) y)) (fun S h=>by rw [(delE_none h6).1];exact h) (by repeat first | exact .z | apply Put.s)) ?_
   refine PO.nils 35 1 u32C none ?_
   refine PO.cls (A:=Ents 35 1 u32C (setE (setE es x ⟨a5,n5,c5⟩ (wsE es x++[y])) y ⟨none,0,0⟩ [])) (B:=[Sl 35 1 u32C (.slice none 0 0) [],Ents 35 1 u32C (delE (setE es x ⟨a5,n5,c5⟩ (wsE es x++[y])) y)]) (Ents_put (setE es x ⟨a5,n5,c5⟩ (wsE es x++[y])) y ⟨none,0,0⟩ []) ?_
   exact PO.againK (i+1,setE (setE es x ⟨a5,n5,c5⟩ (wsE es x++[y])) y ⟨none,0,0⟩ []) ⟨by simp only;omega,hO2.nil h6 _,hW.new x y _ _ h6,by have h8:=setE_len es x ⟨a5,n5,c5⟩ (wsE es x++[y]);have h9:=setE_len (setE es x ⟨a5,n5,c5⟩ (wsE es x++[y])) y ⟨none,0,0⟩ [];simp only;omega⟩ (by simp only;omega)
  ·replace h6:¬ findE (setE es x ⟨a5,n5,c5⟩ (wsE es x++[y])) y=none:=fun e=>by rw [e] at h6;cases h6
   refine WP.skip<|PO.blockN<|PO.next<|WP.reg<|WL.e (e_add rfl rfl (w_i64 (by omega) (by omega)))<|WL.e e_move<|WL.nil<|PO.cls (A:=Ents 35 1 u32C ((setE es x ⟨a5,n5,c5⟩ (wsE es x++[y])))) (B:=[Sl 35 1 u32C (.slice a5 n5 c5) (wsE es x++[y]),Ents 35 1 u32C (delE es x)]) (Ents_put es x ⟨a5,n5,c5⟩ (wsE es x++[y])) ?_
   exact PO.againK (i+1,(setE es x ⟨a5,n5,c5⟩ (wsE es x++[y]))) ⟨by simp only;omega,hO2,hW.old x y _ h6,by have h8:=setE_len es x ⟨a5,n5,c5⟩ (wsE es x++[y]);simp only;omega⟩ (by simp only;omega)
 ·obtain rfl:i=fs.length:=by rw [decide_eq_false_iff_not] at h1;omega
  refine WP.exit<|PO.past nofun<|PO.round nofun<|PO.blockX<|PO.next<|WP.seq<|WP.reg<|WL.e e_move<|WL.e e_assign<|WL.next<|WP.ret ?_
  exact PO.fin Tryz.results73 (rv_tmp rv_nil) (hK mb es hO hW hel)
theorem IndexU_spec {g:World} {A B:HP} {u y:Value} {xs:List (UInt32)} {p:UInt32→Bool} (hA:RL A 1 u32C u xs) (hn:xs.length≤68719476736) (hy:∀ x ∈ xs,CallV Tryz.prog g y [.int .u32 x.toNat] [B] fun K R=>K (.bool (p x)) (B::R)) :
  Spec Tryz.prog g 119 [u,y] [A,B] fun K R=>K (.int .i64 (if xs.any p then (xs.findIdx p:Nat) else -1)) (A::B::R):=by
 refine Spec.intro Tryz.func119 rfl Tryz.ntmps119 rfl fun R K hK=>?_
 refine WP.seq<|WP.reg<|WL.e e_assign<|WL.next<|WP.seq<|WP.seq<|WP.reg<|WL.e e_move<|WL.e (el_len sl33 hA)<|WL.e e_move<|WL.next<|WP.block<|WP.loopK (fun (i:Nat)=>[(8,.int .i64 i)]) (fun (i:Nat)=>A::B::R) [(0,_),(1,_),(7,_)] (fun (i:Nat)=>i≤xs.length∧(xs.take i).any p=false) (fun (i:Nat)=>xs.length - i) 0 (⟨Nat.zero_le _,by simp⟩) ?_
 rintro i ⟨h1,h2⟩
 refine WP.seq<|WP.reg<|WL.e e_lss<|WL.next<|WP.seq ?_
 refine WP.cond rfl (fun h3=>?_) (fun h3=>?_)
 ·have hlt:i < xs.length:=by rw [decide_eq_true_eq] at h3;omega
  obtain ⟨x,hx⟩:∃ x,xs[i]?=some x:=⟨_,List.getElem?_eq_getElem hlt⟩
  refine WP.skip<|PO.next<|WP.seq<|WP.block<|WP.seq<|WP.reg<|WL.e e_move<|WL.e e_assign<|WL.next<|WP.seq<|WP.reg<|WL.e e_move<|WL.e e_move<|WL.e e_move<|WL.e (el_ia sl33 hA hlt)<|WL.e (el_load0 (a:=x) a35 u32E hA hx) ?_
  refine WL.h (h_cally (hy x (List.mem_of_getElem? hx)) ?_)
  refine WL.next ?_
  refine WP.cond rfl (fun h4=>?_) (fun h4=>?_)
  ·skip
   refine WP.seq<|WP.reg<|WL.e e_move<|WL.e e_assign<|WL.next<|WP.ret<|PO.blockR<|PO.past nofun<|PO.round nofun<|PO.blockR<|PO.past nofun ?_
   exact PO.finE Tryz.results119 (rv_tmp rv_nil) (by rw [index_at h2 hx h4];rfl) hK
  ·skip
   refine WP.skip<|PO.blockN<|PO.next<|WP.reg<|WL.e (e_add rfl rfl (w_i64 (by omega) (by omega)))<|WL.e e_move<|WL.nil ?_
   exact PO.againK (i+1) ⟨by omega,by rw [take_snoc hx,List.any_append,h2];simp [h4]⟩ (by omega)
 ·have hall:xs.any p=false:=by rw [decide_eq_false_iff_not] at h3;rwa [List.take_of_length_le (by omega)] at h2
  refine WP.exit<|PO.past nofun<|PO.round nofun<|PO.blockX<|PO.next<|WP.seq<|WP.reg<|WL.e e_assign<|WL.next<|WP.ret ?_
  exact PO.finE Tryz.results119 (rv_tmp rv_nil) (by rw [hall];rfl) hK
theorem ContainsU_spec {g:World} {A B:HP} {u y:Value} {xs:List (UInt32)} {p:UInt32→Bool} (hA:RL A 1 u32C u xs) (hn:xs.length≤68719476736) (hy:∀ x ∈ xs,CallV Tryz.prog g y [.int .u32 x.toNat] [B] fun K R=>K (.bool (p x)) (B::R)) :
  Spec Tryz.prog g 76 [u,y] [A,B] fun K R=>K (.bool (xs.any p)) (A::B::R):=by
 refine Spec.intro Tryz.func76 rfl Tryz.ntmps76 rfl fun R K hK=>?_
 refine WP.seq<|WP.reg<|WL.e e_assign<|WL.next<|WP.seq<|WP.reg<|WL.e e_move<|WL.e e_move ?_
 refine WL.h (h_call (IndexU_spec hA hn hy) k119 ?_)
 refine WL.e e_geq<|WL.e e_assign<|WL.next<|WP.ret ?_
 exact PO.finE Tryz.results76 (rv_tmp rv_nil) (by cases h:xs.any p <;> simp) hK
theorem DelU_spec {g:World} {u:Value} {xs:List UInt32} {i:Nat} {x:UInt32} (hx:xs[i]?=some x) (hn:xs.length≤68719476736) :
  Spec Tryz.prog g 78 [u,.int .i64 i,.int .i64 (i+1:Nat)] [Sl 35 1 u32C u xs] fun K R=>∀ a m c,K (.slice a m c) (Sl 35 1 u32C (.slice a m c) (xs.eraseIdx i)::R):=by
 obtain ⟨A,D,rfl,rfl⟩:=split_el hx
 rw [erase_mid]
 refine Spec.intro Tryz.func78 rfl Tryz.ntmps78 rfl fun R K hK=>?_
 refine WP.own_open (n:=(A++x::D).length) (by simp;omega) (by exact .z) ?_
 rintro b o c l rfl hnc hc hl hcs
 have hlen:(A++x::D).length=A.length+1+D.length:=by simp;omega
 have hRL:RL (cl b 35 l) 1 u32C (.slice (some ⟨b,o,none⟩) (A++x::D).length c) (A++x::D):=rd_part u32E (At.lit hnc) hl rfl hcs
 have hA0:At (subAt (.slice (some ⟨b,o,none⟩) (A++x::D).length c) 0 A.length c 1) b o A.length c:=by have:=(At.lit (b:=b) (o:=o) hnc).sub (lo:=0) (hi:=A.length) (m:=c) (z:=1) (by omega) (by omega) (Nat.le_refl _);simpa using this
 have hAD:At (subAt (.slice (some ⟨b,o,none⟩) (A++x::D).length c) (A.length+1) (A++x::D).length c 1) b (o+(A.length+1) * 1) D.length (c - (A.length+1)):=by have:=(At.lit (b:=b) (o:=o) hnc).sub (lo:=A.length+1) (hi:=(A++x::D).length) (m:=c) (z:=1) (by omega) (by omega) (Nat.le_refl _);rwa [show (A++x::D).length - (A.length+1)=D.length by omega] at this
 have hD:Rd (cl b 35 l) 1 (subAt (.slice (some ⟨b,o,none⟩) (A++x::D).length c) (A.length+1) (A++x::D).length c 1) D.length (D.flatMap u32C):=rd_part u32E hAD (by omega) rfl (cells_tail u32E hcs)
 refine WP.seq<|WP.reg<|WL.e e_assign<|WL.next<|WP.seq<|WP.reg<|WL.e e_move<|WL.e e_move<|WL.e e_move<|WL.e e_move<|WL.e (el_len sl33 hRL)<|WL.e (e_slice_at (lo:=A.length) (hi:=A.length+1) (m:=(A++x::D).length) (c:=c) (n:=(A++x::D).length) sl33 rfl (At.lit hnc) (.inr ⟨_,_,rfl,rfl⟩) (.inr ⟨_,_,rfl,rfl⟩) (.inr ⟨_,_,rfl,rfl⟩) (by omega) (by omega) hnc)<|WL.next<|WP.seq<|WP.seq<|WP.reg<|WL.e e_move<|WL.e e_move<|WL.e e_eql<|WL.next ?_
 refine WP.cond rfl (fun h1=>?_) (fun h1=>?_)
 ·rw [beq_iff_eq] at h1;omega
 ·skip
  refine WP.skip<|PO.next<|WP.seq<|WP.reg<|WL.e e_move<|WL.e (el_len sl33 hRL)<|WL.e e_assign<|WL.next<|WP.seq<|WP.draws mixedOk 8<|RW.e 0 rfl e_move<|RW.e 1 rfl e_move<|RW.e 2 rfl (e_slice_at (lo:=0) (hi:=A.length) (m:=c) (c:=c) (n:=(A++x::D).length) sl33 rfl (At.lit hnc) (.inl ⟨rfl,rfl⟩) (.inr ⟨_,_,rfl,rfl⟩) (.inl ⟨rfl,rfl⟩) (by omega) (by omega) (Nat.le_refl _))<|RW.e 3 rfl e_move<|RW.e 4 rfl e_move<|RW.e 5 rfl (e_slice_at (lo:=A.length+1) (hi:=(A++x::D).length) (m:=c) (c:=c) (n:=(A++x::D).length) sl33 rfl (At.lit hnc) (.inr ⟨_,_,rfl,rfl⟩) (.inl ⟨rfl,rfl,rfl⟩) (.inl ⟨rfl,rfl⟩) (by omega) (by omega) (Nat.le_refl _)) ?_
  refine RW.any (is:=[6]) rfl ⟨?_,trivial⟩
  refine RWat.h rfl rfl rfl ?_
  refine (h_append_at (n:=A.length) (c:=c) (k:=D.length) (o:=o) (l:=l) (ds:=D.flatMap u32C) sl33 hA0 hl hD (ones_flat u32E D) (by omega) (fun a2 hAt=>?_))
  refine ⟨trivial,?_⟩
  refine RW.any (is:=[7]) rfl ⟨?_,trivial⟩
  refine RWat.h rfl rfl rfl<|HO.of_eo e_assign ?_
  refine ⟨trivial,?_⟩
  refine RW.done<|PO.next<|WP.seq<|WP.reg<|WL.e e_move<|WL.e e_move<|WL.e (e_len_sl sl33)<|WL.e e_move<|WL.e (e_slice_at (lo:=A.length+D.length) (hi:=(A++x::D).length) (m:=c) (c:=c) (n:=A.length+D.length) sl33 rfl hAt (.inr ⟨_,_,rfl,rfl⟩) (.inr ⟨_,_,rfl,rfl⟩) (.inl ⟨rfl,rfl⟩) (by omega) (by omega) (Nat.le_refl _)) ?_
  obtain ⟨hd1,hd2⟩:=del_cells (zs:=[.int .u32 0]) u32E hl hnc hcs rfl
  refine WL.h' (h_clear (T:=33) (n:=1) (c:=c - (A.length+D.length)) (o:=o+(A.length+D.length) * 1) (b:=b) (l:=splice l (o+A.length * 1) (D.flatMap u32C)) sl33 z35 (by have:=hAt.sub (lo:=A.length+D.length) (hi:=(A++x::D).length) (m:=c) (z:=1) (by omega) (by omega) (Nat.le_refl _);rwa [show (A++x::D).length - (A.length+D.length)=1 by omega] at this) (by rw [splice_len _ _ _ (by rw [flat_len u32E];omega)];omega) ?_)
  rw [show (List.replicate 1 [Value.int .u32 0]).flatten=[.int .u32 0] from rfl]
  refine WL.next<|WP.seq<|WP.reg<|WL.e e_move<|WL.e e_assign<|WL.next<|WP.ret ?_
  refine PO.cls (A:=Sl 35 1 u32C (.slice a2 (A.length+D.length) c) (A++D)) (B:=[cl b 35 _]) (fun S h=>?_) ?_
  ·have h:=stars_one h
   unfold Sl
   rw [List.length_append]
   refine at_own hAt hc ?_ ?_ S h
   ·rw [hd2];exact hl
   ·rw [List.length_append] at hd1;exact hd1
  exact PO.fin Tryz.results78 (rv_tmp rv_nil) (hK a2 (A.length+D.length) c)
theorem RKeys_spec {g:World} {m:Nat}:Spec Tryz.prog g 75 [.map (some m)] [] fun K R=>∀ b,K (.func (.func 118) #[] #[.pointer (some ⟨b,0,none⟩)]) (cl b 137 [.map (some m)]::R):=by
 refine Spec.intro Tryz.func75 rfl Tryz.ntmps75 rfl fun R K hK=>?_
 refine WP.seq<|WP.reg ?_
 refine WL.h (h_box fun b1=>?_)
 refine WL.e e_assign<|WL.next<|WP.seq<|WP.reg<|WL.e e_makeFunc<|WL.e e_assign<|WL.next<|WP.ret ?_
 exact PO.fin Tryz.results75 (rv_tmp rv_nil) (hK b1)
theorem RKeys_iter {g:World} {b m:Nat} {ts:List (EntV UInt32 UInt32)}:Iter Tryz.prog g 118 (fun y=>[]++[y]++[.pointer (some ⟨b,0,none⟩)]) [cl b 137 [.map (some m)],Mp eU32 (.map (some m)) (List.map kvE ts)] idE2 (fun _=>pu True) (fun xs=>xs.Perm ts) (fun pre=>∃ r,(pre++r).Perm ts) [cl b 137 [.map (some m)],Mp eU32 (.map (some m)) (List.map kvE ts)]:=by
 intro y J X cont hy
 refine Spec.intro Tryz.func118 rfl Tryz.ntmps118 rfl fun R K hK=>?_
 refine WP.seq<|WP.reg<|WL.e (e_load a137) ?_
 refine WL.h (h_range (kvs:=List.map kvE ts) Tryz.underlying137 fun it=>?_)
 refine WL.next<|WP.block<|WP.loopK (fun (x:List (EntV UInt32 UInt32) × List (EntV UInt32 UInt32) × Option (UInt32 × Value))=>[]) (fun (x:List (EntV UInt32 UInt32) × List (EntV UInt32 UInt32) × Option (UInt32 × Value))=>J x.2.1::MpIt eU32 (.map (some m)) it (List.map kvE ts) (List.map kvE x.1) x.2.2::cl b 137 [.map (some m)]::R) [(0,_),(5,_)] (fun (x:List (EntV UInt32 UInt32) × List (EntV UInt32 UInt32) × Option (UInt32 × Value))=>(x.2.1++x.1).Perm ts∧Hist cont x.2.1) (fun (x:List (EntV UInt32 UInt32) × List (EntV UInt32 UInt32) × Option (UInt32 × Value))=>x.1.length) (ts,[],none) (⟨.refl _,Hist.nil⟩) ?_
 rintro ⟨left,pre,cur⟩ ⟨hx1,hx2⟩
 simp only at hx1 hx2
 dsimp only
 refine WP.seq<|WP.reg ?_
 refine WL.h (h_next (fun h0=>?_) (fun a y0 b0 hx=>?_))
 ·have hl0:left=[]:=by simpa using h0
  subst hl0
  refine WL.e e_extract<|WL.next<|WP.seq<|WP.cond_f rfl<|WP.exit<|PO.past nofun<|PO.round nofun<|PO.blockX ?_
  exact PO.fin Tryz.results118 rv_nil (hK.1 pre (by simpa using hx1) hx2)
 ·obtain ⟨A1,y,B1,hl,rfl,rfl,rfl⟩:=map_mid hx
  have hpp:(pre++([y]++(A1++B1))).Perm ts:=by refine List.Perm.trans ?_ hx1;rw [hl];exact List.Perm.append_left _ (List.perm_middle (a:=y) (l₁:=A1) (l₂:=B1)).symm
  refine WL.e e_extract<|WL.next<|WP.seq<|WP.cond_t rfl<|WP.skip<|PO.next<|WP.block<|WP.seq<|WP.reg<|WL.e e_entry<|WL.e e_extract<|WL.e e_assign<|WL.next<|WP.seq<|WP.reg<|WL.e e_move<|WL.e e_move ?_
  refine WL.h (HO.conv (fun S h=>pu_stars trivial h) (h_cally (hy pre y ⟨_,by rw [List.append_assoc];exact hpp⟩ hx2) ?_))
  refine ⟨fun hc=>?_,fun hc=>?_⟩
  ·skip
   refine WL.e e_not<|WL.next<|WP.cond_f rfl<|WP.skip<|PO.blockN ?_
   rw [← List.map_append]
   exact PO.againK (A1++B1,pre++[y],_) ⟨by simp only;rw [List.append_assoc];exact hpp,hx2.snoc hc⟩ (by simp only [hl,List.length_append,List.length_cons];omega)
  ·skip
   refine WL.e e_not<|WL.next<|WP.cond_t rfl<|WP.ret<|PO.blockR<|PO.round nofun<|PO.blockR<|PO.conv (conv1 (A:=MpIt eU32 (.map (some m)) it (List.map kvE ts) _ _) (B:=Mp eU32 (.map (some m)) (List.map kvE ts)) MpIt_Mp (by repeat first | exact .z | apply Put.s)) ?_
   exact PO.fin Tryz.results118 rv_nil (hK.2 pre y ⟨_,by rw [List.append_assoc];exact hpp⟩ hx2 hc)
def RKJ (b:Nat) (pre:List (EntV UInt32 UInt32)):HP:=fun S=>∃ sv:SV,stars [cl b 33 [sv.v],Sl 35 1 idE2 sv.v pre] S
theorem RKA_spec {g:World} {b m:Nat} {ts:List (EntV UInt32 UInt32)} (hn:ts.length≤68719476736):Spec Tryz.prog g 178 [.slice none 0 0,.func (.func 118) #[] #[.pointer (some ⟨b,0,none⟩)]] [cl b 137 [.map (some m)],Mp eU32 (.map (some m)) (List.map kvE ts)] fun K R=>∀ a n c xs,xs.Perm ts→K (.slice a n c) (Sl 35 1 idE2 (.slice a n c) xs::cl b 137 [.map (some m)]::Mp eU32 (.map (some m)) (List.map kvE ts)::R):=by
 refine Spec.intro Tryz.func178 rfl Tryz.ntmps178 rfl fun R K hK=>?_
 refine WP.seq<|WP.reg ?_
 refine WL.h (h_box fun b1=>?_)
 refine WL.e e_assign<|WL.next<|WP.seq<|WP.seq<|WP.reg<|WL.e e_move<|WL.next<|WP.block<|WP.nils 35 1 idE2 none ?_
 refine WP.cls (A:=RKJ b1 []) (B:=[cl b1 33 [.slice none 0 0],Sl 35 1 idE2 (.slice none 0 0) ([])]) (fun S h=>⟨⟨none,0,0⟩,h⟩) ?_
 refine WP.range (R:=?RR) (f:=118) (fs:=[]) (cs:=[.pointer (some ⟨b,0,none⟩)]) (RKJ b1) (fun _ _ _=>pu True) (fun _ _=>True) (RKeys_iter (b:=b) (m:=m) (ts:=ts)) k118 ?hLL ?_ ?_ ?_ (fun _=>rfl)
 case hLL=>repeat first | exact .nil | exact Pick.z | apply Pick.s | apply Split.cons
 ·rintro lb db fn tmps pre x R2 hp hh
  refine WP.opn (B:=fun sv:SV=>[cl b1 33 [sv.v],Sl 35 1 idE2 (sv.v) (pre)]) (fun _ h=>h) fun sv=>?_
  have hlen:pre.length+1≤68719476736:=by obtain ⟨r,hr⟩:=hp;have:=hr.length_eq;simp only [List.length_append,List.length_cons,List.length_nil] at this;omega
  refine WP.reg<|WL.e e_assign<|WL.nil<|PO.asg rfl (by repeat first | exact .z | apply Put.s)<|WP.block<|WP.reg<|WL.e (e_load a33)<|WL.e e_move ?_
  refine WL.h (h_bs sl33 z35 (.o (.tmp 9) rfl<|.n) fun b2=>?_)
  refine WL.h (hl_append (xs:=pre) (ys:=[x]) sl33 idE2E z35 (lit_rl idE2E [x] rfl) (by simp;omega) (fun a5 n5 c5=>?_))
  refine WL.h' (h_store s33 ?_)
  refine WL.nil<|PO.blockN<|PO.cls (A:=RKJ b1 (pre++[x])) (B:=[cl b1 33 [.slice a5 n5 c5],Sl 35 1 idE2 (.slice a5 n5 c5) (pre++[x])]) (fun S h=>⟨⟨a5,n5,c5⟩,h⟩) ?_
  exact PO.rnd trivial (by repeat first | exact .refl | exact Pick.z | apply Pick.s | apply Sub.cons | apply Sub.drop)
 ·rintro db xs hp hh
  refine PO.opn (B:=fun sv:SV=>[cl b1 33 [sv.v],Sl 35 1 idE2 (sv.v) (xs)]) (fun _ h=>h) fun sv=>?_
  obtain ⟨a9,n9,c9⟩:=sv
  refine PO.blockN<|PO.next<|WP.seq<|WP.reg<|WL.e (e_load a33)<|WL.e e_assign<|WL.next<|WP.ret ?_
  exact PO.finM (by repeat first | exact .z | apply Put.s) Tryz.results178 (rv_tmp rv_nil) (hK a9 n9 c9 xs hp)
 ·exact fun _ _ _ _ _ _ hc=>absurd trivial hc
theorem RKC_spec {g:World} {b m:Nat} {ts:List (EntV UInt32 UInt32)} (hn:ts.length≤68719476736):Spec Tryz.prog g 116 [.func (.func 118) #[] #[.pointer (some ⟨b,0,none⟩)]] [cl b 137 [.map (some m)],Mp eU32 (.map (some m)) (List.map kvE ts)] fun K R=>∀ a n c xs,xs.Perm ts→K (.slice a n c) (Sl 35 1 idE2 (.slice a n c) xs::cl b 137 [.map (some m)]::Mp eU32 (.map (some m)) (List.map kvE ts)::R):=by
 refine Spec.intro Tryz.func116 rfl Tryz.ntmps116 rfl fun R K hK=>?_
 refine WP.seq<|WP.reg<|WL.e e_assign<|WL.next<|WP.seq<|WP.reg<|WL.e e_move ?_
 refine WL.h (h_call (RKA_spec hn) k178 ?_)
 intro a n c xs hp
 refine WL.e e_assign<|WL.next<|WP.ret ?_
 exact PO.fin Tryz.results116 (rv_tmp rv_nil) (hK a n c xs hp)
theorem RSorted_spec {g:World} {b m:Nat} {ts:List (EntV UInt32 UInt32)} (hn:ts.length≤68719476736):Spec Tryz.prog g 74 [.func (.func 118) #[] #[.pointer (some ⟨b,0,none⟩)]] [cl b 137 [.map (some m)],Mp eU32 (.map (some m)) (List.map kvE ts)] fun K R=>∀ a n c ys,ys.Perm (ts.map (·.key))→K (.slice a n c) (Sl 35 1 u32C (.slice a n c) (ys)::cl b 137 [.map (some m)]::Mp eU32 (.map (some m)) (List.map kvE ts)::R):=by
 refine Spec.intro Tryz.func74 rfl Tryz.ntmps74 rfl fun R K hK=>?_
 refine WP.seq<|WP.reg<|WL.e e_assign<|WL.next<|WP.seq<|WP.reg<|WL.e e_move ?_
 refine WL.h (h_call (RKC_spec hn) k116 ?_)
 intro a n c xs hp
 refine WL.e e_assign<|WL.next<|WP.seq<|WP.reg<|WL.e e_move<|WL.conv (conv1 (A:=Sl 35 1 idE2 (.slice a n c) xs) (B:=Sl 35 1 u32C (.slice a n c) (xs.map (·.key))) (fun S h=>sl_map (enc:=u32C) (f:=fun t:EntV UInt32 UInt32=>t.key) h) (by repeat first | exact .z | apply Put.s)) ?_
 refine WL.h (h_call (Sort32_spec (xs.map (·.key)) (by rw [List.length_map,hp.length_eq];exact hn)) k117 ?_)
 intro ys h1 h2
 refine WL.next<|WP.seq<|WP.reg<|WL.e e_move<|WL.e e_assign<|WL.next<|WP.ret ?_
 exact PO.fin Tryz.results74 (rv_tmp rv_nil) (hK a n c ys (h1.trans (hp.map _)))
theorem ROrd1_spec {g:World} {c sm:Nat} {T:List UInt32} (y:UInt32):Spec Tryz.prog g 77 [.int .u32 y.toNat,.pointer (some ⟨c,0,none⟩)] [cl c 136 [.map (some sm)],Mp eU32 (.map (some sm)) (List.map seenV (T))] fun K R=>K (.bool (decide (y ∉ T))) (cl c 136 [.map (some sm)]::Mp eU32 (.map (some sm)) (List.map seenV (T))::R):=by
 refine Spec.intro Tryz.func77 rfl Tryz.ntmps77 rfl fun R K hK=>?_
 refine WP.seq<|WP.reg<|WL.e e_assign<|WL.next<|WP.seq<|WP.reg<|WL.e (e_load a136)<|WL.e e_move<|WL.e (eu_seen (k:=y) (S:=T) Tryz.underlying136 (key_u32 Tryz.underlying35) zz3)<|WL.e e_eql<|WL.e e_assign<|WL.next<|WP.ret ?_
 exact PO.finE Tryz.results77 (rv_tmp rv_nil) (by by_cases e:y ∈ T <;> simp [e]) hK
set_option maxHeartbeats 4000000 in
theorem ROrder_spec {g:World} {A B:HP} {u v:Value} {fs ts:List UInt32} (hA:RL A 1 u32C u fs) (hB:RL B 1 u32C v ts) (hl:fs.length=ts.length) (hn:fs.length≤1000000000):Spec Tryz.prog g 31 [u,v] [A,B] fun K R=>(Stuck (EdgeL fs ts fs.length)→K (.tuple #[.slice none 0 0,.bool false]) (A::B::R))∧(∀ rk,Ranked (EdgeL fs ts fs.length) rk→∀ a m c,K (.tuple #[.slice a m c,.bool true]) (A::B::R)):=by
 refine Spec.intro Tryz.func31 rfl Tryz.ntmps31 rfl fun R K hK=>?_
 refine WP.seq<|WP.reg<|WL.e e_assign<|WL.e e_assign<|WL.next<|WP.scope<|WP.seq<|WP.seq<|WP.reg<|WL.e e_move<|WL.e (el_len (xs:=fs) sl33 hA)<|WL.e e_move<|WL.e (el_len (xs:=ts) sl33 hB)<|WL.e e_neq<|WL.next ?_
 refine WP.cond rfl (fun h0=>?_) (fun h0=>?_)
 ·(simp at h0;omega)
 ·skip
  refine WP.skip<|PO.next<|WP.seq<|WP.reg<|WL.e e_move<|WL.e e_move ?_
  refine WL.h (h_call (waits2_spec hA hB hl (by omega)) k73 ?_)
  intro mb es hO hW hel
  refine WL.e e_assign<|WL.next<|WP.seq<|WP.reg<|WL.e e_move ?_
  refine WL.h (h_call (RKeys_spec (m:=mb)) k75 ?_)
  intro b
  refine WL.h (h_call (RSorted_spec (b:=b) (m:=mb) (ts:=es) (by omega)) k74 ?_)
  intro a1 n1 c1 l0 hp
  refine WL.e e_assign<|WL.next<|WP.seq<|WP.reg ?_
  refine WL.h (h_makeMapB (ek:=eU32) fun sm=>?_)
  refine WL.h (h_alloc z136 fun b1=>?_)
  refine WL.h' (h_store s136 ?_)
  refine WL.next<|WP.seq<|WP.label<|PO.next<|WP.seq<|WP.block<|WP.nils 35 1 u32C none ?_
  refine WP.loopK (fun (x:SV × List UInt32 × SV × List UInt32)=>[(4,x.1.v),(7,x.2.2.1.v)]) (fun (x:SV × List UInt32 × SV × List UInt32)=>Sl 35 1 u32C (x.1.v) (x.2.1)::Sl 35 1 u32C (x.2.2.1.v) (x.2.2.2)::cl b1 136 [.map (some sm)]::Mp eU32 (.map (some sm)) (List.map seenV (x.2.1))::Mp eU32 (.map (some mb)) (List.map kvE (es))::Ents 35 1 u32C (es)::A::B::R) [(6,_),(8,_)] (fun (x:SV × List UInt32 × SV × List UInt32)=>TopO es x.2.1 x.2.2.2) (fun (x:SV × List UInt32 × SV × List UInt32)=>x.2.2.2.length) (⟨none,0,0⟩,[],⟨a1,n1,c1⟩,l0) (TopO.init hW hp) ?_
  rintro ⟨o,T,l,ls⟩ hT
  simp only at hT
  dsimp only
  have hTl:=hT.len
  refine WP.seq<|WP.seq<|WP.reg<|WL.e e_move<|WL.e (el_len (xs:=ls) sl33 sl_rl)<|WL.e e_gtr<|WL.next ?_
  refine WP.cond rfl (fun h1=>?_) (fun h1=>?_)
  ·have hne:ls≠[]:=fun e=>by rw [e] at h1;simp at h1
   refine WP.skip<|PO.next<|WP.block<|WP.seq<|WP.seq<|WP.reg<|WL.e e_move<|WL.e (el_len (xs:=ls) sl33 sl_rl)<|WL.e e_move<|WL.next<|WP.block<|WP.loopK (fun (i:Nat)=>[(28,.int .i64 i),(4,o.v),(7,l.v)]) (fun (i:Nat)=>Sl 35 1 u32C (o.v) (T)::Sl 35 1 u32C (l.v) (ls)::cl b1 136 [.map (some sm)]::Mp eU32 (.map (some sm)) (List.map seenV (T))::Mp eU32 (.map (some mb)) (List.map kvE (es))::Ents 35 1 u32C (es)::A::B::R) [(6,_),(8,_),(23,_),(24,_),(25,_),(26,_),(27,_)] (fun (i:Nat)=>i≤ls.length∧∀ x ∈ ls.take i,∃ y ∈ wsE es x,y ∉ T) (fun (i:Nat)=>ls.length - i) 0 (⟨Nat.zero_le _,by simp⟩) ?_
   rintro i ⟨hi,hb⟩
   refine WP.seq<|WP.reg<|WL.e e_lss<|WL.next<|WP.seq ?_
   refine WP.cond rfl (fun h2=>?_) (fun h2=>?_)
   ·have hlt:i < ls.length:=by rw [decide_eq_true_eq] at h2;omega
    obtain ⟨x,hx⟩:∃ x,ls[i]?=some x:=⟨_,List.getElem?_eq_getElem hlt⟩
    have hwl:=hO.len x
    refine WP.skip<|PO.next<|WP.seq<|WP.block<|WP.seq<|WP.reg<|WL.e e_move<|WL.e (el_ia (j:=i) (xs:=ls) sl33 sl_rl hlt)<|WL.e (el_load0 (j:=i) (xs:=ls) (a:=x) a35 u32E sl_rl hx)<|WL.e e_assign<|WL.e e_assign<|WL.next<|WP.seq<|WP.seq<|WP.reg<|WL.e e_move<|WL.e e_move<|WL.e (eu_look (k:=x) (es:=es) Tryz.underlying137 (key_u32 Tryz.underlying35) zz33)<|WL.e e_makeFunc<|WL.cls (A:=bun [cl b1 136 [.map (some sm)],Mp eU32 (.map (some sm)) (List.map seenV (T))]) (B:=[cl b1 136 [.map (some sm)],Mp eU32 (.map (some sm)) (List.map seenV (T))]) (fun S h=>h) ?_
    refine WL.h (h_call (ContainsU_spec (B:=bun [cl b1 136 [.map (some sm)],Mp eU32 (.map (some sm)) (List.map seenV (T))]) (xs:=wsE es x) (p:=fun y=>decide (y ∉ T)) (ents_keyU x) (by omega) (fun y _=>CallV.bun (CallV.of_spec (fs:=[]) (cs:=[.pointer (some ⟨b1,0,none⟩)]) (ROrd1_spec (c:=b1) (sm:=sm) (T:=T) y) k77))) k76 ?_)
    show WL _ _ _ _ _ _ _ _
    refine WL.opn (A:=bun [cl b1 136 [.map (some sm)],Mp eU32 (.map (some sm)) (List.map seenV (T))]) (B:=fun _:Unit=>[cl b1 136 [.map (some sm)],Mp eU32 (.map (some sm)) (List.map seenV (T))]) (fun S h=>⟨(),h⟩) fun _=>?_
    refine WL.next ?_
    refine WP.cond rfl (fun h3=>?_) (fun h3=>?_)
    ·have hex:∃ y ∈ wsE es x,y ∉ T:=by obtain ⟨y,hy,hz⟩:=List.any_eq_true.1 h3;exact ⟨y,hy,by simpa using hz⟩
     refine WP.exit<|PO.past nofun<|PO.blockX<|PO.next<|WP.reg<|WL.e (e_add (c:=((i+1:Nat):Int)) rfl rfl (by rw [w_i64 (by omega) (by omega)];omega))<|WL.e e_move<|WL.nil ?_
     exact PO.againK (i+1) ⟨by omega,fun z hz=>by
      rw [take_snoc hx] at hz
      rcases List.mem_append.1 hz with hz | hz
      ·exact hb z hz
      ·simp only [List.mem_singleton] at hz;subst hz;exact hex⟩ (by omega)
    ·have hin:=hT.new hx
     have hT2:=hT.step hx (fun y hy=>by have:=List.any_eq_false.1 h3 y hy;simpa using this)
     refine WP.skip<|PO.next<|WP.seq<|WP.reg<|WL.e (e_load a136)<|WL.e e_move<|WL.e (eu_seen (k:=x) (S:=T) Tryz.underlying136 (key_u32 Tryz.underlying35) zz3)<|WL.e (e_add (c:=1) rfl rfl (by rw [if_neg hin];rfl)) ?_
     refine WL.h' (h_mapUpdate (k:=x) (kvs:=List.map seenV T) Tryz.underlying136 (key_u32 Tryz.underlying35) ?_)
     rw [mset_seen hin]
     refine WL.next<|WP.seq<|WP.reg<|WL.e e_move<|WL.e e_move ?_
     refine WL.h (h_bs sl33 z35 (.o (.tmp 43) rfl<|.n) fun b2=>?_)
     refine WL.h (hl_append (xs:=T) (ys:=[x]) sl33 u32E z35 (lit_rl u32E [x] rfl) (by simp;omega) (fun a5 n5 c5=>?_))
     refine WL.e e_assign<|WL.next<|WP.seq<|WP.reg<|WL.e e_move<|WL.e e_move<|WL.e e_move<|WL.e (e_add (c:=((i+1:Nat):Int)) rfl rfl (by rw [w_i64 (by omega) (by omega)];omega)) ?_
     refine WL.h (h_call (DelU_spec hx (by omega)) k78 ?_)
     intro a6 n6 c6
     refine WL.e e_assign<|WL.next<|WP.exit<|PO.blockY rfl<|PO.past nofun<|PO.round nofun<|PO.blockY rfl<|PO.past nofun<|PO.blockX ?_
     exact PO.againK (⟨a5,n5,c5⟩,T++[x],⟨a6,n6,c6⟩,ls.eraseIdx i) hT2 (by simp only;rw [List.length_eraseIdx];split <;> omega)
   ·have hst:Stuck (EdgeL fs ts fs.length):=by
     have:=hT.stuck hW hne (by rwa [List.take_of_length_le (show ls.length≤i by rw [decide_eq_false_iff_not] at h2;omega)] at hb)
     rwa [(show (fun x y=>y ∈ wsE es x)=(EdgeL fs ts fs.length) by funext x y;exact propext (hO.mem x y))] at this
    refine WP.exit<|PO.past nofun<|PO.round nofun<|PO.blockX<|PO.next<|WP.seq<|WP.reg<|WL.e e_assign<|WL.e e_assign<|WL.next<|WP.ret<|PO.blockR<|PO.round nofun<|PO.blockR<|PO.past nofun<|PO.scopeR ?_
    exact PO.fin Tryz.results31 (rv_tmp (rv_tmp rv_nil)) (hK.1 hst)
  ·have hnil:ls=[]:=List.length_eq_zero_iff.1 (by simp at h1;simpa using h1)
   subst hnil
   obtain ⟨rk,hrk⟩:=hT.rank
   rw [(show (fun x y=>y ∈ wsE es x)=(EdgeL fs ts fs.length) by funext x y;exact propext (hO.mem x y))] at hrk
   refine WP.exit<|PO.past nofun<|PO.round nofun<|PO.blockX<|PO.next<|WP.seq<|WP.reg<|WL.e e_move<|WL.e e_assign<|WL.e e_assign<|WL.next<|WP.ret<|PO.scopeR<|PO.sh (u:=o.v) ?_
   rintro a8 m8 c8 e8
   rw [e8]
   exact PO.fin Tryz.results31 (rv_tmp (rv_tmp rv_nil)) (hK.2 rk hrk a8 m8 c8)
end Go.SL
namespace Go.SL
open Go
abbrev AhV:=EntV Unit Nat
def lsC (e:AhV):List Value:=[e.sv.v]
theorem lsE:EncOk 1 lsC:=⟨fun _=>rfl,fun _=>rfl⟩
structure AhOk (l:List DeedM) (E:List (Nat × Nat)) (es:List AhV):Prop where
  len:es.length=l.length
  ws:∀ u e,es[u]?=some e→e.ws=aheadM E u
theorem AhOk.init (l:List DeedM):AhOk l [] (List.replicate l.length ⟨(),⟨none,0,0⟩,[]⟩):=
  ⟨by simp,fun u e h=>by
    rw [List.getElem?_replicate] at h
    split at h
    · cases h;simp [aheadM]
    · cases h⟩
theorem AhOk.at_ {l:List DeedM} {E:List (Nat × Nat)} {es:List AhV} (h:AhOk l E es) {u:Nat} (hu:u < l.length):∃ e A B,es[u]?=some e∧es=A++e::B∧(∀ e2,es.set u e2=A++e2::B)∧e.ws=aheadM E u:=by
  have hlt:u < es.length:=by rw [h.len];exact hu
  have hx:es[u]?=some es[u]:=List.getElem?_eq_getElem hlt
  refine ⟨es[u],es.take u,es.drop (u+1),hx,?_,fun e2=>?_,h.ws u _ hx⟩
  · conv=>lhs;rw [← List.take_append_drop u es,List.drop_eq_getElem_cons hlt]
  · rw [List.set_eq_take_append_cons_drop,if_pos hlt]
theorem AhOk.step {l:List DeedM} {E:List (Nat × Nat)} {es:List AhV} (h:AhOk l E es) {u v:Nat} {e:AhV} (he:es[u]?=some e) (sv:SV):AhOk l (E++[(u,v)]) (es.set u ⟨(),sv,e.ws++[v]⟩):=by
  have hlt:=idx_lt he
  refine ⟨by rw [List.length_set];exact h.len,fun w x hx=>?_⟩
  rw [List.getElem?_set] at hx
  rw [ahead_snoc]
  by_cases e1:u=w
  · subst e1
    rw [if_pos rfl,if_pos hlt] at hx
    cases hx
    rw [if_pos rfl,h.ws u e he]
  · rw [if_neg e1] at hx
    rw [if_neg (fun x=>e1 x.symm)]
    exact h.ws w x hx
theorem ents_nils {E z n:Nat} {enc:Nat→List Value} {L:List HP} {S:Piece} (h:stars L S):stars (Ents E z enc (List.replicate n (⟨(),⟨none,0,0⟩,[]⟩:AhV))::L) S:=by
  have key:∀ n,Ents E z enc (List.replicate n (⟨(),⟨none,0,0⟩,[]⟩:AhV)) (fun _=>none):=by
    intro n
    induction n with
    | zero=>exact trivial
    | succ n ih=>
      have hn:le (fun _=>none) (fun _=>none):=fun _ _ h=>(by cases h)
      exact Ents_in (A:=[]) (e:=⟨(),⟨none,0,0⟩,[]⟩) (B:=List.replicate n ⟨(),⟨none,0,0⟩,[]⟩) _ ⟨fun _=>none,fun _=>none,fun _=>.inl rfl,hn,hn,Or.inl ⟨rfl,rfl,none,rfl⟩,fun _=>none,fun _=>none,fun _=>.inl rfl,hn,hn,ih,trivial⟩
  exact ⟨fun _=>none,S,fun _=>.inl rfl,fun _ _ h=>(by cases h),le_refl S,key n,h⟩
def goneM (n:Nat) (us:List Nat):List Bool:=(List.range n).map fun u=>decide (u ∈ us)
theorem gone_init (n:Nat):List.replicate n false=goneM n []:=by
  unfold goneM
  refine List.ext_getElem (by simp) fun i h1 h2=>?_
  simp
theorem gone_at {n u:Nat} {us:List Nat} (h:u < n):(goneM n us)[u]?=some (decide (u ∈ us)):=by simp [goneM,h]
theorem gone_len (n:Nat) (us:List Nat):(goneM n us).length=n:=by simp [goneM]
theorem gone_set {n u:Nat} {us:List Nat} (h:u < n):(goneM n us).set u true=goneM n (us++[u]):=by
  unfold goneM
  refine List.ext_getElem (by simp) fun i h1 h2=>?_
  simp only [List.getElem_set,List.getElem_map,List.getElem_range,List.mem_append,List.mem_singleton]
  by_cases e:u=i
  · subst e;simp
  · rw [if_neg e]
    have:¬ i=u:=fun x=>e x.symm
    simp [this]
theorem units_get {l:List DeedM} {i:Nat} (h:i < l.length):(unitsM l)[i]?=some (unitAt l i):=by simp [unitsM,h]
theorem units_len (l:List DeedM):(unitsM l).length=l.length:=by simp [unitsM]
theorem idx_of {l us:List Nat} {p:Nat→Bool} {j:Nat} (h:l.findIdx? p=some j):(if l.any p then ((l.findIdx p:Nat):Int) else -1)=j:=by
  obtain ⟨hj,h1,_⟩:=List.findIdx?_eq_some_iff_getElem.1 h
  have h2:l.any p=true:=List.any_eq_true.2 ⟨l[j],List.getElem_mem hj,h1⟩
  rw [if_pos h2]
  congr 1
  rw [List.findIdx?_eq_some_iff_findIdx_eq] at h
  exact h.2
theorem of_snoc {l:List DeedM} (u i:Nat):(List.range (i+1)).filter (fun j=>decide (unitAt l j=u))=(List.range i).filter (fun j=>decide (unitAt l j=u))++if unitAt l i=u then [i] else []:=by
  rw [List.range_succ,List.filter_append]
  by_cases e:unitAt l i=u <;> simp [e]
theorem pick_eq {l:List DeedM} {us:List Nat} {x:Nat} (h:x ∉ us):(!(aheadM (allE l) x).any fun v=>!decide (v ∈ us))=pickB l us x:=by
  unfold pickB
  simp only [h,decide_false,Bool.not_false,Bool.true_and]
  rw [Bool.eq_iff_iff]
  simp
theorem ahead_lt {l:List DeedM} {x v:Nat} (h:v ∈ aheadM (allE l) x):v < l.length:=(edge_lt (Nat.le_refl _) (Nat.zero_le _) (ahead_mem.1 h)).2
section
variable {P : Program} {g : World} {Γ : Env} {L M : List HP} {dst : Option Tmp} {t : TypeId} {pos : String} {aft : Array Edge} {gd : Option (Nat × Bool)}
theorem e_seenA {x i:Operand} {T e kt:TypeId} {d:TypeDesc} {l:List DeedM} {n:Nat} {kvs:List ((UInt32 × UInt32) × Value)} {m:Value} (s:UInt8) (o:UInt32) (hS:SeenOk kvs l n) (ht:P.underlying T=some (.map kt e)) (hk:KeyOk P kt d eA2) (hz:(P.info? e).bind (·.zero)=some (.int .i64 0)) (hx:ev Γ x=some m:=by rfl) (hi:ev Γ i=some (eA2 (s.toUInt32,o)):=by rfl) (hp:Pick L (Mp eA2 m kvs) M:=by repeat first | exact .z | apply Pick.s) :
    EO P g ⟨dst,.lookup T x i false,t,pos,aft,gd⟩ Γ L (.int .i64 (if (l.take n).any (fun e=>decide (e.site=s∧e.order=o)) then 1 else 0)):=by
  have h:=e_lookup (P:=P) (g:=g) (Γ:=Γ) (dst:=dst) (t:=t) (pos:=pos) (aft:=aft) (gd:=gd) (x:=x) (i:=i) (k:=(s.toUInt32,o)) ht hk hz hx hi hp
  rw [hS s o] at h
  by_cases e:(l.take n).any (fun e=>decide (e.site=s∧e.order=o))=true
  · rw [if_pos e] at h ⊢;exact h
  · rw [if_neg e] at h ⊢;exact h
end
end Go.SL
namespace Go.SL.Fc
open Go Go.Proofs Go.SL
theorem a22:aggOf Tryz.prog 22=some none:=by kernel_rfl
theorem k38:callable Tryz.prog 38=true:=by kernel_rfl
theorem k39:callable Tryz.prog 39=true:=by kernel_rfl
theorem k40:callable Tryz.prog 40=true:=by kernel_rfl
theorem k81:callable Tryz.prog 81=true:=by kernel_rfl
end Go.SL.Fc
namespace Go.SL
open Go Go.Proofs Fc
theorem isNaN8_spec {g:World} (x:UInt8):Spec Tryz.prog g 81 [.int .u8 x.toNat] [] fun K R=>K (.bool false) R:=by
 refine Spec.intro Tryz.func81 rfl Tryz.ntmps81 rfl fun R K hK=>?_
 refine WP.seq<|WP.reg<|WL.e e_assign<|WL.next<|WP.seq<|WP.reg<|WL.e e_move<|WL.e e_move<|WL.e (e_neq8)<|WL.e e_assign<|WL.next<|WP.ret ?_
 exact PO.finE Tryz.results81 (rv_tmp rv_nil) (by simp) hK
theorem isNaN3_spec {g:World} (x:UInt32):Spec Tryz.prog g 82 [.int .u32 x.toNat] [] fun K R=>K (.bool false) R:=by
 refine Spec.intro Tryz.func82 rfl Tryz.ntmps82 rfl fun R K hK=>?_
 refine WP.seq<|WP.reg<|WL.e e_assign<|WL.next<|WP.seq<|WP.reg<|WL.e e_move<|WL.e e_move<|WL.e (e_neq32)<|WL.e e_assign<|WL.next<|WP.ret ?_
 exact PO.finE Tryz.results82 (rv_tmp rv_nil) (by simp) hK
theorem Cmp8_spec {g:World} (a b:UInt8):Spec Tryz.prog g 39 [.int .u8 a.toNat,.int .u8 b.toNat] [] fun K R=>K (.int .i64 (c8 a b)) R:=by
 refine Spec.intro Tryz.func39 rfl Tryz.ntmps39 rfl fun R K hK=>?_
 refine WP.seq<|WP.reg<|WL.e e_assign<|WL.next<|WP.seq<|WP.reg<|WL.e e_move ?_
 refine WL.h (h_call (isNaN8_spec _) k81 ?_)
 refine WL.e e_assign<|WL.next<|WP.seq<|WP.reg<|WL.e e_move ?_
 refine WL.h (h_call (isNaN8_spec _) k81 ?_)
 refine WL.e e_assign<|WL.next<|WP.seq<|WP.seq<|WP.reg<|WL.e e_move<|WL.next<|WP.cond_f rfl<|WP.skip<|PO.next<|WP.seq<|WP.seq<|WP.reg<|WL.e e_move<|WL.next<|WP.cond_f rfl<|WP.skip<|PO.next<|WP.seq<|WP.seq<|WP.reg<|WL.e e_move<|WL.e e_move<|WL.e e_lss ?_
 refine WL.next ?_
 refine WP.cond rfl (fun h1=>?_) (fun h1=>?_)
 ·replace h1:a < b:=by rw [UInt8.lt_iff_toNat_lt];simpa [UInt8.lt_iff_toNat_lt] using h1
  refine WP.seq<|WP.reg<|WL.e e_assign<|WL.next<|WP.ret<|PO.past nofun ?_
  exact PO.finE Tryz.results39 (rv_tmp rv_nil) (by rw [c8,if_pos h1];rfl) hK
 ·replace h1:¬ a < b:=by rw [UInt8.lt_iff_toNat_lt];simpa [UInt8.lt_iff_toNat_lt] using h1
  refine WP.skip<|PO.next<|WP.seq<|WP.seq<|WP.reg<|WL.e e_move<|WL.e e_move<|WL.e e_gtr<|WL.next ?_
  refine WP.cond rfl (fun h2=>?_) (fun h2=>?_)
  ·replace h2:b < a:=by rw [UInt8.lt_iff_toNat_lt];simpa [UInt8.lt_iff_toNat_lt] using h2
   refine WP.seq<|WP.reg<|WL.e e_assign<|WL.next<|WP.ret<|PO.past nofun ?_
   exact PO.finE Tryz.results39 (rv_tmp rv_nil) (by rw [c8,if_neg h1,if_pos h2];rfl) hK
  ·replace h2:¬ b < a:=by rw [UInt8.lt_iff_toNat_lt];simpa [UInt8.lt_iff_toNat_lt] using h2
   refine WP.skip<|PO.next<|WP.seq<|WP.reg<|WL.e e_assign<|WL.next<|WP.ret ?_
   exact PO.finE Tryz.results39 (rv_tmp rv_nil) (by rw [c8,if_neg h1,if_neg h2];rfl) hK
theorem Cmp32_spec {g:World} (a b:UInt32):Spec Tryz.prog g 40 [.int .u32 a.toNat,.int .u32 b.toNat] [] fun K R=>K (.int .i64 (c32 a b)) R:=by
 refine Spec.intro Tryz.func40 rfl Tryz.ntmps40 rfl fun R K hK=>?_
 refine WP.seq<|WP.reg<|WL.e e_assign<|WL.next<|WP.seq<|WP.reg<|WL.e e_move ?_
 refine WL.h (h_call (isNaN3_spec _) k82 ?_)
 refine WL.e e_assign<|WL.next<|WP.seq<|WP.reg<|WL.e e_move ?_
 refine WL.h (h_call (isNaN3_spec _) k82 ?_)
 refine WL.e e_assign<|WL.next<|WP.seq<|WP.seq<|WP.reg<|WL.e e_move<|WL.next<|WP.cond_f rfl<|WP.skip<|PO.next<|WP.seq<|WP.seq<|WP.reg<|WL.e e_move<|WL.next<|WP.cond_f rfl<|WP.skip<|PO.next<|WP.seq<|WP.seq<|WP.reg<|WL.e e_move<|WL.e e_move<|WL.e (e_lss32) ?_
 refine WL.next ?_
 refine WP.cond rfl (fun h1=>?_) (fun h1=>?_)
 ·replace h1:a < b:=by rw [UInt32.lt_iff_toNat_lt];simpa [UInt32.lt_iff_toNat_lt] using h1
  refine WP.seq<|WP.reg<|WL.e e_assign<|WL.next<|WP.ret<|PO.past nofun ?_
  exact PO.finE Tryz.results40 (rv_tmp rv_nil) (by rw [c32,if_pos h1];rfl) hK
 ·replace h1:¬ a < b:=by rw [UInt32.lt_iff_toNat_lt];simpa [UInt32.lt_iff_toNat_lt] using h1
  refine WP.skip<|PO.next<|WP.seq<|WP.seq<|WP.reg<|WL.e e_move<|WL.e e_move<|WL.e (e_gtr32)<|WL.next ?_
  refine WP.cond rfl (fun h2=>?_) (fun h2=>?_)
  ·replace h2:b < a:=by rw [UInt32.lt_iff_toNat_lt];simpa [UInt32.lt_iff_toNat_lt] using h2
   refine WP.seq<|WP.reg<|WL.e e_assign<|WL.next<|WP.ret<|PO.past nofun ?_
   exact PO.finE Tryz.results40 (rv_tmp rv_nil) (by rw [c32,if_neg h1,if_pos h2];rfl) hK
  ·replace h2:¬ b < a:=by rw [UInt32.lt_iff_toNat_lt];simpa [UInt32.lt_iff_toNat_lt] using h2
   refine WP.skip<|PO.next<|WP.seq<|WP.reg<|WL.e e_assign<|WL.next<|WP.ret ?_
   exact PO.finE Tryz.results40 (rv_tmp rv_nil) (by rw [c32,if_neg h1,if_neg h2];rfl) hK
theorem Or_spec {g:World} {A:HP} {u:Value} {xs:List Int} (hA:RL A 1 intC u xs) (hn:xs.length≤1000):Spec Tryz.prog g 38 [u] [A] fun K R=>K (.int .i64 (orM xs)) (A::R):=by
 refine Spec.intro Tryz.func38 rfl Tryz.ntmps38 rfl fun R K hK=>?_
 refine WP.seq<|WP.reg<|WL.e e_assign<|WL.next<|WP.seq<|WP.reg<|WL.e e_assign<|WL.next<|WP.seq<|WP.seq<|WP.reg<|WL.e e_move<|WL.e (el_len (xs:=xs) sl23 hA)<|WL.e e_move<|WL.next<|WP.block<|WP.loopK (fun (i:Nat)=>[(8,.int .i64 i)]) (fun (i:Nat)=>A::R) [(3,_),(6,_),(7,_)] (fun (i:Nat)=>i≤xs.length∧∀ y ∈ xs.take i,y=0) (fun (i:Nat)=>xs.length - i) 0 (⟨Nat.zero_le _,by simp⟩) ?_
 rintro i ⟨hi,hb⟩
 refine WP.seq<|WP.reg<|WL.e e_lss<|WL.next<|WP.seq ?_
 refine WP.cond rfl (fun h1=>?_) (fun h1=>?_)
 ·have hlt:i < xs.length:=by rw [decide_eq_true_eq] at h1;omega
  obtain ⟨x,hx⟩:∃ x,xs[i]?=some x:=⟨_,List.getElem?_eq_getElem hlt⟩
  refine WP.skip<|PO.next<|WP.seq<|WP.block<|WP.seq<|WP.reg<|WL.e (el_ia (j:=i) (xs:=xs) sl23 hA hlt)<|WL.e (el_load0 (j:=i) (xs:=xs) (a:=x) a3 intE hA hx)<|WL.e e_assign<|WL.next<|WP.seq<|WP.reg<|WL.e e_move<|WL.e e_move<|WL.e e_neq<|WL.next ?_
  refine WP.cond rfl (fun h2=>?_) (fun h2=>?_)
  ·replace h2:x≠0:=by simpa using h2
   refine WP.seq<|WP.reg<|WL.e e_move<|WL.e e_assign<|WL.next<|WP.ret<|PO.blockR<|PO.past nofun<|PO.round nofun<|PO.blockR<|PO.past nofun ?_
   exact PO.finE Tryz.results38 (rv_tmp rv_nil) (by rw [orM_at hb hx h2];rfl) hK
  ·replace h2:x=0:=by simpa using h2
   refine WP.skip<|PO.blockN<|PO.next<|WP.reg<|WL.e (e_add (c:=((i+1:Nat):Int)) rfl rfl (by rw [w_i64 (by omega) (by omega)];omega))<|WL.e e_move<|WL.nil ?_
   exact PO.againK (i+1) ⟨by omega,fun y hy=>by
    rw [take_snoc hx] at hy
    rcases List.mem_append.1 hy with hy | hy
    ·exact hb y hy
    ·simp only [List.mem_singleton] at hy;subst hy;exact h2⟩ (by omega)
 ·rw [List.take_of_length_le (show xs.length≤i by rw [decide_eq_false_iff_not] at h1;omega)] at hb
  refine WP.exit<|PO.past nofun<|PO.round nofun<|PO.blockX<|PO.next<|WP.seq<|WP.reg<|WL.e e_move<|WL.e e_assign<|WL.next<|WP.ret ?_
  exact PO.finE Tryz.results38 (rv_tmp rv_nil) (by rw [orM_no hb];rfl) hK
set_option maxHeartbeats 4000000 in
theorem JCmp_spec {g:World} {A:HP} {c:Nat} {u:Value} {l:List DeedM} (hA:RL A 5 DeedM.c u l) (a b:Nat) (ha:a < l.length) (hb:b < l.length):Spec Tryz.prog g 37 [.int .i64 a,.int .i64 b,.pointer (some ⟨c,0,none⟩)] [cl c 22 [u],A] fun K R=>K (.int .i64 (cfD l a b)) (cl c 22 [u]::A::R):=by
 refine Spec.intro Tryz.func37 rfl Tryz.ntmps37 rfl fun R K hK=>?_
 refine WP.seq<|WP.reg<|WL.e e_assign<|WL.next<|WP.seq<|WP.draws mixedOk 25<|RW.e 0 rfl (e_load a22)<|RW.e 1 rfl e_move<|RW.e 2 rfl (el_ia (j:=a) (xs:=l) sl22 hA ha)<|RW.e 3 rfl (el_fa (z:=5) (j:=a) (xs:=l) f39_1 hA ha) ?_
 refine RW.e 4 rfl (el_load (j:=a) (f:=1) (xs:=l) a5 deedE hA (List.getElem?_eq_getElem ha))<|RW.e 5 rfl (e_load a22)<|RW.e 6 rfl e_move ?_
 refine RW.e 7 rfl (el_ia (j:=b) (xs:=l) sl22 hA hb)<|RW.e 8 rfl (el_fa (z:=5) (j:=b) (xs:=l) f39_1 hA hb) ?_
 refine RW.e 9 rfl (el_load (j:=b) (f:=1) (xs:=l) a5 deedE hA (List.getElem?_eq_getElem hb))<|RW.e 11 rfl (e_load a22)<|RW.e 12 rfl e_move ?_
 refine RW.e 13 rfl (el_ia (j:=a) (xs:=l) sl22 hA ha)<|RW.e 14 rfl (el_fa (z:=5) (j:=a) (xs:=l) f39_2 hA ha) ?_
 refine RW.e 15 rfl (el_load (j:=a) (f:=2) (xs:=l) a35 deedE hA (List.getElem?_eq_getElem ha))<|RW.e 16 rfl (e_load a22)<|RW.e 17 rfl e_move ?_
 refine RW.e 18 rfl (el_ia (j:=b) (xs:=l) sl22 hA hb)<|RW.e 19 rfl (el_fa (z:=5) (j:=b) (xs:=l) f39_2 hA hb) ?_
 refine RW.e 20 rfl (el_load (j:=b) (f:=2) (xs:=l) a35 deedE hA (List.getElem?_eq_getElem hb)) ?_
 refine RW.any (is:=[10]) rfl ⟨?_,trivial⟩
 refine RWat.h rfl rfl rfl ?_
 refine (h_call (Cmp8_spec _ _) k39 ?_)
 refine ⟨⟨⟨_,rfl,.inl ⟨rfl,(el_load (j:=b) (f:=2) (xs:=l) a35 deedE hA (List.getElem?_eq_getElem hb))⟩⟩,⟨_,rfl,.inl ⟨rfl,(el_fa (z:=5) (j:=b) (xs:=l) f39_2 hA hb)⟩⟩,⟨_,rfl,.inl ⟨rfl,(el_ia (j:=b) (xs:=l) sl22 hA hb)⟩⟩,⟨_,rfl,.inl ⟨rfl,e_move⟩⟩,⟨_,rfl,.inl ⟨rfl,(e_load a22)⟩⟩,⟨_,rfl,.inl ⟨rfl,(el_load (j:=a) (f:=2) (xs:=l) a35 deedE hA (List.getElem?_eq_getElem ha))⟩⟩,⟨_,rfl,.inl ⟨rfl,(el_fa (z:=5) (j:=a) (xs:=l) f39_2 hA ha)⟩⟩,⟨_,rfl,.inl ⟨rfl,(el_ia (j:=a) (xs:=l) sl22 hA ha)⟩⟩,⟨_,rfl,.inl ⟨rfl,e_move⟩⟩,⟨_,rfl,.inl ⟨rfl,(e_load a22)⟩⟩,trivial⟩,?_⟩
 refine RW.any (is:=[21]) rfl ⟨?_,trivial⟩
 refine RWat.h rfl rfl rfl ?_
 refine (h_call (Cmp32_spec _ _) k40 ?_)
 refine ⟨trivial,?_⟩
 refine RW.any (is:=[22]) rfl ⟨?_,trivial⟩
 refine RWat.h rfl rfl rfl ?_
 refine (h_bs sl23 z3 (.o (.tmp 16) rfl<|.o (.tmp 27) rfl<|.n) fun b1=>?_)
 refine ⟨trivial,?_⟩
 refine RW.any (is:=[23]) rfl ⟨?_,trivial⟩
 refine RWat.h rfl rfl rfl ?_
 refine (h_call (Or_spec (lit_rl intE [c8 l[a].site l[b].site,c32 l[a].order l[b].order] rfl) (by simp)) k38 ?_)
 refine ⟨trivial,?_⟩
 refine RW.e 24 rfl e_assign<|RW.done<|PO.next<|WP.ret ?_
 exact PO.finE Tryz.results37 (rv_tmp rv_nil) (by rw [cf2_or,cfD,List.getElem?_eq_getElem ha,List.getElem?_eq_getElem hb];rfl) hK
theorem InsN_spec {g:World} {u y:Value} {B:HP} {cf:Nat→Nat→Int} {S:Nat→Prop} (hc:CmpOn cf S) (xs:List Nat) (hS:∀ x ∈ xs,S x) (hn:xs.length≤12) (hy:∀ a b,S a→S b→CallV Tryz.prog g y [.int .i64 a,.int .i64 b] [B] fun K R=>K (.int .i64 (cf a b)) (B::R)):Spec Tryz.prog g 120 [u,.int .i64 ((0:Nat):Int),.int .i64 xs.length,y] [Sl 3 1 natC (u) (xs),B] fun K R=>∀ ys,ys.Perm xs→(ys.Pairwise fun a b=>0≤cf b a)→K (.tuple #[]) (Sl 3 1 natC (u) (ys)::B::R):=by
 refine Spec.intro Tryz.func120 rfl Tryz.ntmps120 rfl fun R K hK=>?_
 refine WP.seq<|WP.reg<|WL.e e_move<|WL.e (e_addN (b:=1))<|WL.e e_assign<|WL.next<|WP.block<|WP.loopK (fun (z:Nat × List Nat)=>[(8,.int .i64 z.1)]) (fun (z:Nat × List Nat)=>Sl 3 1 natC (u) (z.2)::B::R) [(0,_),(1,_),(2,_),(3,_)] (fun (z:Nat × List Nat)=>1≤z.1∧z.1≤13∧SrtI cf xs z.2 z.1) (fun (z:Nat × List Nat)=>xs.length - z.1) (1,xs) (⟨Nat.le_refl _,by simp only;omega,SrtI.init cf xs⟩) ?_
 rintro ⟨i,zs⟩ ⟨hi,hi2,hI⟩
 simp only at hi hi2 hI
 dsimp only
 refine WP.seq<|WP.seq<|WP.reg<|WL.e e_move<|WL.e e_move<|WL.e e_lss<|WL.next ?_
 refine WP.cond rfl (fun h1=>?_) (fun h1=>?_)
 ·replace h1:i < xs.length:=by rw [decide_eq_true_eq] at h1;omega
  refine WP.skip<|PO.next<|WP.seq<|WP.block<|WP.seq<|WP.reg<|WL.e e_move<|WL.e e_assign<|WL.next<|WP.block<|WP.loopK (fun (z:Nat × List Nat)=>[(9,.int .i64 z.1)]) (fun (z:Nat × List Nat)=>Sl 3 1 natC (u) (z.2)::B::R) [(0,_),(1,_),(2,_),(3,_),(8,_),(12,_),(13,_),(14,_),(17,_)] (fun (z:Nat × List Nat)=>InsI cf xs z.2 i z.1) (fun (z:Nat × List Nat)=>z.1) (i,zs) (hI.start h1) ?_
  rintro ⟨j,ys⟩ hJ
  simp only at hJ
  dsimp only
  have hji:=hJ.ji
  have hyl:=hJ.perm.length_eq
  refine WP.seq<|WP.seq<|WP.draws mixedOk 17<|RW.e 0 rfl e_move<|RW.e 1 rfl e_move<|RW.e 2 rfl e_gtr<|RW.e 3 rfl e_move ?_
  refine RW.bool 21 rfl (fun g=>?_) (fun g=>?_)
  ·replace g:0 < j:=by rw [decide_eq_true_eq] at g;omega
   obtain ⟨x,hx⟩:∃ x,ys[j]?=some x:=⟨_,List.getElem?_eq_getElem (by omega)⟩
   obtain ⟨z,hz⟩:∃ z,ys[j - 1]?=some z:=⟨_,List.getElem?_eq_getElem (by omega)⟩
   have hSx:=hS x (hJ.perm.mem_iff.1 (List.mem_of_getElem? hx))
   have hSz:=hS z (hJ.perm.mem_iff.1 (List.mem_of_getElem? hz))
   refine RW.e 4 rfl e_move<|RW.e 5 rfl e_move<|RW.e 6 rfl e_move<|RW.e 7 rfl (el_ia (j:=j) (xs:=ys) sl23 sl_rl (idx_lt hx))<|RW.e 8 rfl (el_load0 (j:=j) (xs:=ys) (a:=x) a3 natE sl_rl hx)<|RW.e 9 rfl e_move<|RW.e 10 rfl e_move<|RW.e 11 rfl (e_subN (b:=1))<|RW.e 12 rfl (el_ia (j:=(j - 1)) (xs:=ys) sl23 sl_rl (idx_lt hz))<|RW.e 13 rfl (el_load0 (j:=(j - 1)) (xs:=ys) (a:=z) a3 natE sl_rl hz) ?_
   refine RW.any (is:=[14]) rfl ⟨?_,trivial⟩
   refine RWat.h rfl rfl rfl ?_
   refine (h_cally (hy x z hSx hSz) ?_)
   refine ⟨trivial,?_⟩
   refine RW.e 15 rfl e_lss<|RW.e 16 rfl e_pick_t<|RW.done<|PO.next ?_
   refine WP.cond rfl (fun h3=>?_) (fun h3=>?_)
   ·replace h3:cf x z < 0:=by rw [decide_eq_true_eq] at h3;omega
    refine WP.skip<|PO.next<|WP.seq<|WP.block<|WP.draws mixedOk 18<|RW.e 0 rfl e_move<|RW.e 1 rfl e_move<|RW.e 2 rfl e_move<|RW.e 3 rfl e_move<|RW.e 4 rfl (e_subN (b:=1))<|RW.e 5 rfl e_move<|RW.e 6 rfl e_move<|RW.e 7 rfl (e_subN (b:=1))<|RW.e 8 rfl (el_ia (j:=(j - 1)) (xs:=ys) sl23 sl_rl (idx_lt hz))<|RW.e 9 rfl (el_load0 (j:=(j - 1)) (xs:=ys) (a:=z) a3 natE sl_rl hz)<|RW.e 10 rfl e_move<|RW.e 11 rfl e_move<|RW.e 12 rfl (el_ia (j:=j) (xs:=ys) sl23 sl_rl (idx_lt hx))<|RW.e 13 rfl (el_load0 (j:=j) (xs:=ys) (a:=x) a3 natE sl_rl hx)<|RW.e 14 rfl (el_ia (j:=j) (xs:=ys) sl23 sl_rl (idx_lt hx)) ?_
    refine RW.any (is:=[15]) rfl ⟨?_,trivial⟩
    refine RWat.h' rfl rfl rfl ?_
    refine (hl_store (j:=j) (xs:=ys) z s3 natE (idx_lt hx) ?_)
    refine ⟨⟨⟨_,rfl,.inl ⟨rfl,(e_subN (b:=1))⟩⟩,⟨_,rfl,.inl ⟨rfl,e_move⟩⟩,⟨_,rfl,.inl ⟨rfl,e_move⟩⟩,trivial⟩,?_⟩
    refine RW.e 16 rfl (el_ia (j:=j - 1) (xs:=ys.set j z) sl23 sl_rl (by rw [List.length_set];exact idx_lt hz)) ?_
    refine RW.any (is:=[17]) rfl ⟨?_,trivial⟩
    refine RWat.h' rfl rfl rfl ?_
    refine (hl_store (j:=j - 1) (xs:=ys.set j z) x s3 natE (by rw [List.length_set];exact idx_lt hz) ?_)
    refine ⟨trivial,?_⟩
    refine RW.done<|PO.blockN<|PO.next<|WP.reg<|WL.e e_move<|WL.e (e_subN (b:=1))<|WL.e e_assign<|WL.nil ?_
    rw [← show swq ys j=(ys.set j z).set (j - 1) x by unfold swq;rw [gp_get hx,gp_get hz]]
    exact PO.againK (j - 1,swq ys j) (hJ.step hc hS g (by rw [gp_get hx,gp_get hz];exact h3)) (by simp only;omega)
   ·replace h3:0≤cf x z:=by rw [decide_eq_false_iff_not] at h3;omega
    refine WP.exit<|PO.past nofun<|PO.round nofun<|PO.blockX<|PO.blockN<|PO.next<|WP.reg<|WL.e e_move<|WL.e (e_addN (b:=1))<|WL.e e_assign<|WL.nil ?_
    exact PO.againK (i+1,ys) ⟨by simp only;omega,by simp only;omega,hJ.done hc hS (.inr (by rw [gp_get hx,gp_get hz];exact h3))⟩ (by simp only;omega)
  ·replace g:j=0:=by rw [decide_eq_false_iff_not] at g;omega
   refine RW.skip 4 rfl<|RW.skip 5 rfl<|RW.skip 6 rfl<|RW.skip 7 rfl<|RW.skip 8 rfl<|RW.skip 9 rfl<|RW.skip 10 rfl<|RW.skip 11 rfl<|RW.skip 12 rfl<|RW.skip 13 rfl<|RW.skip 14 rfl<|RW.skip 15 rfl<|RW.e 16 rfl e_pick_f<|RW.done<|PO.next<|WP.cond_f rfl<|WP.exit<|PO.past nofun<|PO.round nofun<|PO.blockX<|PO.blockN<|PO.next<|WP.reg<|WL.e e_move ?_
   refine WL.e (e_addN (b:=1))<|WL.e e_assign<|WL.nil ?_
   exact PO.againK (i+1,ys) ⟨by simp only;omega,by simp only;omega,hJ.done hc hS (.inl g)⟩ (by simp only;omega)
 ·replace h1:xs.length≤i:=by rw [decide_eq_false_iff_not] at h1;omega
  obtain ⟨hf1,hf2⟩:=hI.full h1
  refine WP.exit<|PO.past nofun<|PO.round nofun<|PO.blockX ?_
  exact PO.fin Tryz.results120 rv_nil (hK _ hf1 hf2)
end Go.SL
