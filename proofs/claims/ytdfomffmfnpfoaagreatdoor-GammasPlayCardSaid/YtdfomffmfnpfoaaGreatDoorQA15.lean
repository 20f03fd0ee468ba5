import Derived.Test.YtdfomffmfnpfoaaGreatDoorQA14
set_option linter.unusedSimpArgs false
set_option linter.unusedVariables false
set_option linter.unusedSectionVars false
namespace Go.SL
open Go
structure WasM where
  at_:UInt32
  val:UInt32
  gone:Bool
def WasM.c (w:WasM):List Value:=[.int .u32 w.at_.toNat,.int .u32 w.val.toNat,.bool w.gone]
abbrev PS:=List (ByteArray × List WasM)
def findP (ws:List WasM) (n:UInt32):UInt32 × Bool:=match ws.reverse.find? fun w=>decide (w.at_≤n) with
  | some w=>(w.val,!w.gone)
  | none=>(0,false)
def valW (ws:List WasM) (n:UInt32):Option UInt32:=if (findP ws n).2 then some (findP ws n).1 else none
def lastW (ws:List WasM):UInt32:=(ws.getLast?.map (·.at_)).getD 0
def addW1 (ws:List WasM) (n:UInt32) (c:ChgM):List WasM:=(if ws≠[]∧lastW ws=n then ws.dropLast else ws)++[⟨n,c.val,c.gone⟩]
def putS (l:PS) (n:UInt32) (c:ChgM):PS:=setS l c.key (addW1 ((getS l c.key).getD []) n c)
def stepP (n:UInt32) (r:List RowM) (p:ByteArray × List WasM):List RowM:=match valW p.2 n with
  | some v=>setR r p.1 v
  | none=>r
def rowsP (l:PS) (n:UInt32):List RowM:=l.foldl (stepP n) []
def trimI (ws:List WasM) (n:UInt32):Nat→Nat
  | 0=>0
  | i+1=>match ws[i+1]? with
    | some w=>if n < w.at_ then trimI ws n i else i+1
    | none=>0
def trimW (ws:List WasM) (n:UInt32):List WasM:=ws.drop (trimI ws n (ws.length - 1))
instance memB (k:ByteArray) (l:List ByteArray):Decidable (k ∈ l):=@List.instDecidableMemOfLawfulBEq _ instBEqOfDecidableEq _ k l
structure TrimI (es:List (EntV ByteArray WasM)) (n:UInt32) (left st:List (EntV ByteArray WasM)):Prop where
  nl:(left.map (·.key)).Nodup
  sub:∀ y ∈ left,y ∈ st
  old:∀ y ∈ left,y ∈ es
  keys:st.map (·.key)=es.map (·.key)
  nodup:(st.map (·.key)).Nodup
  val:st.map stE=es.map fun e=>(e.key,if e.key ∈ left.map (·.key) then e.ws else trimW e.ws n)
theorem TrimI.first {es:List (EntV ByteArray WasM)} (h:(es.map (·.key)).Nodup) (n:UInt32):TrimI es n es es:=by
  refine ⟨h,fun _ h=>h,fun _ h=>h,rfl,h,List.map_congr_left fun e he=>?_⟩
  rw [if_pos (List.mem_map.2 ⟨e,he,rfl⟩)];rfl
theorem TrimI.done {es st:List (EntV ByteArray WasM)} {n:UInt32} (h:TrimI es n [] st):st.map stE=(es.map stE).map fun p=>(p.1,trimW p.2 n):=by
  rw [h.val,List.map_map];rfl
theorem TrimI.step {es left st A B:List (EntV ByteArray WasM)} {n:UInt32} {y:EntV ByteArray WasM} (h:TrimI es n left st) (hl:left=A++y::B) {j:Nat} (hj:trimW y.ws n=y.ws.drop j):TrimI es n (A++B) (setE st y.key (subS y.sv j y.ws.length 3) (y.ws.drop j)):=by
  have hy:y ∈ st:=h.sub y (by rw [hl];simp)
  have hfe:=findE_mem h.nodup hy
  obtain ⟨A2,B2,h1,_,h3⟩:=delE_keys hfe
  have hnl:=h.nl
  rw [hl,List.map_append,List.map_cons] at hnl
  have hno:y.key ∉ (A++B).map (·.key):=by
    rw [List.map_append]
    intro hm
    obtain ⟨a1,a2,a3⟩:=List.nodup_append.1 hnl
    rcases List.mem_append.1 hm with hm | hm
    · exact a3 _ hm _ (by simp) rfl
    · exact (List.nodup_cons.1 a2).1 hm
  have hkk:(setE st y.key (subS y.sv j y.ws.length 3) (y.ws.drop j)).map (·.key)=st.map (·.key):=by rw [h3,h1];simp
  have hsub:∀ z ∈ A++B,z ∈ left∧z.key≠y.key:=fun z hz=>⟨by rw [hl];simp only [List.mem_append,List.mem_cons] at hz ⊢;rcases hz with h | h;exact .inl h;exact .inr (.inr h),fun e=>hno (e ▸ List.mem_map.2 ⟨z,hz,rfl⟩)⟩
  refine ⟨?_,fun z hz=>?_,fun z hz=>h.old z (hsub z hz).1,by rw [hkk];exact h.keys,by rw [hkk];exact h.nodup,?_⟩
  · rw [List.map_append]
    obtain ⟨a1,a2,a3⟩:=List.nodup_append.1 hnl
    exact List.nodup_append.2 ⟨a1,(List.nodup_cons.1 a2).2,fun a ha b hb=>a3 a ha b (by simp [hb])⟩
  · obtain ⟨k1,k2⟩:=hsub z hz
    have:=h.sub z k1
    rw [h1] at this
    rw [h3]
    simp only [List.mem_append,List.mem_cons] at this ⊢
    rcases this with h | rfl | h
    · exact .inl h
    · exact absurd rfl k2
    · exact .inr (.inr h)
  · 
    have hv:=h.val
    apply List.ext_getElem?
    intro i
    have hi:=congrArg (·[i]?) hv
    simp only [List.getElem?_map] at hi ⊢
    have hyi:st[A2.length]?=some y:=by rw [h1];simp
    have hset:(setE st y.key (subS y.sv j y.ws.length 3) (y.ws.drop j))[i]?=if i=A2.length then some ⟨y.key,subS y.sv j y.ws.length 3,y.ws.drop j⟩ else st[i]?:=by
      rw [h3,h1]
      by_cases e:i=A2.length
      · subst e;simp
      · rw [if_neg e]
        rcases Nat.lt_or_ge i A2.length with hlt | hge
        · rw [List.getElem?_append_left hlt,List.getElem?_append_left hlt]
        · rw [List.getElem?_append_right hge,List.getElem?_append_right hge]
          obtain ⟨q,hq⟩:∃ q,i - A2.length=q+1:=⟨i - A2.length - 1,by omega⟩
          rw [hq];simp
    rw [hset]
    by_cases e:i=A2.length
    · subst e
      rw [if_pos rfl]
      rw [hyi] at hi
      cases hE:es[A2.length]? with
      | none=>rw [hE] at hi;simp at hi
      | some e0=>
        rw [hE] at hi
        simp only [Option.map_some,Option.some.injEq,stE,Prod.mk.injEq] at hi ⊢
        obtain ⟨hi1,hi2⟩:=hi
        rw [← hi1] at hi2 ⊢
        rw [if_pos (by rw [hl];simp)] at hi2
        rw [if_neg hno,← hi2,hj]
        exact ⟨rfl,rfl⟩
    · rw [if_neg e]
      rw [hi]
      cases hE:es[i]? with
      | none=>rfl
      | some e0=>
        simp only [Option.map_some,Option.some.injEq,Prod.mk.injEq,true_and]
        have hne:e0.key≠y.key:=fun ek=>by
          have hlt:=idx_lt hE
          have k1:(es.map (·.key))[i]?=some y.key:=by rw [List.getElem?_map,hE];simp [ek]
          have k2:(es.map (·.key))[A2.length]?=some y.key:=by rw [← h.keys,List.getElem?_map,hyi];rfl
          have hnd:(es.map (·.key)).Nodup:=h.keys ▸ h.nodup
          exact e ((List.getElem?_inj (i:=i) (by simpa using hlt) hnd).1 (k1.trans k2.symm))
        have hiff:e0.key ∈ left.map (·.key)↔e0.key ∈ (A++B).map (·.key):=by
          rw [hl]
          simp only [List.map_append,List.map_cons,List.mem_append,List.mem_cons]
          constructor
          · rintro (h | h | h)
            · exact .inl h
            · exact absurd h hne
            · exact .inr h
          · rintro (h | h)
            · exact .inl h
            · exact .inr (.inr h)
        simp only [hiff]
end Go.SL
namespace Go.SL
open Go
def getR (l:List RowM) (k:ByteArray):Option UInt32:=(l.find? fun r=>decide (r.key=k)).map (·.val)
theorem mem_getR {l:List RowM} (h:Rising l) {r:RowM}:r ∈ l↔getR l r.key=some r.val:=by
 unfold getR
 constructor
 ·intro hr
  cases hf:l.find? fun x=>decide (x.key=r.key) with
  | none=>have:=List.find?_eq_none.1 hf r hr;simp at this
  | some x=>
   have h1:=List.find?_some hf
   have h2:=List.mem_of_find?_eq_some hf
   rw [rising_one h h2 hr (by simpa using h1)];rfl
 ·intro hg
  rw [Option.map_eq_some_iff] at hg
  obtain ⟨x,hx,hv⟩:=hg
  have h1:=List.find?_some hx
  have h2:=List.mem_of_find?_eq_some hx
  have:x=r:=by cases x;cases r;simp at h1 hv;simp [h1,hv]
  exact this ▸ h2
theorem getR_ext {a b:List RowM} (ha:Rising a) (hb:Rising b) (h:∀ k,getR a k=getR b k):a=b:=rising_ext ha hb fun r=>by rw [mem_getR ha,mem_getR hb,h]
theorem getR_mem {l:List RowM} {k:ByteArray} {v:UInt32} (h:getR l k=some v):(⟨k,v⟩:RowM) ∈ l:=by
 unfold getR at h
 rw [Option.map_eq_some_iff] at h
 obtain ⟨x,hx,hv⟩:=h
 have h1:=List.find?_some hx
 have h2:=List.mem_of_find?_eq_some hx
 have:x=⟨k,v⟩:=by cases x;simp at h1 hv;simp [h1,hv]
 exact this ▸ h2
theorem getR_iff {l:List RowM} (h:Rising l) (k:ByteArray) (o:Option UInt32) (hk:∀ v,(⟨k,v⟩:RowM) ∈ l↔o=some v):getR l k=o:=by
 cases e:getR l k with
 | some v=>exact ((hk v).1 (getR_mem e)).symm
 | none=>
  cases o with
  | none=>rfl
  | some v=>have:=(mem_getR h).1 ((hk v).2 rfl);rw [e] at this;cases this
theorem getR_apply {l:List RowM} (h:Rising l) (c:ChgM) (k:ByteArray):getR (applyC l c) k=if k=c.key then (if c.gone then none else some c.val) else getR l k:=by
 refine getR_iff (applyC_rising h c).1 k _ fun v=>?_
 rw [mem_applyC h]
 by_cases e:k=c.key
 ·rw [if_pos e]
  cases hg:c.gone with
  | true=>simp [e]
  | false=>
   simp only [Bool.false_eq_true,if_false,Option.some.injEq]
   constructor
   ·rintro (⟨_,h2⟩ | ⟨_,h2⟩)
    ·cases h2;rfl
    ·exact absurd e h2
   ·rintro rfl;exact .inl ⟨trivial,by rw [e]⟩
 ·rw [if_neg e]
  constructor
  ·rintro (⟨_,h2⟩ | ⟨h1,_⟩)
   ·cases h2;exact absurd rfl e
   ·exact (mem_getR h).1 h1
  ·intro hv;exact .inr ⟨getR_mem hv,e⟩
def rowsN (H:List (List ChgM)) (n:Nat):List RowM:=changeR [] (H.take n).flatten
theorem rowsN_rising (H:List (List ChgM)) (n:Nat):Rising (rowsN H n):=(changeR_rising _ List.Pairwise.nil).1
theorem changeR_app (V:List RowM) (a b:List ChgM):changeR V (a++b)=changeR (changeR V a) b:=by simp [changeR]
theorem rowsN_old {H:List (List ChgM)} {n:Nat} (h:n≤H.length) (cs:List ChgM):rowsN (H++[cs]) n=rowsN H n:=by
 unfold rowsN;rw [List.take_append_of_le_length h]
theorem rowsN_new (H:List (List ChgM)) (cs:List ChgM):rowsN (H++[cs]) (H.length+1)=changeR (rowsN H H.length) cs:=by
 unfold rowsN
 rw [List.take_of_length_le (by simp),List.take_of_length_le (Nat.le_refl _),List.flatten_append,changeR_app];simp
def valP (l:PS) (k:ByteArray) (n:UInt32):Option UInt32:=match getS l k with
 | some ws=>valW ws n
 | none=>none
def lastOk (H:List (List ChgM)) (k:ByteArray) (a:UInt32):Prop:=
 (∃ cs,1≤a.toNat∧H[a.toNat - 1]?=some cs∧∃ c ∈ cs,c.key=k)∧∀ j cs,a.toNat≤j→H[j]?=some cs→∀ c ∈ cs,c.key≠k
structure PastOk (l:PS) (now trim:UInt32) (H:List (List ChgM)):Prop where
 nowH:now.toNat=H.length
 trimH:trim≤now
 nodup:(l.map (·.1)).Nodup
 ne:∀ p ∈ l,p.2≠[]
 keys:∀ p ∈ l,keyOk p.1=true
 le:∀ p ∈ l,∀ w ∈ p.2,w.at_≤now
 val:∀ k n,trim≤n→n≤now→valP l k n=getR (rowsN H n.toNat) k
 last:∀ p ∈ l,lastOk H p.1 (lastW p.2)
 sure:∀ cs ∈ H,∀ c ∈ cs,(getS l c.key).isSome=true
 size:l.length≤H.flatten.length
 lens:∀ p ∈ l,p.2.length≤H.length
theorem last_app (ws:List WasM) (w:WasM):lastW (ws++[w])=w.at_:=by simp [lastW]
theorem addW1_last (ws:List WasM) (n:UInt32) (c:ChgM):lastW (addW1 ws n c)=n:=by unfold addW1;rw [last_app]
theorem addW1_ne (ws:List WasM) (n:UInt32) (c:ChgM):addW1 ws n c≠[]:=by unfold addW1;simp
theorem findP_app (ws:List WasM) (w:WasM) (n:UInt32):findP (ws++[w]) n=if w.at_≤n then (w.val,!w.gone) else findP ws n:=by
 unfold findP
 rw [List.reverse_append,List.reverse_singleton,List.singleton_append,List.find?_cons]
 by_cases h:w.at_≤n <;> simp [h]
theorem last_split {ws:List WasM} (h:ws≠[]):∃ w,ws=ws.dropLast++[w]∧lastW ws=w.at_:=by
 refine ⟨ws.getLast h,(List.dropLast_concat_getLast h).symm,?_⟩
 unfold lastW
 rw [List.getLast?_eq_some_getLast h];rfl
theorem addW1_old (ws:List WasM) {n m:UInt32} (h:m < n) (c:ChgM):valW (addW1 ws n c) m=valW ws m:=by
 have hn:¬ n≤m:=fun e=>UInt32.lt_irrefl _ (UInt32.lt_of_lt_of_le h e)
 have e:findP (addW1 ws n c) m=findP ws m:=by
  unfold addW1
  rw [findP_app]
  simp only [hn,if_false]
  split
  ·rename_i hc
   obtain ⟨w,h1,h2⟩:=last_split hc.1
   conv=>rhs;rw [h1]
   rw [findP_app,← h2,hc.2,if_neg hn]
  ·rfl
 unfold valW;rw [e]
theorem addW1_new (ws:List WasM) (n:UInt32) (c:ChgM):valW (addW1 ws n c) n=if c.gone then none else some c.val:=by
 have e:findP (addW1 ws n c) n=(c.val,!c.gone):=by
  unfold addW1
  rw [findP_app];simp
 unfold valW;rw [e]
 cases c.gone <;> simp
theorem addW1_mem {ws:List WasM} {n:UInt32} {c:ChgM} {w:WasM} (h:w ∈ addW1 ws n c):w ∈ ws∨w.at_=n:=by
 unfold addW1 at h
 rcases List.mem_append.1 h with h | h
 ·split at h
  ·exact .inl (List.dropLast_subset _ h)
  ·exact .inl h
 ·simp at h;subst h;exact .inr rfl
structure MidOk (l:PS) (now trim:UInt32) (H:List (List ChgM)) (pre:List ChgM):Prop where
 nodup:(l.map (·.1)).Nodup
 ne:∀ p ∈ l,p.2≠[]
 keys:∀ p ∈ l,keyOk p.1=true
 le:∀ p ∈ l,∀ w ∈ p.2,w.at_≤now+1
 val:∀ k n,trim≤n→n≤now→valP l k n=getR (rowsN H n.toNat) k
 new:∀ k,valP l k (now+1)=getR (changeR (rowsN H H.length) pre) k
 last:∀ p ∈ l,(lastW p.2=now+1∧∃ c ∈ pre,c.key=p.1)∨(lastOk H p.1 (lastW p.2)∧∀ c ∈ pre,c.key≠p.1)
 sure:∀ cs ∈ H,∀ c ∈ cs,(getS l c.key).isSome=true
 pres:∀ c ∈ pre,(getS l c.key).isSome=true
 size:l.length≤H.flatten.length+pre.length
 lens:∀ p ∈ l,p.2.length≤H.length∨(lastW p.2=now+1∧p.2.length≤H.length+1)
theorem setS_len (l:PS) (k:ByteArray) (ws:List WasM):(setS l k ws).length≤l.length+1:=by
 unfold setS;split <;> simp
theorem MidOk.step {l:PS} {now trim:UInt32} {H:List (List ChgM)} {pre:List ChgM} (h:MidOk l now trim H pre) (hnow:now.toNat=H.length) (hb:H.length < 4294967295) (c:ChgM) (hc:keyOk c.key=true):MidOk (putS l (now+1) c) now trim H (pre++[c]):=by
 have hlt:now < now+1:=by rw [UInt32.lt_iff_toNat_lt,UInt32.toNat_add,hnow];simp;omega
 have hmem:∀ p ∈ putS l (now+1) c,(p.1=c.key∧p.2=addW1 ((getS l c.key).getD []) (now+1) c)∨(p.1≠c.key∧p ∈ l):=fun p hp=>by
  have h1:=getS_mem (setS_nodup h.nodup c.key (addW1 ((getS l c.key).getD []) (now+1) c)) hp
  rw [setS_get] at h1
  by_cases e:p.1=c.key
  ·rw [if_pos e] at h1;exact .inl ⟨e,(Option.some.inj h1).symm⟩
  ·rw [if_neg e] at h1;exact .inr ⟨e,getS_some h1⟩
 have hv:∀ k n,valP (putS l (now+1) c) k n=if k=c.key then valW (addW1 ((getS l c.key).getD []) (now+1) c) n else valP l k n:=fun k n=>by
  unfold valP putS
  rw [setS_get]
  by_cases e:k=c.key <;> simp [e]
 refine ⟨setS_nodup h.nodup _ _,fun p hp=>?_,fun p hp=>?_,fun p hp w hw=>?_,fun k n h1 h2=>?_,fun k=>?_,fun p hp=>?_,fun cs hcs c' hc'=>?_,fun c' hc'=>?_,?_,fun p hp=>?_⟩
 ·rcases hmem p hp with ⟨_,h2⟩ | ⟨_,h2⟩
  ·rw [h2];exact addW1_ne _ _ _
  ·exact h.ne p h2
 ·rcases hmem p hp with ⟨h1,_⟩ | ⟨_,h2⟩
  ·rw [h1];exact hc
  ·exact h.keys p h2
 ·rcases hmem p hp with ⟨_,h2⟩ | ⟨_,h2⟩
  ·rw [h2] at hw
   rcases addW1_mem hw with hw | hw
   ·cases hg:getS l c.key with
    | none=>rw [hg] at hw;simp at hw
    | some ws=>rw [hg] at hw;exact h.le _ (getS_some hg) w hw
   ·rw [hw];exact UInt32.le_refl _
  ·exact h.le p h2 w hw
 ·rw [hv]
  by_cases e:k=c.key
  ·rw [if_pos e,addW1_old _ (UInt32.lt_of_le_of_lt h2 hlt),← h.val k n h1 h2,e]
   unfold valP
   cases getS l c.key <;> rfl
  ·rw [if_neg e];exact h.val k n h1 h2
 ·rw [hv,changeR_snoc,getR_apply (changeR_rising pre (rowsN_rising H _)).1,addW1_new,h.new]
 ·rcases hmem p hp with ⟨h1,h2⟩ | ⟨h1,h2⟩
  ·left
   rw [h2]
   exact ⟨addW1_last _ _ _,c,by simp,h1.symm⟩
  ·rcases h.last p h2 with ⟨a,c',b1,b2⟩ | ⟨a,b⟩
   ·exact .inl ⟨a,c',by simp [b1],b2⟩
   ·refine .inr ⟨a,fun c' hc'=>?_⟩
    rcases List.mem_append.1 hc' with hc' | hc'
    ·exact b c' hc'
    ·simp at hc';subst hc';exact fun e=>h1 e.symm
 ·unfold putS;rw [setS_get];split
  ·rfl
  ·exact h.sure cs hcs c' hc'
 ·unfold putS;rw [setS_get];split
  ·rfl
  ·rcases List.mem_append.1 hc' with hc' | hc'
   ·exact h.pres c' hc'
   ·simp at hc';subst hc';rename_i hne;exact absurd rfl hne
 ·have:=setS_len l c.key (addW1 ((getS l c.key).getD []) (now+1) c)
  have:=h.size
  unfold putS;rw [List.length_append,List.length_singleton];omega
 ·rcases hmem p hp with ⟨_,h2⟩ | ⟨_,h2⟩
  ·right
   rw [h2]
   refine ⟨addW1_last _ _ _,?_⟩
   have hw:((getS l c.key).getD []).length≤H.length∨(lastW ((getS l c.key).getD [])=now+1∧((getS l c.key).getD []).length≤H.length+1):=by
    cases hg:getS l c.key with
    | none=>left;simp
    | some ws=>exact h.lens _ (getS_some hg)
   unfold addW1
   rw [List.length_append,List.length_singleton]
   split
   ·rename_i hc'
    rw [List.length_dropLast]
    have:=List.length_pos_iff.2 hc'.1
    rcases hw with hw | ⟨_,hw⟩ <;> omega
   ·rename_i hc'
    rcases hw with hw | ⟨hl,hw⟩
    ·omega
    ·have:(getS l c.key).getD []=[]:=by
      cases e:(getS l c.key).getD [] with
      | nil=>rfl
      | cons a b=>exact absurd ⟨by rw [e];simp,hl⟩ hc'
     rw [this];simp
  ·exact h.lens p h2
theorem MidOk.done {l l0:PS} {now trim:UInt32} {H:List (List ChgM)} (h:PastOk l0 now trim H) (hb:H.length < 4294967295) {cs:List ChgM} (hm:MidOk l now trim H cs):PastOk l (now+1) trim (H++[cs]):=by
 have hn1:(now+1).toNat=H.length+1:=by rw [UInt32.toNat_add,h.nowH];simp;omega
 have hlt:now < now+1:=by rw [UInt32.lt_iff_toNat_lt,hn1,h.nowH];omega
 refine ⟨by rw [hn1];simp,UInt32.le_trans h.trimH (UInt32.le_of_lt hlt),hm.nodup,hm.ne,hm.keys,hm.le,fun k n h1 h2=>?_,fun p hp=>?_,fun cs' hcs c' hc'=>?_,by have:=hm.size;rw [List.flatten_append,List.length_append,List.flatten_singleton];exact this,fun p hp=>by have:=hm.lens p hp;rw [List.length_append,List.length_singleton];omega⟩
 ·by_cases e:n=now+1
  ·subst e;rw [hm.new,hn1,rowsN_new]
  ·have hle:n≤now:=by
    rw [UInt32.le_iff_toNat_le] at h2 ⊢
    have:n.toNat≠(now+1).toNat:=fun h3=>e (UInt32.toNat_inj.1 h3)
    rw [hn1] at this h2;rw [h.nowH];omega
   rw [hm.val k n h1 hle,rowsN_old]
   rw [UInt32.le_iff_toNat_le,h.nowH] at hle;exact hle
 ·rcases hm.last p hp with ⟨h1,c,h2,h3⟩ | ⟨⟨⟨cs',h1,h2,h3⟩,h4⟩,h5⟩
  ·rw [h1]
   refine ⟨⟨cs,by omega,by rw [hn1];simp,c,h2,h3⟩,fun j cs' hj hcs=>?_⟩
   rw [hn1] at hj
   rw [List.getElem?_eq_none (by simp;omega)] at hcs;cases hcs
  ·refine ⟨⟨cs',h1,?_,h3⟩,fun j cs'' hj hcs=>?_⟩
   ·rw [List.getElem?_append_left (idx_lt h2)];exact h2
   ·rcases Nat.lt_or_ge j H.length with hjl | hjl
    ·rw [List.getElem?_append_left hjl] at hcs;exact h4 j cs'' hj hcs
    ·rw [List.getElem?_append_right hjl] at hcs
     have:cs''=cs:=by
      cases hd:j - H.length with
      | zero=>rw [hd] at hcs;simpa using hcs.symm
      | succ q=>rw [hd] at hcs;simp at hcs
     subst this;exact h5
 ·rcases List.mem_append.1 hcs with hcs | hcs
  ·exact hm.sure cs' hcs c' hc'
  ·simp at hcs;subst hcs;exact hm.pres c' hc'
theorem foldP_rising (n:UInt32):∀ (l:PS) {r:List RowM},Rising r→Rising (l.foldl (stepP n) r)
 | [],_,h=>h
 | p::l,r,h=>by
  rw [List.foldl_cons]
  apply foldP_rising n l
  unfold stepP
  split
  ·exact (setR_spec h _ _).1
  ·exact h
theorem foldP_get (n:UInt32) (k:ByteArray):∀ (l:PS) {r:List RowM},(l.map (·.1)).Nodup→Rising r→getR (l.foldl (stepP n) r) k=(valP l k n).or (getR r k)
 | [],_,_,_=>rfl
 | p::l,r,hn,h=>by
  rw [List.foldl_cons]
  rw [List.map_cons] at hn
  obtain ⟨hn1,hn2⟩:=List.nodup_cons.1 hn
  have hset:∀ v,getR (setR r p.1 v) k=if k=p.1 then some v else getR r k:=fun v=>by
   have:=getR_apply h ⟨p.1,v,false⟩ k
   simpa [applyC] using this
  have hP:valP (p::l) k n=if p.1=k then valW p.2 n else valP l k n:=by
   unfold valP getS
   rw [List.find?_cons]
   by_cases e:p.1=k <;> simp [e]
  rw [hP]
  by_cases e:p.1=k
  ·rw [if_pos e]
   have hno:valP l k n=none:=by
    unfold valP
    cases hg:getS l k with
    | none=>rfl
    | some ws=>exact absurd (List.mem_map.2 ⟨_,getS_some hg,rfl⟩) (e ▸ hn1)
   cases hv:valW p.2 n with
   | none=>rw [show stepP n r p=r by unfold stepP;rw [hv],foldP_get n k l hn2 h,hno]
   | some v=>rw [show stepP n r p=setR r p.1 v by unfold stepP;rw [hv],foldP_get n k l hn2 (setR_spec h _ _).1,hno,hset,if_pos e.symm];rfl
  ·rw [if_neg e]
   cases hv:valW p.2 n with
   | none=>rw [show stepP n r p=r by unfold stepP;rw [hv],foldP_get n k l hn2 h]
   | some v=>
    rw [show stepP n r p=setR r p.1 v by unfold stepP;rw [hv],foldP_get n k l hn2 (setR_spec h _ _).1,hset,if_neg (fun h=>e h.symm)]
theorem rowsP_rising (l:PS) (n:UInt32):Rising (rowsP l n):=foldP_rising n l List.Pairwise.nil
theorem PastOk.rows {l:PS} {now trim:UInt32} {H:List (List ChgM)} (h:PastOk l now trim H) {n:UInt32} (h1:trim≤n) (h2:n≤now):rowsP l n=rowsN H n.toNat:=by
 refine getR_ext (rowsP_rising l n) (rowsN_rising H _) fun k=>?_
 rw [← h.val k n h1 h2]
 unfold rowsP
 rw [foldP_get n k l h.nodup List.Pairwise.nil]
 cases valP l k n <;> rfl
def sinceH (H:List (List ChgM)) (n:Nat) (s:SpanM):Bool:=(H.drop n).any fun cs=>cs.any fun c=>inSpan s c.key
theorem PastOk.init:PastOk [] 0 0 []:=⟨rfl,UInt32.le_refl _,List.nodup_nil,by simp,by simp,by simp,fun k n _ _=>by simp [valP,getS,rowsN,changeR,getR],by simp,by simp,by simp,by simp⟩
structure ScanI (l:PS) (n:UInt32) (left:List ByteArray) (rows:List RowM):Prop where
 rising:Rising rows
 nodup:left.Nodup
 val:∀ k,getR rows k=if k ∈ left then none else valP l k n
theorem ScanI.first {l:PS} {left:List ByteArray} (h:left=l.map (·.1)) (hn:(l.map (·.1)).Nodup) (n:UInt32):ScanI l n left []:=by
 refine ⟨List.Pairwise.nil,h ▸ hn,fun k=>?_⟩
 split
 ·rfl
 ·rename_i hk
  unfold valP
  cases hg:getS l k with
  | none=>rfl
  | some ws=>exact absurd (h ▸ List.mem_map.2 ⟨_,getS_some hg,rfl⟩) hk
theorem getR_set {l:List RowM} (h:Rising l) (k:ByteArray) (v:UInt32) (j:ByteArray):getR (setR l k v) j=if j=k then some v else getR l j:=by
 have:=getR_apply h ⟨k,v,false⟩ j
 simpa [applyC] using this
theorem mid_nodup {A B:List ByteArray} {k:ByteArray} (h:(A++k::B).Nodup):(A++B).Nodup∧k ∉ A++B:=by
 obtain ⟨a1,a2,a3⟩:=List.nodup_append.1 h
 obtain ⟨b1,b2⟩:=List.nodup_cons.1 a2
 refine ⟨List.nodup_append.2 ⟨a1,b2,fun a ha b hb=>a3 a ha b (by simp [hb])⟩,fun hm=>?_⟩
 rcases List.mem_append.1 hm with hm | hm
 ·exact a3 _ hm _ (by simp) rfl
 ·exact b1 hm
theorem ScanI.put {l:PS} {n:UInt32} {left A B:List ByteArray} {rows:List RowM} {k:ByteArray} {ws:List WasM} (h:ScanI l n left rows) (hl:left=A++k::B) (hg:getS l k=some ws) (hf:(findP ws n).2=true):ScanI l n (A++B) (setR rows k (findP ws n).1):=by
 obtain ⟨h1,h2⟩:=mid_nodup (hl ▸ h.nodup)
 refine ⟨(setR_spec h.rising _ _).1,h1,fun j=>?_⟩
 rw [getR_set h.rising]
 by_cases e:j=k
 ·subst e
  rw [if_pos rfl,if_neg h2]
  unfold valP;rw [hg];simp [valW,hf]
 ·rw [if_neg e,h.val,hl]
  have:j ∈ A++k::B↔j ∈ A++B:=by simp [e]
  simp only [this]
theorem ScanI.skip {l:PS} {n:UInt32} {left A B:List ByteArray} {rows:List RowM} {k:ByteArray} {ws:List WasM} (h:ScanI l n left rows) (hl:left=A++k::B) (hg:getS l k=some ws) (hf:(findP ws n).2=false):ScanI l n (A++B) rows:=by
 obtain ⟨h1,h2⟩:=mid_nodup (hl ▸ h.nodup)
 refine ⟨h.rising,h1,fun j=>?_⟩
 rw [h.val,hl]
 by_cases e:j=k
 ·subst e
  rw [if_pos (by simp),if_neg h2]
  unfold valP;rw [hg];simp [valW,hf]
 ·have:j ∈ A++k::B↔j ∈ A++B:=by simp [e]
  simp only [this]
theorem ScanI.done {l:PS} {now trim n:UInt32} {H:List (List ChgM)} {rows:List RowM} (h:ScanI l n [] rows) (hP:PastOk l now trim H) (h1:trim≤n) (h2:n≤now):rows=rowsN H n.toNat:=by
 refine getR_ext h.rising (rowsN_rising H _) fun k=>?_
 rw [h.val,← hP.val k n h1 h2];simp
end Go.SL
namespace Go.SL
open Go
structure TxU (κ σ:Type) where
  id:κ
  q:Nat
  x:σ
section
variable {κ σ : Type} [DecidableEq κ]
def findU (ts:List (TxU κ σ)) (n:κ):Option (TxU κ σ):=ts.find? fun t=>decide (t.id=n)
def delU (ts:List (TxU κ σ)) (n:κ):List (TxU κ σ):=ts.eraseP fun t=>decide (t.id=n)
def setU (ts:List (TxU κ σ)) (n:κ) (x:σ):List (TxU κ σ):=ts.map fun o=>if o.id=n then { o with x:=x } else o
theorem findU_mid {ts:List (TxU κ σ)} {n:κ} {t:TxU κ σ} (h:findU ts n=some t):t.id=n∧∃ A B,ts=A++t::B∧delU ts n=A++B∧∀ x ∈ A,x.id≠n:=by
  unfold findU at h
  induction ts with
  | nil=>simp at h
  | cons x ts ih=>
    rw [List.find?_cons] at h
    by_cases e:x.id=n
    · simp [e] at h;subst h
      exact ⟨e,[],ts,rfl,by simp [delU,e],by simp⟩
    · simp [e] at h
      obtain ⟨h1,A,B,h2,h3,h4⟩:=ih (by simpa using h)
      refine ⟨h1,x::A,B,by simp [h2],by simp only [delU,List.eraseP_cons,e,decide_false,cond_false,List.cons_append] at h3 ⊢;rw [h3],?_⟩
      intro y hy
      rcases List.mem_cons.1 hy with rfl | hy
      · exact e
      · exact h4 y hy
theorem findU_mem {ts:List (TxU κ σ)} {n:κ} {t:TxU κ σ} (h:findU ts n=some t):t ∈ ts:=List.mem_of_find?_eq_some h
theorem findU_none {ts:List (TxU κ σ)} {n:κ} (h:findU ts n=none):n ∉ ts.map (·.id):=by
  intro hm
  obtain ⟨t,ht,rfl⟩:=List.mem_map.1 hm
  have:=List.find?_eq_none.1 h t ht
  simp at this
theorem nodupU_mid {A B:List (TxU κ σ)} {t:TxU κ σ} (h:((A++t::B).map (·.id)).Nodup):∀ x ∈ A++B,x.id≠t.id:=by
  rw [List.map_append,List.map_cons] at h
  obtain ⟨h1,h2,h3⟩:=List.nodup_append.1 h
  have h4:=(List.nodup_cons.1 h2).1
  intro x hx e
  rcases List.mem_append.1 hx with hx | hx
  · exact h3 x.id (List.mem_map.2 ⟨x,hx,rfl⟩) t.id (by simp) e
  · exact h4 (e ▸ List.mem_map.2 ⟨x,hx,rfl⟩)
theorem findU_of {ts:List (TxU κ σ)} (hn:(ts.map (·.id)).Nodup) {t:TxU κ σ} (ht:t ∈ ts):findU ts t.id=some t:=by
  obtain ⟨A,B,rfl⟩:=List.append_of_mem ht
  unfold findU
  rw [List.find?_append,List.find?_eq_none.2 (fun x hx=>by have:=nodupU_mid hn x (by simp [hx]);simpa using this)]
  simp
theorem delU_sub {ts:List (TxU κ σ)} {n:κ}:(delU ts n).Sublist ts:=List.eraseP_sublist
theorem setU_mid {A B:List (TxU κ σ)} {t:TxU κ σ} (h:((A++t::B).map (·.id)).Nodup) (x:σ):setU (A++t::B) t.id x=A++{ t with x:=x }::B:=by
  have hn:=nodupU_mid h
  unfold setU
  rw [List.map_append,List.map_cons,if_pos rfl]
  have e1:∀ l:List (TxU κ σ),(∀ y ∈ l,y.id≠t.id)→l.map (fun o=>if o.id=t.id then { o with x:=x } else o)=l:=fun l hl=>by
    conv=>rhs;rw [← List.map_id l]
    apply List.map_congr_left
    intro o ho
    rw [if_neg (hl o ho)];rfl
  rw [e1 A (fun x hx=>hn x (by simp [hx])),e1 B (fun x hx=>hn x (by simp [hx]))]
theorem setU_ids (ts:List (TxU κ σ)) (n:κ) (x:σ):(setU ts n x).map (·.id)=ts.map (·.id):=by
  unfold setU
  rw [List.map_map]
  apply List.map_congr_left
  intro o _
  simp only [Function.comp]
  split <;> rfl
theorem setU_mem {ts:List (TxU κ σ)} {n:κ} {x:σ} {o:TxU κ σ} (h:o ∈ setU ts n x):(∃ t ∈ ts,t.id=n∧o={ t with x:=x })∨(o ∈ ts∧o.id≠n):=by
  unfold setU at h
  obtain ⟨t,ht,rfl⟩:=List.mem_map.1 h
  by_cases e:t.id=n
  · left;exact ⟨t,ht,e,by rw [if_pos e]⟩
  · right;rw [if_neg e];exact ⟨ht,e⟩
theorem setU_find {ts:List (TxU κ σ)} {n:κ} {x:σ} (m:κ):findU (setU ts n x) m=(findU ts m).map fun t=>if t.id=n then { t with x:=x } else t:=by
  unfold findU setU
  rw [List.find?_map]
  congr 1
  congr 1
  funext t
  simp only [Function.comp]
  split <;> rfl
def TxsU (TP:TxU κ σ→List HP) (ts:List (TxU κ σ)):HP:=bun (ts.map fun t=>bun (TP t))
variable {TP : TxU κ σ → List HP}
theorem TxsU_nil {L:List HP} {S:Piece} (h:stars L S):stars (TxsU TP []::L) S:=bun_stars (L:=[]) h
theorem TxsU_out {ts A B:List (TxU κ σ)} {t:TxU κ σ} (h:ts=A++t::B):∀ S,TxsU TP ts S→∃ _:Unit,stars (TP t++[TxsU TP (A++B)]) S:=fun S hS=>by
  subst h
  refine ⟨(),?_⟩
  have hS:stars ((A++t::B).map fun t=>bun (TP t)) S:=hS
  rw [List.map_append,List.map_cons] at hS
  have h1:=stars_bun (stars_unmove hS)
  have h2:=stars_append h1
  refine stars_append' ?_
  obtain ⟨S1,S2,a,b,c,d,e⟩:=h2
  refine ⟨S1,S2,a,b,c,d,?_⟩
  rw [TxsU,List.map_append]
  exact bun_stars (M:=[]) (S:=S2) (by simpa using e)
theorem TxsU_in {A B:List (TxU κ σ)} {t:TxU κ σ}:∀ S,stars (TP t++[TxsU TP (A++B)]) S→TxsU TP (A++t::B) S:=fun S hS=>by
  show stars ((A++t::B).map fun t=>bun (TP t)) S
  rw [List.map_append,List.map_cons]
  refine stars_move (bun_stars (L:=TP t) ?_)
  obtain ⟨S1,S2,a,b,c,d,e⟩:=stars_append hS
  refine stars_append' ⟨S1,S2,a,b,c,d,?_⟩
  rw [TxsU,List.map_append] at e
  have:=stars_bun (M:=[]) e
  simpa using this
end
end Go.SL
namespace Go.SL
open Go
theorem recs_framesB:∀ (ys:List (List UInt8)) (rest:List UInt8),(∀ y ∈ ys,(y).length≤16384)→recs rest=[]→recs ((ys.flatMap frame)++rest)=ys.map fun y=>(y,secs (y).length)
  | [],rest,_,h=>by simpa using h
  | y::ys,rest,hy,h=>by
    have ih:=recs_framesB ys rest (fun z hz=>hy z (by simp [hz])) h
    rw [List.flatMap_cons,List.append_assoc,recs_some (getF_frame (hy y (by simp)) _),List.drop_left' (frame_len _),ih]
    rfl
structure DiskLogB (d:DiskM) (at0:Nat) (ys:List (List UInt8)):Prop where
  ok:d.ok
  waits:d.waits=[]
  same:d.sure=d.seen
  len:d.sure.length=4096
  flat:d.seen.flatten=(ys.flatMap frame)++List.replicate ((4096 - at0) * 64) 0
  hat:(ys.map fun y=>secs (y).length).sum=at0
  le:at0≤4096
  yok:∀ y ∈ ys,(y).length≤16384
theorem frames_lenB:∀ (ys:List (List UInt8)),(ys.flatMap frame).length=(ys.map fun y=>secs (y).length).sum * 64
  | []=>rfl
  | y::ys=>by rw [List.flatMap_cons,List.length_append,frames_lenB ys,frame_len];simp;omega
theorem DiskLogB.recs {d:DiskM} {at0:Nat} {ys:List (List UInt8)} (h:DiskLogB d at0 ys):(SL.recs d.seen.flatten).map (·.1)=ys∧((SL.recs d.seen.flatten).map (·.2)).sum=at0∧cleanTo d.seen.flatten d at0 (d.sure.length - at0)=d:=by
  have hr:SL.recs d.seen.flatten=ys.map fun y=>(y,secs (y).length):=by
    rw [h.flat]
    exact recs_framesB ys _ (fun y hy=>h.yok y hy) (recs_zeros _)
  refine ⟨by rw [hr,List.map_map];exact List.map_id' ys,by rw [hr,← h.hat];simp [Function.comp_def],clean_id _ _ _ _ fun j hj=>?_⟩
  have hl:=h.len
  rw [h.flat,List.drop_append,frames_lenB,h.hat,List.drop_of_length_le (by rw [frames_lenB,h.hat];omega),List.nil_append,List.drop_replicate,List.take_replicate]
  congr 1
  omega
theorem DiskLogB.fail {d:DiskM} {at0:Nat} {ys:List (List UInt8)} (h:DiskLogB d at0 ys):(⟨d.sure,d.sure,[]⟩:DiskM)=d:=by
  have h1:=h.same;have h2:=h.waits
  cases d;simp only at h1 h2 ⊢;subst h1 h2;rfl
theorem DiskLogB.sync {d:DiskM} {at0:Nat} {ys:List (List UInt8)} (h:DiskLogB d at0 ys):d.sync=d:=by
  have h1:=h.same;have h2:=h.waits
  cases d;simp only [DiskM.sync] at h1 h2 ⊢;subst h1 h2;rfl
theorem DiskLogB.first:DiskLogB (newDisk 4096).sync 0 []:=
  ⟨newDisk_quiet.ok.sync,rfl,rfl,List.length_replicate,by show (newDisk 4096).seen.flatten=_;rw [new_flat];rfl,rfl,Nat.zero_le _,by simp⟩
theorem DiskLogB.add {d:DiskM} {at0:Nat} {ys:List (List UInt8)} (h:DiskLogB d at0 ys) {y:List UInt8} (hl:(y).length≤16384) (hfit:at0+secs (y).length≤d.sure.length):DiskLogB (addW d at0 (frame (y)) (secs (y).length)).sync (at0+secs (y).length) (ys++[y]):=by
  have hlen:=h.len
  have hsl:=h.ok.len
  obtain ⟨e1,e2⟩:=addW_flat (secs (y).length) d at0 (frame (y)) (frame_len _) (by omega)
  have hfr:(ys.flatMap frame).length=at0 * 64:=by rw [frames_lenB,h.hat]
  refine ⟨(addW_ok _ _ _ _ h.ok).sync,rfl,rfl,by show (addW _ _ _ _).seen.length=_;rw [e2];omega,?_,by rw [List.map_append,List.sum_append,h.hat];simp,by omega,fun z hz=>?_⟩
  · show (addW _ _ _ _).seen.flatten=_
    rw [e1,flat_take64 _ _ h.ok.l2,flat_drop64 _ _ h.ok.l2,h.flat,List.take_left' hfr,List.drop_append,List.drop_of_length_le (by rw [hfr];omega),List.nil_append,hfr,List.drop_replicate,List.flatMap_append]
    simp only [List.flatMap_cons,List.flatMap_nil,List.append_nil]
    congr 2
    omega
  · rcases List.mem_append.1 hz with hz | hz
    · exact h.yok z hz
    · simp at hz;subst hz;exact hl
end Go.SL
namespace Go.SL
open Go
structure TX where
  at_:UInt32
  looked:List SpanM
  own:List ChgM
  waits:List UInt32
structure LockM where
  s:SpanM
  alone:Bool
abbrev TxT:=TxU UInt32 TX
structure StV where
  d:DiskM
  at_:Nat
  H:List (List ChgM)
  trim:UInt32
  locks:List (UInt32 × List LockM)
  txs:List TxT
inductive DoS
  | err (s:StV) (e:Nat)
  | put (s:StV)
  | look (s:StV) (rows:List RowM)
def StV.rows (s:StV):List RowM:=rowsN s.H s.H.length
theorem StV.rising (s:StV):Rising s.rows:=rowsN_rising _ _
structure StOk (s:StV) (b:Nat):Prop where
  log:DiskLogB s.d s.at_ (s.H.map chgsB)
  recs:∀ cs ∈ s.H,cs.length≤4096∧∀ c ∈ cs,chgOk c=true
  sum:s.H.flatten.length+(s.txs.map fun t=>t.x.own.length).sum≤b
  hl:s.H.length≤b
  ids:(s.txs.map (·.id)).Nodup
  own:∀ t ∈ s.txs,∀ c ∈ t.x.own,chgOk c=true
  lks:∀ t ∈ s.txs,t.x.looked.length≤b
  tl:s.txs.length≤32
  bb:b≤1000000000
theorem StOk.mono {s:StV} {b c:Nat} (h:StOk s b) (hb:b≤c) (hc:c≤1000000000):StOk s c:=
  ⟨h.log,h.recs,Nat.le_trans h.sum hb,Nat.le_trans h.hl hb,h.ids,h.own,fun t ht=>Nat.le_trans (h.lks t ht) hb,h.tl,hc⟩
theorem own_sum {ts:List TxT} {t:TxT} (ht:t ∈ ts):t.x.own.length≤(ts.map fun t=>t.x.own.length).sum:=by
  obtain ⟨A,B,rfl⟩:=List.append_of_mem ht
  simp;omega
theorem StOk.own_le {s:StV} {b:Nat} (h:StOk s b) {t:TxT} (ht:t ∈ s.txs):s.H.flatten.length+t.x.own.length≤b:=by
  have:=own_sum ht;have:=h.sum;omega
theorem sum_subU {a b:List TxT} (h:a.Sublist b):(a.map fun t=>t.x.own.length).sum≤(b.map fun t=>t.x.own.length).sum:=by
  induction h with
  | slnil=>simp
  | cons x _ ih=>simp;omega
  | cons_cons x _ ih=>simp;omega
def begE (s:StV) (n:UInt32):Nat:=if n=0 then 1 else if (findU s.txs n).isSome then 7 else if 32≤s.txs.length then 5 else 0
def begT (s:StV) (n:UInt32) (q:Nat):TxT:=⟨n,q,⟨UInt32.ofNat s.H.length,[],[],[]⟩⟩
def begS (s:StV) (n:UInt32) (q:Nat):StV:=if begE s n=0 then { s with txs:=s.txs++[begT s n q] } else s
theorem begE_zero {s:StV} {n:UInt32} (h:begE s n=0):n≠0∧findU s.txs n=none:=by
  unfold begE at h
  split at h
  · cases h
  · rename_i h0
    cases e:findU s.txs n with
    | none=>exact ⟨h0,rfl⟩
    | some t=>rw [e] at h;simp at h
theorem StOk.beg {s:StV} {b:Nat} (h:StOk s b) (n:UInt32) (q:Nat):StOk (begS s n q) b:=by
  unfold begS
  split
  · rename_i hE
    have hf:=(begE_zero hE).2
    refine ⟨h.log,h.recs,?_,h.hl,?_,?_,?_,?_,h.bb⟩
    · have:=h.sum;simpa [begT] using this
    · simp only [List.map_append,List.map_cons,List.map_nil]
      refine List.nodup_append.2 ⟨h.ids,by simp,?_⟩
      intro a ha c hc e
      simp at hc;subst hc;subst e
      exact findU_none hf ha
    · intro t ht
      rcases List.mem_append.1 ht with ht | ht
      · exact h.own t ht
      · simp at ht;subst ht;simp [begT]
    · intro t ht
      rcases List.mem_append.1 ht with ht | ht
      · exact h.lks t ht
      · simp at ht;subst ht;simp [begT]
    · unfold begE at hE
      split at hE
      · cases hE
      · split at hE
        · cases hE
        · split at hE
          · cases hE
          · simp;omega
  · exact h
theorem StOk.sub {s s':StV} {b:Nat} (h:StOk s b) (hd:s'.d=s.d) (ha:s'.at_=s.at_) (hH:s'.H=s.H) (ht:s'.txs.Sublist s.txs):StOk s' b:=
  ⟨by rw [hd,ha,hH];exact h.log,by rw [hH];exact h.recs,by rw [hH];have:=sum_subU ht;have:=h.sum;omega,by rw [hH];exact h.hl,h.ids.sublist (ht.map _),fun t htt=>h.own t (ht.mem htt),fun t htt=>h.lks t (ht.mem htt),Nat.le_trans ht.length_le h.tl,h.bb⟩
def fitsS (s:StV) (t:TX):Prop:=(chgsB t.own).length≤16384∧s.at_+secs (chgsB t.own).length≤s.d.sure.length
instance (s:StV) (t:TX):Decidable (fitsS s t):=by unfold fitsS;infer_instance
theorem chgsB_len (l:List ChgM):(chgsB l).length=2+(l.flatMap chgB).length:=by simp only [chgsB,List.length_append,numB_len]
theorem not_fitsS {s:StV} {t:TX} (h:¬ t.own.length≤4096):¬ fitsS s t:=fun hf=>by
  have h1:=hf.1
  rw [chgsB_len] at h1
  have:=(chgs_len t.own).1
  omega
def addS (e:StV) (own:List ChgM):StV:={ e with d:=(addW e.d e.at_ (frame (chgsB own)) (secs (chgsB own).length)).sync,at_:=e.at_+secs (chgsB own).length,H:=e.H++[own] }
theorem addS_rows (e:StV) (own:List ChgM):(addS e own).rows=changeR e.rows own:=by
  show rowsN (e.H++[own]) (e.H++[own]).length=_
  rw [List.length_append,List.length_singleton,rowsN_new];rfl
theorem StOk.add {s e:StV} {b:Nat} (h:StOk s b) {n:UInt32} {t:TxT} (hf:findU s.txs n=some t) (he:StOk e b) (hd:e.d=s.d) (ha:e.at_=s.at_) (hH:e.H=s.H) (ht:e.txs=delU s.txs n) (hb:s.H.length+1≤b) (hfit:fitsS s t.x):StOk (addS e t.x.own) b:=by
  obtain ⟨_,A,B,hts,hdel,_⟩:=findU_mid hf
  have hmem:=findU_mem hf
  have hle:t.x.own.length≤4096:=by
    rcases Nat.lt_or_ge 4096 t.x.own.length with h5 | h5
    · exact absurd hfit (not_fitsS (by omega))
    · exact h5
  have hl:=he.log.add (y:=chgsB t.x.own) hfit.1 (by rw [ha,hd];exact hfit.2)
  refine ⟨?_,?_,?_,?_,he.ids,he.own,he.lks,he.tl,h.bb⟩
  · show DiskLogB _ _ ((e.H++[t.x.own]).map chgsB)
    rw [List.map_append];exact hl
  · intro cs hcs
    rcases List.mem_append.1 hcs with hcs | hcs
    · exact he.recs cs hcs
    · simp at hcs;subst hcs;exact ⟨hle,h.own t hmem⟩
  · have h1:=h.sum
    show (e.H++[t.x.own]).flatten.length+(e.txs.map _).sum≤b
    rw [ht,hdel,hH]
    rw [hts] at h1
    simp only [List.map_append,List.map_cons,List.sum_append,List.sum_cons,List.flatten_append,List.length_append,List.flatten_singleton] at h1 ⊢
    omega
  · show (e.H++[t.x.own]).length≤b
    rw [hH,List.length_append];exact hb
theorem StOk.upd {s s':StV} {b:Nat} (h:StOk s b) (hb:b+1≤1000000000) {t:TxT} (hm:t ∈ s.txs) {x:TX} (hd:s'.d=s.d) (ha:s'.at_=s.at_) (hH:s'.H=s.H) (ht:s'.txs=setU s.txs t.id x)
    (ho:x.own=t.x.own∨∃ c,chgOk c=true∧x.own=t.x.own++[c]) (hl:x.looked.length≤b+1):StOk s' (b+1):=by
  obtain ⟨A,B,e⟩:=List.append_of_mem hm
  have hp:s'.txs=A++{ t with x:=x }::B:=by rw [ht,e];exact setU_mid (e ▸ h.ids) x
  refine ⟨by rw [hd,ha,hH];exact h.log,by rw [hH];exact h.recs,?_,by rw [hH];have:=h.hl;omega,by rw [ht,setU_ids];exact h.ids,?_,?_,by rw [ht];simp only [setU,List.length_map];exact h.tl,hb⟩
  · rw [hH,hp]
    have h1:=h.sum
    rw [e] at h1
    have h2:x.own.length≤t.x.own.length+1:=by rcases ho with h | ⟨c,_,h⟩ <;> rw [h] <;> simp
    simp only [List.map_append,List.map_cons,List.sum_append,List.sum_cons] at h1 ⊢
    omega
  · rw [hp]
    intro y hy c' hc'
    rcases List.mem_append.1 hy with hy | hy
    · exact h.own y (by rw [e];simp [hy]) c' hc'
    · rcases List.mem_cons.1 hy with rfl | hy
      · rcases ho with h3 | ⟨c,hc,h3⟩
        · exact h.own t hm c' (by simpa [h3] using hc')
        · simp only [h3] at hc'
          rcases List.mem_append.1 hc' with hc' | hc'
          · exact h.own t hm c' hc'
          · simp at hc';subst hc';exact hc
      · exact h.own y (by rw [e];simp [hy]) c' hc'
  · rw [hp]
    intro y hy
    rcases List.mem_append.1 hy with hy | hy
    · exact Nat.le_succ_of_le (h.lks y (by rw [e];simp [hy]))
    · rcases List.mem_cons.1 hy with rfl | hy
      · exact hl
      · exact Nat.le_succ_of_le (h.lks y (by rw [e];simp [hy]))
structure Kind where
  ends:StV→UInt32→StV
  doS:StV→UInt32→OpM→DoS
  chk:StV→TX→Bool
section
variable (I : Kind)
def aboE (s:StV) (n:UInt32):Nat:=if (findU s.txs n).isSome then 0 else 6
def aboS (s:StV) (n:UInt32):StV:=if (findU s.txs n).isSome then I.ends s n else s
def comE (s:StV) (n:UInt32):Nat:=match findU s.txs n with
  | none=>6
  | some t=>if I.chk s t.x then 9 else if fitsS s t.x then 0 else 5
def comN (s:StV) (n:UInt32):UInt32:=if comE I s n=0 then UInt32.ofNat s.H.length+1 else 0
def comS (s:StV) (n:UInt32):StV:=match findU s.txs n with
  | none=>s
  | some t=>if I.chk s t.x then I.ends s n else if fitsS s t.x then addS (I.ends s n) t.x.own else I.ends s n
end
structure Good (I:Kind) where
  Ok:StV→Nat→Prop
  V:StV→Og→Prop
  ok:∀ {s b},Ok s b→StOk s b
  mono:∀ {s b c},Ok s b→b≤c→c≤1000000000→Ok s c
  beg:∀ {s b},Ok s b→∀ n q,Ok (begS s n q) b
  endsE:∀ {s b},Ok s b→∀ n,(I.ends s n).d=s.d∧(I.ends s n).at_=s.at_∧(I.ends s n).H=s.H∧(I.ends s n).txs=delU s.txs n
  ends:∀ {s b},Ok s b→∀ n,Ok (I.ends s n) b
  com:∀ {s b},Ok s b→b+1≤1000000000→∀ n,Ok (comS I s n) (b+1)
  err:∀ {s b n x s' e},Ok s b→I.doS s n x=.err s' e→e≠0∧s'.d=s.d∧s'.at_=s.at_∧s'.H=s.H∧(∀ t ∈ s'.txs,∃ u ∈ s.txs,t.id=u.id)∧Ok s' b∧∀ o,V s o→V s' o
  put:∀ {s b n x s'},Ok s b→b+1≤1000000000→I.doS s n x=.put s'→∃ t ∈ s.txs,t.id=n∧opOk x=true∧writes x=true∧s'.d=s.d∧s'.at_=s.at_∧s'.H=s.H∧(∀ t ∈ s'.txs,∃ u ∈ s.txs,t.id=u.id)∧Ok s' (b+1) ∧
    ∀ o,V s o→V s' (setO o n ((o n).1++[x],(o n).2++[[]]))
  look:∀ {s b n x s' rows},Ok s b→b+1≤1000000000→I.doS s n x=.look s' rows→∃ t ∈ s.txs,t.id=n∧opOk x=true∧writes x=false∧s'.d=s.d∧s'.at_=s.at_∧s'.H=s.H∧(∀ t ∈ s'.txs,∃ u ∈ s.txs,t.id=u.id)∧Ok s' (b+1)∧rows.length≤256 ∧
    ∀ o,V s o→V s' (setO o n ((o n).1++[x],(o n).2++[rows]))
  vbeg:∀ {s b o},Ok s b→V s o→∀ n q,begE s n=0→V (begS s n q) (setO o n ([],[]))
  vends:∀ {s b o},Ok s b→V s o→∀ n,V (I.ends s n) o
  vcongr:∀ {s o o'},V s o→(∀ t ∈ s.txs,o t.id=o' t.id)→V s o'
  vown:∀ {s o},V s o→∀ t ∈ s.txs,t.x.own=chs (o t.id).1∧(∀ x ∈ (o t.id).1,opOk x=true)
  vcom:∀ {s b o n t},Ok s b→V s o→findU s.txs n=some t→I.chk s t.x=false→fitsS s t.x→(runM s.rows (o n).1).1=(o n).2∧V (addS (I.ends s n) t.x.own) o
structure SerC {I:Kind} (G:Good I) (i:Nat) (s:StV) (F all:List DidV) (kvs:List (UInt32 × Value)):Prop where
  ok:G.Ok s i
  v:G.V s (ogD F)
  hist:s.H=all.map fun a=>chs a.ops
  nums:∀ k a,all[k]?=some a→a.num.toNat=k+1
  opsok:∀ a ∈ all,∀ x ∈ a.ops,opOk x=true
  expl:∀ k a,all[k]?=some a→(runM (rowsN s.H k) a.ops).1=a.l.map (·.2)
  has:∀ t ∈ s.txs,(findD F t.id).isSome=true
  opn:OpenOk kvs F
  lenF:∀ d ∈ F,d.ops.length≤i∧d.l.length≤i
  lenA:∀ d ∈ all,d.ops.length≤i∧d.l.length≤i
section
variable {I : Kind} {G : Good I} {i : Nat} {s : StV} {F all : List DidV} {kvs : List (UInt32 × Value)}
theorem SerC.len (h:SerC G i s F all kvs):all.length≤i:=by
  have:=(G.ok h.ok).hl;rw [h.hist,List.length_map] at this;exact this
theorem SerC.mono (h:SerC G i s F all kvs) (hi:i < 1000):SerC G (i+1) s F all kvs:=
  ⟨G.mono h.ok (Nat.le_succ _) (by omega),h.v,h.hist,h.nums,h.opsok,h.expl,h.has,h.opn,fun d hd=>by have:=h.lenF d hd;omega,fun d hd=>by have:=h.lenA d hd;omega⟩
theorem SerC.beg (h:SerC G i s F all kvs) (hi:i < 1000) {n:UInt32} (hE:begE s n=0) (q b:Nat) :
    SerC G (i+1) (begS s n q) (⟨n,b,0,⟨none,0,0⟩,[],⟨none,0,0⟩,[]⟩::delD F n) all (mset kvs n (.pointer (some ⟨b,0,none⟩))):=by
  have h2:=h.mono hi
  have hB:begS s n q={ s with txs:=s.txs++[begT s n q] }:=by rw [begS,if_pos hE]
  have hH:(begS s n q).H=s.H:=by rw [hB]
  refine ⟨G.beg h2.ok n q,?_,by rw [hH];exact h.hist,h.nums,h.opsok,by rw [hH];exact h.expl,fun t ht=>?_,h.opn.new ⟨n,b,0,⟨none,0,0⟩,[],⟨none,0,0⟩,[]⟩,fun d hd=>?_,h2.lenA⟩
  · rw [ogD_set F (d:=⟨n,b,0,⟨none,0,0⟩,[],⟨none,0,0⟩,[]⟩) rfl]
    exact G.vbeg h.ok h.v n q hE
  · rw [findD_cons,findD_del]
    by_cases e:n=t.id
    · simp [e]
    · rw [if_neg e,if_neg (fun e2=>e e2.symm)]
      rw [hB] at ht
      rcases List.mem_append.1 ht with ht | ht
      · exact h.has t ht
      · simp at ht;subst ht;exact absurd rfl e
  · rcases List.mem_cons.1 hd with rfl | hd
    · exact ⟨Nat.zero_le _,Nat.zero_le _⟩
    · exact h2.lenF d (delD_mem hd)
theorem SerC.ends (h:SerC G i s F all kvs) (n:UInt32):SerC G i (I.ends s n) F all kvs:=by
  obtain ⟨_,_,hH,ht⟩:=G.endsE h.ok n
  exact ⟨G.ends h.ok n,G.vends h.ok h.v n,by rw [hH];exact h.hist,h.nums,h.opsok,by rw [hH];exact h.expl,fun t htt=>h.has t (delU_sub.mem (ht ▸ htt)),h.opn,h.lenF,h.lenA⟩
theorem delU_no {ts:List TxT} (h:(ts.map (·.id)).Nodup) (n:UInt32):∀ t ∈ delU ts n,t.id≠n:=by
  cases hf:findU ts n with
  | none=>exact fun t ht e=>findU_none hf (List.mem_map.2 ⟨t,delU_sub.mem ht,e⟩)
  | some t=>
    obtain ⟨hid,A,B,hts,hdel,_⟩:=findU_mid hf
    intro u hu
    rw [← hid]
    exact nodupU_mid (hts ▸ h) u (hdel ▸ hu)
theorem SerC.gone (h:SerC G i s F all kvs) (hi:i < 1000) {n:UInt32} (hn:∀ t ∈ s.txs,t.id≠n):SerC G (i+1) s (delD F n) all (mset kvs n (.pointer none)):=by
  have h2:=h.mono hi
  refine ⟨h2.ok,G.vcongr h.v fun t ht=>?_,h.hist,h.nums,h.opsok,h.expl,fun t ht=>?_,h.opn.nil n,fun d hd=>h2.lenF d (delD_mem hd),h2.lenA⟩
  · unfold ogD;rw [findD_del,if_neg (hn t ht)]
  · rw [findD_del,if_neg (hn t ht)];exact h.has t ht
theorem findU_no {ts:List TxT} {n:UInt32} (h:findU ts n=none):∀ t ∈ ts,t.id≠n:=fun t ht e=>findU_none h (List.mem_map.2 ⟨t,ht,e⟩)
theorem SerC.gone' (h:SerC G i s F all kvs) (hi:i < 1000) (n:UInt32):SerC G (i+1) (I.ends s n) (delD F n) all (mset kvs n (.pointer none)):=by
  refine (h.ends n).gone hi fun t ht=>?_
  rw [(G.endsE h.ok n).2.2.2] at ht
  exact delU_no (G.ok h.ok).ids n t ht
theorem SerC.abo (h:SerC G i s F all kvs) (hi:i < 1000) (n:UInt32):SerC G (i+1) (aboS I s n) (delD F n) all (mset kvs n (.pointer none)):=by
  unfold aboS
  split
  · exact h.gone' hi n
  · rename_i hf
    exact h.gone hi (findU_no (by simpa using hf))
theorem comE_zero {n:UInt32} (hE:comE I s n=0):∃ t,findU s.txs n=some t∧I.chk s t.x=false∧fitsS s t.x∧comS I s n=addS (I.ends s n) t.x.own∧comN I s n=UInt32.ofNat s.H.length+1:=by
  have hN:comN I s n=UInt32.ofNat s.H.length+1:=by rw [comN,if_pos hE]
  unfold comE at hE
  cases hf:findU s.txs n with
  | none=>rw [hf] at hE;simp at hE
  | some t=>
    rw [hf] at hE
    simp only at hE
    cases hc:I.chk s t.x with
    | true=>rw [hc] at hE;simp at hE
    | false=>
      rw [hc] at hE
      by_cases hfit:fitsS s t.x
      · exact ⟨t,rfl,hc,hfit,by simp [comS,hf,hc,hfit],hN⟩
      · simp [hfit] at hE
theorem SerC.com (h:SerC G i s F all kvs) (hi:i < 1000) {n:UInt32} (hE:comE I s n=0):∃ d,findD F n=some d∧(∀ a ∈ all,a.num < comN I s n) ∧
    SerC G (i+1) (comS I s n) (delD F n) (all++[{ d with num:=comN I s n }]) (mset kvs n (.pointer none)):=by
  obtain ⟨t,hf,hc,hfit,hS,hN⟩:=comE_zero hE
  obtain ⟨hid,_⟩:=findU_mid hf
  have hst:=G.ok h.ok
  have hHl:s.H.length=all.length:=by rw [h.hist,List.length_map]
  have hal:=h.len
  have hnum:(comN I s n).toNat=all.length+1:=by
    rw [hN,UInt32.toNat_add,UInt32.toNat_ofNat',hHl];simp;omega
  obtain ⟨d,hd⟩:=Option.isSome_iff_exists.1 (h.has t (findU_mem hf))
  rw [hid] at hd
  have hog:ogD F n=(d.ops,d.l.map (·.2)):=ogD_some hd
  obtain ⟨hown,hopk⟩:=G.vown h.v t (findU_mem hf)
  rw [hid,hog] at hown hopk
  obtain ⟨hv1,hv2⟩:=G.vcom h.ok h.v hf hc hfit
  rw [hog] at hv1
  obtain ⟨eD,eA,eH,eT⟩:=G.endsE h.ok n
  have hH:(comS I s n).H=s.H++[t.x.own]:=by rw [hS];show (I.ends s n).H++_=_;rw [eH]
  have hT:(comS I s n).txs=delU s.txs n:=by rw [hS];exact eT
  have hno:∀ u ∈ (comS I s n).txs,u.id≠n:=fun u hu=>delU_no hst.ids n u (hT ▸ hu)
  refine ⟨d,hd,fun a ha=>?_,G.com h.ok (by omega) n,?_,?_,?_,?_,?_,fun u hu=>?_,h.opn.nil n,fun a ha=>?_,fun a ha=>?_⟩
  · obtain ⟨k,hk⟩:=List.mem_iff_getElem?.1 ha
    have:=h.nums k a hk
    have:=idx_lt hk
    rw [UInt32.lt_iff_toNat_lt];omega
  · rw [hS]
    refine G.vcongr hv2 fun u hu=>?_
    have:=hno u (by rw [hS];exact hu)
    unfold ogD;rw [findD_del,if_neg this]
  · rw [hH,List.map_append,h.hist,hown];rfl
  · intro k a hk
    rcases Nat.lt_or_ge k all.length with hlt | hge
    · rw [List.getElem?_append_left hlt] at hk;exact h.nums k a hk
    · rw [List.getElem?_append_right hge] at hk
      have:k=all.length:=by
        have:=idx_lt hk;simp at this;omega
      subst this
      simp at hk;subst hk;exact hnum
  · intro a ha
    rcases List.mem_append.1 ha with ha | ha
    · exact h.opsok a ha
    · simp at ha;subst ha;exact hopk
  · intro k a hk
    rcases Nat.lt_or_ge k all.length with hlt | hge
    · rw [List.getElem?_append_left hlt] at hk
      rw [hH,rowsN_old (by omega)];exact h.expl k a hk
    · rw [List.getElem?_append_right hge] at hk
      have:k=all.length:=by
        have:=idx_lt hk;simp at this;omega
      subst this
      simp at hk;subst hk
      rw [hH,rowsN_old (by omega),← hHl];exact hv1
  · rw [findD_del,if_neg (hno u hu)];exact h.has u (delU_sub.mem (hT ▸ hu))
  · have:=h.lenF a (delD_mem ha);omega
  · rcases List.mem_append.1 ha with ha | ha
    · have:=h.lenA a ha;omega
    · simp at ha;subst ha;have:=h.lenF d (findD_id hd).1;simp;omega
theorem SerC.err (h:SerC G i s F all kvs) (hi:i < 1000) {n:UInt32} {x:OpM} {s':StV} {e:Nat} (he:I.doS s n x=.err s' e):e≠0∧SerC G (i+1) s' F all kvs:=by
  obtain ⟨h0,_,_,hH,ht,hok,hv⟩:=G.err h.ok he
  have hm:=h.mono hi
  refine ⟨h0,G.mono hok (Nat.le_succ _) (by omega),hv _ h.v,by rw [hH];exact h.hist,h.nums,h.opsok,by rw [hH];exact h.expl,fun t htt=>?_,h.opn,hm.lenF,hm.lenA⟩
  obtain ⟨u,hu,e⟩:=ht t htt
  rw [e];exact h.has u hu
theorem SerC.upd (h:SerC G i s F all kvs) (hi:i < 1000) {n:UInt32} {x:OpM} {s':StV} {d:DidV} {r:SV × List RowM} (hd:findD F n=some d) (hok:G.Ok s' (i+1)) (hH:s'.H=s.H) (ht:∀ t ∈ s'.txs,∃ u ∈ s.txs,t.id=u.id)
    (hs:G.V s' (setO (ogD F) n ((ogD F n).1++[x],(ogD F n).2++[r.2]))) (os ls:SV):SerC G (i+1) s' ({ d with os:=os,ops:=d.ops++[x],ls:=ls,l:=d.l++[r] }::delD F n) all kvs:=by
  have hm:=h.mono hi
  obtain ⟨hdm,hid⟩:=findD_id hd
  refine ⟨hok,?_,by rw [hH];exact h.hist,h.nums,h.opsok,by rw [hH];exact h.expl,fun t htt=>?_,h.opn.upd hd hid rfl,fun a ha=>?_,hm.lenA⟩
  · rw [ogD_set F (n:=n) (by exact hid)]
    rw [ogD_some hd] at hs
    simpa using hs
  · rw [findD_cons,findD_del]
    by_cases e:d.id=t.id
    · rw [if_pos e];rfl
    · rw [if_neg e,if_neg (fun e2=>e (hid.trans e2.symm))]
      obtain ⟨u,hu,e3⟩:=ht t htt
      rw [e3];exact h.has u hu
  · rcases List.mem_cons.1 ha with rfl | ha
    · have:=h.lenF d hdm;simp;omega
    · exact hm.lenF a (delD_mem ha)
theorem SerC.put (h:SerC G i s F all kvs) (hi:i < 1000) {n:UInt32} {x:OpM} {s':StV} (hd:I.doS s n x=.put s'):∃ d,findD F n=some d∧∀ os ls,SerC G (i+1) s' ({ d with os:=os,ops:=d.ops++[x],ls:=ls,l:=d.l++[((⟨none,0,0⟩:SV),([]:List RowM))] }::delD F n) all kvs:=by
  obtain ⟨t,htm,hid,hx,hw,_,_,hH,ht,hok,hv⟩:=G.put h.ok (by omega) hd
  obtain ⟨d,he⟩:=Option.isSome_iff_exists.1 (h.has t htm)
  rw [hid] at he
  exact ⟨d,he,h.upd hi (x:=x) (r:=(⟨none,0,0⟩,[])) he hok hH ht (hv _ h.v)⟩
theorem SerC.look (h:SerC G i s F all kvs) (hi:i < 1000) {n:UInt32} {x:OpM} {s':StV} {rows:List RowM} (hd:I.doS s n x=.look s' rows) (sv:SV):∃ d,findD F n=some d∧∀ os ls,SerC G (i+1) s' ({ d with os:=os,ops:=d.ops++[x],ls:=ls,l:=d.l++[(sv,rows)] }::delD F n) all kvs:=by
  obtain ⟨t,htm,hid,hx,hw,_,_,hH,ht,hok,_,hv⟩:=G.look h.ok (by omega) hd
  obtain ⟨d,he⟩:=Option.isSome_iff_exists.1 (h.has t htm)
  rw [hid] at he
  exact ⟨d,he,h.upd hi (x:=x) (r:=(sv,rows)) he hok hH ht (hv _ h.v)⟩
def rowsC (all:List DidV) (k:Nat):List RowM:=rowsN (all.map fun a=>chs a.ops) k
theorem keys_rowsN {H:List (List ChgM)} (h:∀ cs ∈ H,∀ c ∈ cs,chgOk c=true) (k:Nat):KeysOk (rowsN H k):=
  changeR_keys List.Pairwise.nil (by simp [KeysOk]) fun c hc=>by
    obtain ⟨cs,h1,h2⟩:=List.mem_flatten.1 hc
    exact h cs (List.mem_of_mem_take h1) c h2
theorem SerC.run (h:SerC G i s F all kvs) {k:Nat} {a:DidV} (ha:all[k]?=some a) :
    (runM (rowsC all k) a.ops).1=a.l.map (·.2)∧(runM (rowsC all k) a.ops).2=rowsC all (k+1)∧(∀ x ∈ a.ops,opOk x=true)∧Rising (rowsC all k)∧KeysOk (rowsC all k)∧(rowsC all (k+1)).length≤(rowsC all k).length+i∧a.ops.length≤i∧a.l.length≤i:=by
  have hop:=h.opsok a (List.mem_of_getElem? ha)
  have h5:=h.lenA a (List.mem_of_getElem? ha)
  have hr:Rising (rowsC all k):=rowsN_rising _ _
  have h1:=h.expl k a ha
  have h2:(runM (rowsC all k) a.ops).2=rowsC all (k+1):=by
    rw [run_left hr a.ops hop]
    unfold rowsC rowsN
    rw [take_snoc (show (all.map fun a=>chs a.ops)[k]?=some (chs a.ops) by rw [List.getElem?_map,ha];rfl),List.flatten_append,changeR_app]
    simp
  have h6:=(runM_rows hr a.ops).2.1
  refine ⟨by unfold rowsC;rw [← h.hist];exact h1,h2,hop,hr,?_,?_,h5⟩
  · unfold rowsC
    rw [← h.hist]
    exact keys_rowsN (fun cs hcs=>((G.ok h.ok).recs cs hcs).2) k
  · rw [← h2];omega
theorem SerC.done (h:SerC G i s F all kvs):s.rows=rowsC all all.length:=by
  unfold StV.rows rowsC;rw [h.hist,List.length_map]
end
end Go.SL
namespace Go.SL
open Go
structure Solo {I:Kind} (G:Good I) where
  S:StV→UInt32→List RowM→List ChgM→Prop
  txs:∀ {s n rows own},S s n rows own→∃ t,s.txs=[t]∧t.id=n∧t.x.own=own∧s.rows=rows
  chk:∀ {s n rows own b},S s n rows own→G.Ok s b→∀ t ∈ s.txs,I.chk s t.x=false
  bad:∀ {s n x},opOk x=false→I.doS s n x=.err s 1
  put:∀ {s n rows own b x},S s n rows own→G.Ok s b→opOk x=true→writes x=true→∃ s',I.doS s n x=.put s'∧S s' n rows (own++[chgOf x])
  look:∀ {s n rows own b x},S s n rows own→G.Ok s b→opOk x=true→writes x=false→∃ s',I.doS s n x=.look s' (scanR (changeR rows own) (spanOf x) 256)∧S s' n rows own
  beg:∀ {s b n},G.Ok s b→s.txs=[]→n≠0→∀ q,S (begS s n q) n s.rows []
structure AloneC {I:Kind} {G:Good I} (Z:Solo G) (n:UInt32) (rows:List RowM) (at0:Nat) (s:StV) (b:Nat) (done:List OpM) (told:List (List RowM)):Prop where
  ok:G.Ok s b
  does:∃ own,Z.S s n rows own∧Does rows own done told
  at_:s.at_≤at0
section
variable {I : Kind} {G : Good I} {Z : Solo G} {n : UInt32} {rows : List RowM} {at0 : Nat} {s : StV} {b : Nat} {done : List OpM} {told : List (List RowM)}
theorem AloneC.mono (h:AloneC Z n rows at0 s b done told) {c:Nat} (hb:b≤c) (hc:c≤1000000000):AloneC Z n rows at0 s c done told:=⟨G.mono h.ok hb hc,h.does,h.at_⟩
theorem AloneC.step (h:AloneC Z n rows at0 s b done told) (hb:b+1≤1000000000) (x:OpM) :
    (opOk x=false∧I.doS s n x=.err s 1)∨(opOk x=true∧∃ s',I.doS s n x=.put s'∧AloneC Z n rows at0 s' (b+1) (done++[x]) (told++[[]])) ∨
    (opOk x=true∧∃ s' r,I.doS s n x=.look s' r∧r.length≤256∧AloneC Z n rows at0 s' (b+1) (done++[x]) (told++[r])):=by
  obtain ⟨own,hS,hD⟩:=h.does
  cases hx:opOk x with
  | false=>exact .inl ⟨rfl,Z.bad hx⟩
  | true=>
    right
    cases hw:writes x with
    | true=>
      left
      obtain ⟨s',h1,h2⟩:=Z.put hS h.ok hx hw
      obtain ⟨_,_,_,_,_,_,hat,_,_,hok,_⟩:=G.put h.ok hb h1
      exact ⟨rfl,s',h1,hok,⟨_,h2,hD.write hx hw⟩,by rw [hat];exact h.at_⟩
    | false=>
      right
      obtain ⟨s',h1,h2⟩:=Z.look hS h.ok hx hw
      obtain ⟨_,_,_,_,_,_,hat,_,_,hok,hl,_⟩:=G.look h.ok hb h1
      refine ⟨rfl,s',_,h1,hl,hok,⟨_,h2,hD.read ?_ hx hw⟩,by rw [hat];exact h.at_⟩
      obtain ⟨_,_,_,_,hr⟩:=Z.txs hS
      rw [← hr];exact s.rising
theorem AloneC.com (h:AloneC Z n rows at0 s b done told) (hb:b≤90) (ha:at0≤1000) :
    comE I s n=0∧(comS I s n).rows=(runM rows done).2∧(comS I s n).txs=[]∧(comS I s n).at_≤at0+82∧G.Ok (comS I s n) (b+1)∧comN I s n=UInt32.ofNat s.H.length+1∧∃ own,(comS I s n).H=s.H++[own]:=by
  obtain ⟨own,hS,hD⟩:=h.does
  obtain ⟨t,ht,hid,ho,hr⟩:=Z.txs hS
  have hck:=Z.chk hS h.ok t (by rw [ht];simp)
  have hok:=G.ok h.ok
  have hf:findU s.txs n=some t:=by rw [ht];simp [findU,hid]
  have hl:t.x.own.length≤90:=by have:=hok.own_le (t:=t) (by rw [ht];simp);omega
  have hc:=(chgs_len t.x.own).2 (hok.own t (by rw [ht];simp))
  have hlen:=chgsB_len t.x.own
  have hat:=h.at_
  have hfit:fitsS s t.x:=⟨by omega,by rw [hok.log.len];unfold secs;omega⟩
  have hE:comE I s n=0:=by simp [comE,hf,hck,hfit]
  have hS2:comS I s n=addS (I.ends s n) t.x.own:=by simp [comS,hf,hck,hfit]
  obtain ⟨e1,e2,e3,e4⟩:=G.endsE h.ok n
  refine ⟨hE,?_,?_,?_,G.com h.ok (by omega) n,by rw [comN,if_pos hE],t.x.own,?_⟩
  · rw [hS2,addS_rows]
    unfold StV.rows at hr ⊢
    rw [e3,hr,ho,hD.left]
  · rw [hS2];show (I.ends s n).txs=[];rw [e4,ht];simp [delU,hid]
  · rw [hS2];show (I.ends s n).at_+_≤_;rw [e2];unfold secs;omega
  · rw [hS2];show (I.ends s n).H++_=_;rw [e3]
theorem AloneC.abo (h:AloneC Z n rows at0 s b done told):aboE s n=0∧(aboS I s n).rows=rows:=by
  obtain ⟨own,hS,hD⟩:=h.does
  obtain ⟨t,ht,hid,ho,hr⟩:=Z.txs hS
  have hf:findU s.txs n=some t:=by rw [ht];simp [findU,hid]
  refine ⟨by simp [aboE,hf],?_⟩
  rw [← hr]
  unfold aboS StV.rows
  rw [hf]
  simp only [Option.isSome_some,if_true]
  rw [(G.endsE h.ok n).2.2.1]
end
def st0 (d:DiskM) (at0:Nat) (H:List (List ChgM)):StV:=⟨d,at0,H,0,[],[]⟩
def stF:StV:=st0 (newDisk 4096).sync 0 []
theorem SerC.first {I:Kind} {G:Good I} (h:G.Ok stF 0) (hv:G.V stF (ogD [])):SerC G 0 stF [] [] []:=
  ⟨h,hv,rfl,by simp,by simp,by simp,by simp [stF,st0],fun n=>rfl,by simp,by simp⟩
end Go.SL
namespace Go.SL
open Go
def leastB (ts:List TxT) (m:UInt32):UInt32:=ts.foldl (fun m t=>if t.x.at_ < m then t.x.at_ else m) m
theorem leastB_spec:∀ (ts:List TxT) (m:UInt32),leastB ts m≤m∧(∀ t ∈ ts,leastB ts m≤t.x.at_)∧(leastB ts m=m∨∃ t ∈ ts,leastB ts m=t.x.at_)
  | [],m=>⟨UInt32.le_refl _,by simp,.inl rfl⟩
  | t::ts,m=>by
    obtain ⟨h1,h2,h3⟩:=leastB_spec ts (if t.x.at_ < m then t.x.at_ else m)
    have e1:(if t.x.at_ < m then t.x.at_ else m)≤m∧(if t.x.at_ < m then t.x.at_ else m)≤t.x.at_:=by
      split
      · rename_i h;exact ⟨UInt32.le_of_lt h,UInt32.le_refl _⟩
      · rename_i h;exact ⟨UInt32.le_refl _,UInt32.not_lt.1 h⟩
    refine ⟨UInt32.le_trans h1 e1.1,fun u hu=>?_,?_⟩
    · rcases List.mem_cons.1 hu with rfl | hu
      · exact UInt32.le_trans h1 e1.2
      · exact h2 u hu
    · show leastB ts _=m∨_
      rcases h3 with h3 | ⟨u,hu,h3⟩
      · by_cases h:t.x.at_ < m
        · right;exact ⟨t,by simp,by show leastB ts _=_;rw [h3,if_pos h]⟩
        · left;rw [h3,if_neg h]
      · right;exact ⟨u,by simp [hu],h3⟩
def endsB (s:StV) (n:UInt32):StV:={ s with txs:=delU s.txs n,trim:=leastB (delU s.txs n) (UInt32.ofNat s.H.length) }
def doB (s:StV) (n:UInt32) (x:OpM):DoS:=
  if opOk x then match findU s.txs n with
    | none=>.err s 6
    | some t=>if writes x then .put { s with txs:=setU s.txs n { t.x with own:=t.x.own++[chgOf x] } }
      else .look { s with txs:=setU s.txs n { t.x with looked:=t.x.looked++[spanOf x] } } (scanR (changeR (rowsN s.H t.x.at_.toNat) t.x.own) (spanOf x) 256)
  else .err s 1
def chkB (s:StV) (t:TX):Bool:=t.looked.any fun p=>sinceH s.H t.at_.toNat p
def betaI:Kind:=⟨endsB,doB,chkB⟩
structure BetOk (s:StV) (b:Nat):Prop where
  st:StOk s b
  trim:s.trim.toNat≤s.H.length
  ats:∀ t ∈ s.txs,s.trim≤t.x.at_∧t.x.at_.toNat≤s.H.length
theorem len32 {s:StV} {b:Nat} (h:StOk s b):(UInt32.ofNat s.H.length).toNat=s.H.length:=by
  have:=h.hl;have:=h.bb
  rw [UInt32.toNat_ofNat'];exact Nat.mod_eq_of_lt (by omega)
theorem ends_trim {s:StV} {b:Nat} (h:BetOk s b) (n:UInt32):s.trim≤(endsB s n).trim∧(endsB s n).trim≤UInt32.ofNat s.H.length∧∀ t ∈ delU s.txs n,(endsB s n).trim≤t.x.at_:=by
  obtain ⟨k1,k2,k3⟩:=leastB_spec (delU s.txs n) (UInt32.ofNat s.H.length)
  refine ⟨?_,k1,k2⟩
  show s.trim≤leastB _ _
  rcases k3 with e | ⟨t,ht,e⟩
  · rw [e,UInt32.le_iff_toNat_le,len32 h.st];exact h.trim
  · rw [e];exact (h.ats t (delU_sub.mem ht)).1
theorem BetOk.ends {s:StV} {b:Nat} (h:BetOk s b) (n:UInt32):BetOk (endsB s n) b:=by
  obtain ⟨h1,h2,h3⟩:=ends_trim h n
  refine ⟨h.st.sub rfl rfl rfl delU_sub,?_,fun t ht=>⟨h3 t ht,(h.ats t (delU_sub.mem ht)).2⟩⟩
  rw [UInt32.le_iff_toNat_le,len32 h.st] at h2;exact h2
theorem BetOk.mono {s:StV} {b c:Nat} (h:BetOk s b) (hb:b≤c) (hc:c≤1000000000):BetOk s c:=⟨h.st.mono hb hc,h.trim,h.ats⟩
theorem BetOk.beg {s:StV} {b:Nat} (h:BetOk s b) (n:UInt32) (q:Nat):BetOk (begS s n q) b:=by
  have hs:=h.st.beg n q
  refine ⟨hs,?_,?_⟩
  · unfold begS;split <;> exact h.trim
  · unfold begS
    split
    · intro t ht
      rcases List.mem_append.1 ht with ht | ht
      · exact h.ats t ht
      · simp at ht;subst ht
        have:=len32 h.st
        exact ⟨by rw [UInt32.le_iff_toNat_le];show _≤(UInt32.ofNat s.H.length).toNat;rw [this];exact h.trim,by show (UInt32.ofNat s.H.length).toNat≤s.H.length;omega⟩
    · exact h.ats
theorem BetOk.com {s:StV} {b:Nat} (h:BetOk s b) (hb:b+1≤1000000000) (n:UInt32):BetOk (comS betaI s n) (b+1):=by
  have hm:=h.mono (Nat.le_succ b) hb
  unfold comS
  cases hf:findU s.txs n with
  | none=>exact hm
  | some t=>
    simp only
    split
    · exact hm.ends n
    · split
      · rename_i hfit
        have he:=hm.ends n
        refine ⟨hm.st.add hf he.st rfl rfl rfl rfl (by have:=h.st.hl;omega) hfit,?_,fun u hu=>⟨(he.ats u hu).1,?_⟩⟩
        · show _≤(s.H++[_]).length
          have:=he.trim;rw [List.length_append];exact Nat.le_trans this (Nat.le_add_right _ _)
        · show _≤(s.H++[_]).length
          have:=(he.ats u hu).2;rw [List.length_append];exact Nat.le_trans this (Nat.le_add_right _ _)
      · exact hm.ends n
theorem BetOk.upd {s:StV} {b:Nat} (h:BetOk s b) (hb:b+1≤1000000000) {n:UInt32} {t:TxT} (hf:findU s.txs n=some t) {x:TX} (ha:x.at_=t.x.at_) (ho:x.own=t.x.own∨∃ c,chgOk c=true∧x.own=t.x.own++[c]) (hl:x.looked.length≤b+1) :
    BetOk { s with txs:=setU s.txs n x } (b+1):=by
  obtain ⟨hid,_⟩:=findU_mid hf
  have hm:=findU_mem hf
  refine ⟨h.st.upd hb hm rfl rfl rfl (by rw [hid]) ho hl,h.trim,fun u hu=>?_⟩
  rcases setU_mem hu with ⟨v,hv,hvi,rfl⟩ | ⟨hu,_⟩
  · have:=h.ats t hm;rw [← ha] at this;exact this
  · exact h.ats u hu
end Go.SL
namespace Go.SL
open Go Go.Proofs Go.Sort
instance:Inhabited RowM:=⟨⟨.empty,0⟩⟩
end Go.SL
namespace Go.SL
open Go Go.Proofs
end Go.SL
namespace Go.SL.Fc
end Go.SL.Fc
namespace Go.SL
open Go Go.Proofs Fc
theorem SameIds_spec {g:World} {A B:HP} {u v:Value} {xs ys:List UInt32} (hA:RL A 1 u32C u xs) (hB:RL B 1 u32C v ys) (hn:xs.length≤68719476736):Spec Tryz.prog g 25 [u,v] [A,B] fun K R=>K (.bool (decide (xs=ys))) (A::B::R):=by
 refine Spec.intro Tryz.func25 rfl Tryz.ntmps25 rfl fun R K hK=>?_
 refine WP.seq<|WP.reg<|WL.e e_assign<|WL.next<|WP.seq<|WP.seq<|WP.reg<|WL.e e_move<|WL.e (el_len sl67 hA)<|WL.e e_move<|WL.e (el_len sl67 hB)<|WL.e e_neq<|WL.next ?_
 refine WP.cond rfl (fun h1=>?_) (fun h1=>?_)
 ·replace h1:xs≠ys:=fun e=>by subst e;simp at h1
  refine WP.seq<|WP.reg<|WL.e e_assign<|WL.next<|WP.ret<|PO.past nofun ?_
  exact PO.finE Tryz.results25 (rv_tmp rv_nil) (by rw [decide_eq_false h1];rfl) hK
 ·replace h1:xs.length=ys.length:=by simp at h1;omega
  refine WP.skip<|PO.next<|WP.seq<|WP.seq<|WP.reg<|WL.e e_assign<|WL.next<|WP.block<|WP.loopK (fun (i:Nat)=>[(5,.int .i64 i)]) (fun (i:Nat)=>A::B::R) [(0,_),(1,_)] (fun (i:Nat)=>i≤xs.length∧xs.take i=ys.take i) (fun (i:Nat)=>xs.length - i) 0 (⟨Nat.zero_le _,rfl⟩) ?_
  rintro i ⟨hi,he⟩
  refine WP.seq<|WP.seq<|WP.reg<|WL.e e_move<|WL.e e_move<|WL.e (el_len sl67 hA)<|WL.e e_lss<|WL.next ?_
  refine WP.cond rfl (fun h2=>?_) (fun h2=>?_)
  ·have hlt:i < xs.length:=by rw [decide_eq_true_eq] at h2;omega
   obtain ⟨x,hx⟩:∃ x,xs[i]?=some x:=⟨_,List.getElem?_eq_getElem hlt⟩
   obtain ⟨y,hy⟩:∃ y,ys[i]?=some y:=⟨_,List.getElem?_eq_getElem (by omega)⟩
   refine WP.skip<|PO.next<|WP.seq<|WP.block<|WP.seq<|WP.draws mixedOk 9<|RW.e 0 rfl e_move<|RW.e 1 rfl e_move<|RW.e 2 rfl (el_ia (j:=i) sl67 hA hlt)<|RW.e 3 rfl (el_load0 (j:=i) (a:=x) a48 u32E hA hx)<|RW.e 4 rfl e_move<|RW.e 5 rfl e_move<|RW.e 6 rfl (el_ia (j:=i) sl67 hB (by omega))<|RW.e 7 rfl (el_load0 (j:=i) (a:=y) a48 u32E hB hy)<|RW.e 8 rfl (e_neq32)<|RW.done<|PO.next ?_
   refine WP.cond rfl (fun h3=>?_) (fun h3=>?_)
   ·replace h3:xs≠ys:=fun e=>by subst e;rw [hx] at hy;cases hy;simp at h3
    refine WP.seq<|WP.reg<|WL.e e_assign<|WL.next<|WP.ret<|PO.blockR<|PO.past nofun<|PO.round nofun<|PO.blockR<|PO.past nofun ?_
    exact PO.finE Tryz.results25 (rv_tmp rv_nil) (by rw [decide_eq_false h3];rfl) hK
   ·replace h3:x=y:=by simpa using h3
    refine WP.skip<|PO.blockN<|PO.next<|WP.reg<|WL.e e_move<|WL.e (e_add (c:=((i+1:Nat):Int)) rfl rfl (by rw [w_i64 (by omega) (by omega)];omega))<|WL.e e_assign<|WL.nil ?_
    exact PO.againK (i+1) ⟨by omega,by rw [take_snoc hx,take_snoc hy,he,h3]⟩ (by omega)
  ·have hge:xs.length≤i:=by rw [decide_eq_false_iff_not] at h2;omega
   replace h2:xs=ys:=by rwa [List.take_of_length_le hge,List.take_of_length_le (by omega)] at he
   refine WP.exit<|PO.past nofun<|PO.round nofun<|PO.blockX<|PO.next<|WP.seq<|WP.reg<|WL.e e_assign<|WL.next<|WP.ret ?_
   exact PO.finE Tryz.results25 (rv_tmp rv_nil) (by rw [decide_eq_true h2];rfl) hK
theorem ClipU_spec {g:World} {u:Value} {xs:List UInt32}:Spec Tryz.prog g 66 [u] [Sl 48 1 u32C u xs] fun K R=>∀ a m c,K (.slice a m c) (Sl 48 1 u32C (.slice a m c) xs::R):=by
 refine Spec.intro Tryz.func66 rfl Tryz.ntmps66 rfl fun R K hK=>?_
 refine WP.seq<|WP.reg<|WL.e e_assign<|WL.next<|WP.seq<|WP.reg<|WL.e e_move<|WL.e e_move<|WL.e (el_len (xs:=xs) sl67 sl_rl)<|WL.e e_move<|WL.e (el_len (xs:=xs) sl67 sl_rl)<|WL.e (el_to3 (hi:=xs.length) (xs:=xs) sl67 sl_rl (Nat.le_refl _))<|WL.e e_assign<|WL.next<|WP.ret<|PO.conv (conv1 (A:=Sl 48 1 u32C u xs) (B:=Sl 48 1 u32C (subV u 0 xs.length (some xs.length) 1) xs) (fun S h=>by have h2:=sl_to3 (i:=xs.length) u32E h (Nat.le_refl _);rwa [List.take_length] at h2) (by repeat first | exact .z | apply Put.s)) ?_
 refine PO.sh (u:=subV u 0 xs.length (some xs.length) 1) fun a9 m9 c9 e9=>?_
 rw [e9]
 exact PO.fin Tryz.results66 (rv_tmp rv_nil) (hK a9 m9 c9)
end Go.SL
