import Derived.Test.YtmeoolijekillaaGreatDoorQL12
import Derived.ProofKit
import Derived.Below
import Derived.Carry
import Derived.Lib.SmallJoins
import Derived.OpenShut
import Derived.ShutString
import Derived.ChangeOld
import Derived.Laws.StructEq
set_option linter.unusedSimpArgs false
set_option linter.unusedVariables false
set_option linter.unusedSectionVars false
namespace Go.SL
open Go
structure WasM where
  at_:UInt32
  val:UInt32
  gone:Bool
def WasM.c (w:WasM):List Value:=[.int .u32 w.at_.toNat,.int .u32 w.val.toNat,.bool w.gone]
theorem wasE:EncOk 3 WasM.c:=⟨fun _=>rfl,fun _=>rfl⟩
abbrev PS:=List (ByteArray × List WasM)
def findP (ws:List WasM) (n:UInt32):UInt32 × Bool:=match ws.reverse.find? fun w=>decide (w.at_≤n) with
  | some w=>(w.val,!w.gone)
  | none=>(0,false)
def valW (ws:List WasM) (n:UInt32):Option UInt32:=if (findP ws n).2 then some (findP ws n).1 else none
def lastW (ws:List WasM):UInt32:=(ws.getLast?.map (·.at_)).getD 0
def addW1 (ws:List WasM) (n:UInt32) (c:ChgM):List WasM:=(if ws≠[]∧lastW ws=n then ws.dropLast else ws)++[⟨n,c.val,c.gone⟩]
def putS (l:PS) (n:UInt32) (c:ChgM):PS:=setS l c.key (addW1 ((getS l c.key).getD []) n c)
def stepP (n:UInt32) (r:List RowM) (p:ByteArray × List WasM):List RowM:=match valW p.2 n with
  | some v=>setR r p.1 v
  | none=>r
def rowsP (l:PS) (n:UInt32):List RowM:=l.foldl (stepP n) []
def trimI (ws:List WasM) (n:UInt32):Nat→Nat
  | 0=>0
  | i+1=>match ws[i+1]? with
    | some w=>if n < w.at_ then trimI ws n i else i+1
    | none=>0
def trimW (ws:List WasM) (n:UInt32):List WasM:=ws.drop (trimI ws n (ws.length - 1))
instance memB (k:ByteArray) (l:List ByteArray):Decidable (k ∈ l):=@List.instDecidableMemOfLawfulBEq _ instBEqOfDecidableEq _ k l
def bwdK (ws:List WasM):Nat→List (Nat × WasM)
  | 0=>[]
  | k+1=>(match ws[k]? with | some w=>[(k,w)] | none=>[])++bwdK ws k
theorem bwdK_map (ws:List WasM):∀ k,k≤ws.length→(bwdK ws k).map (·.2)=(ws.take k).reverse
  | 0,_=>by simp [bwdK]
  | k+1,h=>by
    have hx:=List.getElem?_eq_getElem (show k < ws.length by omega)
    rw [bwdK,hx,take_snoc hx,List.map_append,bwdK_map ws k (by omega),List.reverse_append];rfl
theorem findP_bwd (ws:List WasM) (n:UInt32):findP ws n=match (bwdK ws ws.length).find? (fun x=>decide (x.2.at_≤n)) with
    | some x=>(x.2.val,!x.2.gone)
    | none=>(0,false):=by
  have h:=bwdK_map ws ws.length (Nat.le_refl _)
  rw [List.take_length] at h
  unfold findP
  rw [← h,List.find?_map]
  simp only [Function.comp_def]
  cases (bwdK ws ws.length).find? fun x=>decide (x.2.at_≤n) <;> rfl
theorem findP_none {ws:List WasM} {n:UInt32} (h:Hist (fun _ (x:Nat × WasM)=>¬ x.2.at_≤n) (bwdK ws ws.length)):findP ws n=(0,false):=by
  rw [findP_bwd,List.find?_eq_none.2 (fun x hx=>by simpa using hist_all h x hx)]
theorem findP_some {ws:List WasM} {n:UInt32} {pre:List (Nat × WasM)} {x:Nat × WasM} (hp:∃ r,(pre++[x])++r=bwdK ws ws.length) (h:Hist (fun _ (x:Nat × WasM)=>¬ x.2.at_≤n) pre) (hx:¬ ¬ x.2.at_≤n):findP ws n=(x.2.val,!x.2.gone):=by
  obtain ⟨r,hr⟩:=hp
  rw [findP_bwd,← hr,List.append_assoc,List.find?_append,List.find?_eq_none.2 (fun y hy=>by simpa using hist_all h y hy)]
  simp only [Classical.not_not] at hx
  simp [hx]
theorem ents_key {E z:Nat} {enc:WasM→List Value} {es:List (EntV ByteArray WasM)} (k:ByteArray):RL (Ents E z enc es) z enc (svE es k).v (wsE es k):=by
  cases hf:findE es k with
  | none=>
    unfold svE wsE
    rw [hf]
    exact nil_rl
  | some e=>
    have h1:=ents_rl (E:=E) (z:=z) (enc:=enc) (findE_key hf).1
    unfold svE wsE
    rw [hf];exact h1
theorem of_le32 {a b:UInt32} (h:decide ((a.toNat:Int)≤(b.toNat:Int))=true):a≤b:=by
  have:=of_decide_eq_true h;rw [UInt32.le_iff_toNat_le];omega
theorem of_nle32 {a b:UInt32} (h:decide ((a.toNat:Int)≤(b.toNat:Int))=false):¬ a≤b:=by
  have:=of_decide_eq_false h;rw [UInt32.le_iff_toNat_le];omega
structure TrimI (es:List (EntV ByteArray WasM)) (n:UInt32) (left st:List (EntV ByteArray WasM)):Prop where
  nl:(left.map (·.key)).Nodup
  sub:∀ y ∈ left,y ∈ st
  old:∀ y ∈ left,y ∈ es
  keys:st.map (·.key)=es.map (·.key)
  nodup:(st.map (·.key)).Nodup
  val:st.map stE=es.map fun e=>(e.key,if e.key ∈ left.map (·.key) then e.ws else trimW e.ws n)
theorem TrimI.first {es:List (EntV ByteArray WasM)} (h:(es.map (·.key)).Nodup) (n:UInt32):TrimI es n es es:=by
  refine ⟨h,fun _ h=>h,fun _ h=>h,rfl,h,List.map_congr_left fun e he=>?_⟩
  rw [if_pos (List.mem_map.2 ⟨e,he,rfl⟩)];rfl
theorem TrimI.done {es st:List (EntV ByteArray WasM)} {n:UInt32} (h:TrimI es n [] st):st.map stE=(es.map stE).map fun p=>(p.1,trimW p.2 n):=by
  rw [h.val,List.map_map];rfl
theorem TrimI.step {es left st A B:List (EntV ByteArray WasM)} {n:UInt32} {y:EntV ByteArray WasM} (h:TrimI es n left st) (hl:left=A++y::B) {j:Nat} (hj:trimW y.ws n=y.ws.drop j):TrimI es n (A++B) (setE st y.key (subS y.sv j y.ws.length 3) (y.ws.drop j)):=by
  have hy:y ∈ st:=h.sub y (by rw [hl];simp)
  have hfe:=findE_mem h.nodup hy
  obtain ⟨A2,B2,h1,_,h3⟩:=delE_keys hfe
  have hnl:=h.nl
  rw [hl,List.map_append,List.map_cons] at hnl
  have hno:y.key ∉ (A++B).map (·.key):=by
    rw [List.map_append]
    intro hm
    obtain ⟨a1,a2,a3⟩:=List.nodup_append.1 hnl
    rcases List.mem_append.1 hm with hm | hm
    · exact a3 _ hm _ (by simp) rfl
    · exact (List.nodup_cons.1 a2).1 hm
  have hkk:(setE st y.key (subS y.sv j y.ws.length 3) (y.ws.drop j)).map (·.key)=st.map (·.key):=by rw [h3,h1];simp
  have hsub:∀ z ∈ A++B,z ∈ left∧z.key≠y.key:=fun z hz=>⟨by rw [hl];simp only [List.mem_append,List.mem_cons] at hz ⊢;rcases hz with h | h;exact .inl h;exact .inr (.inr h),fun e=>hno (e ▸ List.mem_map.2 ⟨z,hz,rfl⟩)⟩
  refine ⟨?_,fun z hz=>?_,fun z hz=>h.old z (hsub z hz).1,by rw [hkk];exact h.keys,by rw [hkk];exact h.nodup,?_⟩
  · rw [List.map_append]
    obtain ⟨a1,a2,a3⟩:=List.nodup_append.1 hnl
    exact List.nodup_append.2 ⟨a1,(List.nodup_cons.1 a2).2,fun a ha b hb=>a3 a ha b (by simp [hb])⟩
  · obtain ⟨k1,k2⟩:=hsub z hz
    have:=h.sub z k1
    rw [h1] at this
    rw [h3]
    simp only [List.mem_append,List.mem_cons] at this ⊢
    rcases this with h | rfl | h
    · exact .inl h
    · exact absurd rfl k2
    · exact .inr (.inr h)
  · 
    have hv:=h.val
    apply List.ext_getElem?
    intro i
    have hi:=congrArg (·[i]?) hv
    simp only [List.getElem?_map] at hi ⊢
    have hyi:st[A2.length]?=some y:=by rw [h1];simp
    have hset:(setE st y.key (subS y.sv j y.ws.length 3) (y.ws.drop j))[i]?=if i=A2.length then some ⟨y.key,subS y.sv j y.ws.length 3,y.ws.drop j⟩ else st[i]?:=by
      rw [h3,h1]
      by_cases e:i=A2.length
      · subst e;simp
      · rw [if_neg e]
        rcases Nat.lt_or_ge i A2.length with hlt | hge
        · rw [List.getElem?_append_left hlt,List.getElem?_append_left hlt]
        · rw [List.getElem?_append_right hge,List.getElem?_append_right hge]
          obtain ⟨q,hq⟩:∃ q,i - A2.length=q+1:=⟨i - A2.length - 1,by omega⟩
          rw [hq];simp
    rw [hset]
    by_cases e:i=A2.length
    · subst e
      rw [if_pos rfl]
      rw [hyi] at hi
      cases hE:es[A2.length]? with
      | none=>rw [hE] at hi;simp at hi
      | some e0=>
        rw [hE] at hi
        simp only [Option.map_some,Option.some.injEq,stE,Prod.mk.injEq] at hi ⊢
        obtain ⟨hi1,hi2⟩:=hi
        rw [← hi1] at hi2 ⊢
        rw [if_pos (by rw [hl];simp)] at hi2
        rw [if_neg hno,← hi2,hj]
        exact ⟨rfl,rfl⟩
    · rw [if_neg e]
      rw [hi]
      cases hE:es[i]? with
      | none=>rfl
      | some e0=>
        simp only [Option.map_some,Option.some.injEq,Prod.mk.injEq,true_and]
        have hne:e0.key≠y.key:=fun ek=>by
          have hlt:=idx_lt hE
          have k1:(es.map (·.key))[i]?=some y.key:=by rw [List.getElem?_map,hE];simp [ek]
          have k2:(es.map (·.key))[A2.length]?=some y.key:=by rw [← h.keys,List.getElem?_map,hyi];rfl
          have hnd:(es.map (·.key)).Nodup:=h.keys ▸ h.nodup
          exact e ((List.getElem?_inj (i:=i) (by simpa using hlt) hnd).1 (k1.trans k2.symm))
        have hiff:e0.key ∈ left.map (·.key)↔e0.key ∈ (A++B).map (·.key):=by
          rw [hl]
          simp only [List.map_append,List.map_cons,List.mem_append,List.mem_cons]
          constructor
          · rintro (h | h | h)
            · exact .inl h
            · exact absurd h hne
            · exact .inr h
          · rintro (h | h)
            · exact .inl h
            · exact .inr (.inr h)
        simp only [hiff]
section
variable {P : Program} {g : World} {Γ : Env} {L M : List HP} {dst : Option Tmp} {t : TypeId} {pos : String} {aft : Array Edge} {gd : Option (Nat × Bool)}
theorem em_lookE {A:HP} {m:Value} {d:TypeDesc} {kt:TypeId} {es:List (EntV ByteArray WasM)} {x i:Operand} {T e:TypeId} {k:ByteArray} (ht:P.underlying T=some (.map kt e)) (hk:KeyOk P kt d eStr) (hz:(P.info? e).bind (·.zero)=some (.slice none 0 0)) (hA:RdM A eStr m (es.map kvE)) (hx:ev Γ x=some m:=by rfl) (hi:ev Γ i=some (.string k):=by rfl) (hp:Pick L A M:=by repeat first | exact .z | apply Pick.s) :
    EO P g ⟨dst,.lookup T x i false,t,pos,aft,gd⟩ Γ L (svE es k).v:=mget_svE es k ▸ em_lookup ht hk hz hA hx hi hp
end
end Go.SL
namespace Go.SL
open Go
abbrev HistT:=List (List ChgM)
def getR (l:List RowM) (k:ByteArray):Option UInt32:=(l.find? fun r=>decide (r.key=k)).map (·.val)
theorem mem_getR {l:List RowM} (h:Rising l) {r:RowM}:r ∈ l↔getR l r.key=some r.val:=by
 unfold getR
 constructor
 ·intro hr
  cases hf:l.find? fun x=>decide (x.key=r.key) with
  | none=>have:=List.find?_eq_none.1 hf r hr;simp at this
  | some x=>
   have h1:=List.find?_some hf
   have h2:=List.mem_of_find?_eq_some hf
   rw [rising_one h h2 hr (by simpa using h1)];rfl
 ·intro hg
  rw [Option.map_eq_some_iff] at hg
  obtain ⟨x,hx,hv⟩:=hg
  have h1:=List.find?_some hx
  have h2:=List.mem_of_find?_eq_some hx
  have:x=r:=by cases x;cases r;simp at h1 hv;simp [h1,hv]
  exact this ▸ h2
theorem getR_ext {a b:List RowM} (ha:Rising a) (hb:Rising b) (h:∀ k,getR a k=getR b k):a=b:=rising_ext ha hb fun r=>by rw [mem_getR ha,mem_getR hb,h]
theorem getR_mem {l:List RowM} {k:ByteArray} {v:UInt32} (h:getR l k=some v):(⟨k,v⟩:RowM) ∈ l:=by
 unfold getR at h
 rw [Option.map_eq_some_iff] at h
 obtain ⟨x,hx,hv⟩:=h
 have h1:=List.find?_some hx
 have h2:=List.mem_of_find?_eq_some hx
 have:x=⟨k,v⟩:=by cases x;simp at h1 hv;simp [h1,hv]
 exact this ▸ h2
theorem getR_iff {l:List RowM} (h:Rising l) (k:ByteArray) (o:Option UInt32) (hk:∀ v,(⟨k,v⟩:RowM) ∈ l↔o=some v):getR l k=o:=by
 cases e:getR l k with
 | some v=>exact ((hk v).1 (getR_mem e)).symm
 | none=>
  cases o with
  | none=>rfl
  | some v=>have:=(mem_getR h).1 ((hk v).2 rfl);rw [e] at this;cases this
theorem getR_apply {l:List RowM} (h:Rising l) (c:ChgM) (k:ByteArray):getR (applyC l c) k=if k=c.key then (if c.gone then none else some c.val) else getR l k:=by
 refine getR_iff (applyC_rising h c).1 k _ fun v=>?_
 rw [mem_applyC h]
 by_cases e:k=c.key
 ·rw [if_pos e]
  cases hg:c.gone with
  | true=>simp [e]
  | false=>
   simp only [Bool.false_eq_true,if_false,Option.some.injEq]
   constructor
   ·rintro (⟨_,h2⟩ | ⟨_,h2⟩)
    ·cases h2;rfl
    ·exact absurd e h2
   ·rintro rfl;exact .inl ⟨trivial,by rw [e]⟩
 ·rw [if_neg e]
  constructor
  ·rintro (⟨_,h2⟩ | ⟨h1,_⟩)
   ·cases h2;exact absurd rfl e
   ·exact (mem_getR h).1 h1
  ·intro hv;exact .inr ⟨getR_mem hv,e⟩
def rowsN (H:List (List ChgM)) (n:Nat):List RowM:=changeR [] (H.take n).flatten
theorem rowsN_rising (H:List (List ChgM)) (n:Nat):Rising (rowsN H n):=(changeR_rising _ List.Pairwise.nil).1
theorem changeR_app (V:List RowM) (a b:List ChgM):changeR V (a++b)=changeR (changeR V a) b:=by simp [changeR]
theorem rowsN_old {H:List (List ChgM)} {n:Nat} (h:n≤H.length) (cs:List ChgM):rowsN (H++[cs]) n=rowsN H n:=by
 unfold rowsN;rw [List.take_append_of_le_length h]
theorem rowsN_new (H:List (List ChgM)) (cs:List ChgM):rowsN (H++[cs]) (H.length+1)=changeR (rowsN H H.length) cs:=by
 unfold rowsN
 rw [List.take_of_length_le (by simp),List.take_of_length_le (Nat.le_refl _),List.flatten_append,changeR_app];simp
theorem rowsN_len (H:List (List ChgM)) (n:Nat):(rowsN H n).length≤H.flatten.length:=by
 have h1:=(changeR_rising (H.take n).flatten (l:=[]) List.Pairwise.nil).2
 have h2:(H.take n).flatten.length≤H.flatten.length:=by
  conv=>rhs;rw [← List.take_append_drop n H,List.flatten_append,List.length_append]
  omega
 unfold rowsN
 rw [List.length_nil] at h1;omega
def valP (l:PS) (k:ByteArray) (n:UInt32):Option UInt32:=match getS l k with
 | some ws=>valW ws n
 | none=>none
def lastOk (H:List (List ChgM)) (k:ByteArray) (a:UInt32):Prop:=
 (∃ cs,1≤a.toNat∧H[a.toNat - 1]?=some cs∧∃ c ∈ cs,c.key=k)∧∀ j cs,a.toNat≤j→H[j]?=some cs→∀ c ∈ cs,c.key≠k
structure PastOk (l:PS) (now trim:UInt32) (H:List (List ChgM)):Prop where
 nowH:now.toNat=H.length
 trimH:trim≤now
 nodup:(l.map (·.1)).Nodup
 ne:∀ p ∈ l,p.2≠[]
 keys:∀ p ∈ l,keyOk p.1=true
 le:∀ p ∈ l,∀ w ∈ p.2,w.at_≤now
 val:∀ k n,trim≤n→n≤now→valP l k n=getR (rowsN H n.toNat) k
 last:∀ p ∈ l,lastOk H p.1 (lastW p.2)
 sure:∀ cs ∈ H,∀ c ∈ cs,(getS l c.key).isSome=true
 size:l.length≤H.flatten.length
 lens:∀ p ∈ l,p.2.length≤H.length
theorem PastOk.now_eq {l:PS} {now trim:UInt32} {H:List (List ChgM)} (h:PastOk l now trim H):now=UInt32.ofNat H.length:=by rw [← h.nowH,UInt32.ofNat_toNat]
theorem last_app (ws:List WasM) (w:WasM):lastW (ws++[w])=w.at_:=by simp [lastW]
theorem addW1_last (ws:List WasM) (n:UInt32) (c:ChgM):lastW (addW1 ws n c)=n:=by unfold addW1;rw [last_app]
theorem addW1_ne (ws:List WasM) (n:UInt32) (c:ChgM):addW1 ws n c≠[]:=by unfold addW1;simp
theorem findP_app (ws:List WasM) (w:WasM) (n:UInt32):findP (ws++[w]) n=if w.at_≤n then (w.val,!w.gone) else findP ws n:=by
 unfold findP
 rw [List.reverse_append,List.reverse_singleton,List.singleton_append,List.find?_cons]
 by_cases h:w.at_≤n <;> simp [h]
theorem last_split {ws:List WasM} (h:ws≠[]):∃ w,ws=ws.dropLast++[w]∧lastW ws=w.at_:=by
 refine ⟨ws.getLast h,(List.dropLast_concat_getLast h).symm,?_⟩
 unfold lastW
 rw [List.getLast?_eq_some_getLast h];rfl
theorem addW1_old (ws:List WasM) {n m:UInt32} (h:m < n) (c:ChgM):valW (addW1 ws n c) m=valW ws m:=by
 have hn:¬ n≤m:=fun e=>UInt32.lt_irrefl _ (UInt32.lt_of_lt_of_le h e)
 have e:findP (addW1 ws n c) m=findP ws m:=by
  unfold addW1
  rw [findP_app]
  simp only [hn,if_false]
  split
  ·rename_i hc
   obtain ⟨w,h1,h2⟩:=last_split hc.1
   conv=>rhs;rw [h1]
   rw [findP_app,← h2,hc.2,if_neg hn]
  ·rfl
 unfold valW;rw [e]
theorem addW1_new (ws:List WasM) (n:UInt32) (c:ChgM):valW (addW1 ws n c) n=if c.gone then none else some c.val:=by
 have e:findP (addW1 ws n c) n=(c.val,!c.gone):=by
  unfold addW1
  rw [findP_app];simp
 unfold valW;rw [e]
 cases c.gone <;> simp
theorem addW1_mem {ws:List WasM} {n:UInt32} {c:ChgM} {w:WasM} (h:w ∈ addW1 ws n c):w ∈ ws∨w.at_=n:=by
 unfold addW1 at h
 rcases List.mem_append.1 h with h | h
 ·split at h
  ·exact .inl (List.dropLast_subset _ h)
  ·exact .inl h
 ·simp at h;subst h;exact .inr rfl
theorem findP_last {ws:List WasM} {n m:UInt32} (hn:∀ w ∈ ws,w.at_≤n) (hm:∀ w ∈ ws,w.at_≤m):findP ws n=findP ws m:=by
 unfold findP
 cases h:ws.reverse with
 | nil=>rfl
 | cons w l=>
  have hw:w ∈ ws:=by rw [← List.mem_reverse,h];simp
  simp [List.find?_cons,hn w hw,hm w hw]
structure MidOk (l:PS) (now trim:UInt32) (H:List (List ChgM)) (pre:List ChgM):Prop where
 nodup:(l.map (·.1)).Nodup
 ne:∀ p ∈ l,p.2≠[]
 keys:∀ p ∈ l,keyOk p.1=true
 le:∀ p ∈ l,∀ w ∈ p.2,w.at_≤now+1
 val:∀ k n,trim≤n→n≤now→valP l k n=getR (rowsN H n.toNat) k
 new:∀ k,valP l k (now+1)=getR (changeR (rowsN H H.length) pre) k
 last:∀ p ∈ l,(lastW p.2=now+1∧∃ c ∈ pre,c.key=p.1)∨(lastOk H p.1 (lastW p.2)∧∀ c ∈ pre,c.key≠p.1)
 sure:∀ cs ∈ H,∀ c ∈ cs,(getS l c.key).isSome=true
 pres:∀ c ∈ pre,(getS l c.key).isSome=true
 size:l.length≤H.flatten.length+pre.length
 lens:∀ p ∈ l,p.2.length≤H.length∨(lastW p.2=now+1∧p.2.length≤H.length+1)
theorem setS_len (l:PS) (k:ByteArray) (ws:List WasM):(setS l k ws).length≤l.length+1:=by
 unfold setS;split <;> simp
theorem PastOk.start {l:PS} {now trim:UInt32} {H:List (List ChgM)} (h:PastOk l now trim H) (hb:H.length < 4294967295):MidOk l now trim H []:=by
 have hlt:now≤now+1:=by rw [UInt32.le_iff_toNat_le,UInt32.toNat_add,h.nowH];simp;omega
 refine ⟨h.nodup,h.ne,h.keys,fun p hp w hw=>UInt32.le_trans (h.le p hp w hw) hlt,h.val,fun k=>?_,fun p hp=>.inr ⟨h.last p hp,by simp⟩,h.sure,by simp,h.size,fun p hp=>.inl (h.lens p hp)⟩
 have h1:=h.val k now h.trimH (UInt32.le_refl _)
 rw [h.nowH] at h1
 show valP l k (now+1)=getR (rowsN H H.length) k
 rw [← h1]
 unfold valP
 cases hg:getS l k with
 | none=>rfl
 | some ws=>
  have hm:=getS_some hg
  have:findP ws (now+1)=findP ws now:=findP_last (fun w hw=>UInt32.le_trans (h.le _ hm w hw) hlt) (fun w hw=>h.le _ hm w hw)
  simp only [valW,this]
theorem MidOk.step {l:PS} {now trim:UInt32} {H:List (List ChgM)} {pre:List ChgM} (h:MidOk l now trim H pre) (hnow:now.toNat=H.length) (hb:H.length < 4294967295) (c:ChgM) (hc:keyOk c.key=true):MidOk (putS l (now+1) c) now trim H (pre++[c]):=by
 have hlt:now < now+1:=by rw [UInt32.lt_iff_toNat_lt,UInt32.toNat_add,hnow];simp;omega
 have hmem:∀ p ∈ putS l (now+1) c,(p.1=c.key∧p.2=addW1 ((getS l c.key).getD []) (now+1) c)∨(p.1≠c.key∧p ∈ l):=fun p hp=>by
  have h1:=getS_mem (setS_nodup h.nodup c.key (addW1 ((getS l c.key).getD []) (now+1) c)) hp
  rw [setS_get] at h1
  by_cases e:p.1=c.key
  ·rw [if_pos e] at h1;exact .inl ⟨e,(Option.some.inj h1).symm⟩
  ·rw [if_neg e] at h1;exact .inr ⟨e,getS_some h1⟩
 have hv:∀ k n,valP (putS l (now+1) c) k n=if k=c.key then valW (addW1 ((getS l c.key).getD []) (now+1) c) n else valP l k n:=fun k n=>by
  unfold valP putS
  rw [setS_get]
  by_cases e:k=c.key <;> simp [e]
 refine ⟨setS_nodup h.nodup _ _,fun p hp=>?_,fun p hp=>?_,fun p hp w hw=>?_,fun k n h1 h2=>?_,fun k=>?_,fun p hp=>?_,fun cs hcs c' hc'=>?_,fun c' hc'=>?_,?_,fun p hp=>?_⟩
 ·rcases hmem p hp with ⟨_,h2⟩ | ⟨_,h2⟩
  ·rw [h2];exact addW1_ne _ _ _
  ·exact h.ne p h2
 ·rcases hmem p hp with ⟨h1,_⟩ | ⟨_,h2⟩
  ·rw [h1];exact hc
  ·exact h.keys p h2
 ·rcases hmem p hp with ⟨_,h2⟩ | ⟨_,h2⟩
  ·rw [h2] at hw
   rcases addW1_mem hw with hw | hw
   ·cases hg:getS l c.key with
    | none=>rw [hg] at hw;simp at hw
    | some ws=>rw [hg] at hw;exact h.le _ (getS_some hg) w hw
   ·rw [hw];exact UInt32.le_refl _
  ·exact h.le p h2 w hw
 ·rw [hv]
  by_cases e:k=c.key
  ·rw [if_pos e,addW1_old _ (UInt32.lt_of_le_of_lt h2 hlt),← h.val k n h1 h2,e]
   unfold valP
   cases getS l c.key <;> rfl
  ·rw [if_neg e];exact h.val k n h1 h2
 ·rw [hv,changeR_snoc,getR_apply (changeR_rising pre (rowsN_rising H _)).1,addW1_new,h.new]
 ·rcases hmem p hp with ⟨h1,h2⟩ | ⟨h1,h2⟩
  ·left
   rw [h2]
   exact ⟨addW1_last _ _ _,c,by simp,h1.symm⟩
  ·rcases h.last p h2 with ⟨a,c',b1,b2⟩ | ⟨a,b⟩
   ·exact .inl ⟨a,c',by simp [b1],b2⟩
   ·refine .inr ⟨a,fun c' hc'=>?_⟩
    rcases List.mem_append.1 hc' with hc' | hc'
    ·exact b c' hc'
    ·simp at hc';subst hc';exact fun e=>h1 e.symm
 ·unfold putS;rw [setS_get];split
  ·rfl
  ·exact h.sure cs hcs c' hc'
 ·unfold putS;rw [setS_get];split
  ·rfl
  ·rcases List.mem_append.1 hc' with hc' | hc'
   ·exact h.pres c' hc'
   ·simp at hc';subst hc';rename_i hne;exact absurd rfl hne
 ·have:=setS_len l c.key (addW1 ((getS l c.key).getD []) (now+1) c)
  have:=h.size
  unfold putS;rw [List.length_append,List.length_singleton];omega
 ·rcases hmem p hp with ⟨_,h2⟩ | ⟨_,h2⟩
  ·right
   rw [h2]
   refine ⟨addW1_last _ _ _,?_⟩
   have hw:((getS l c.key).getD []).length≤H.length∨(lastW ((getS l c.key).getD [])=now+1∧((getS l c.key).getD []).length≤H.length+1):=by
    cases hg:getS l c.key with
    | none=>left;simp
    | some ws=>exact h.lens _ (getS_some hg)
   unfold addW1
   rw [List.length_append,List.length_singleton]
   split
   ·rename_i hc'
    rw [List.length_dropLast]
    have:=List.length_pos_iff.2 hc'.1
    rcases hw with hw | ⟨_,hw⟩ <;> omega
   ·rename_i hc'
    rcases hw with hw | ⟨hl,hw⟩
    ·omega
    ·have:(getS l c.key).getD []=[]:=by
      cases e:(getS l c.key).getD [] with
      | nil=>rfl
      | cons a b=>exact absurd ⟨by rw [e];simp,hl⟩ hc'
     rw [this];simp
  ·exact h.lens p h2
theorem MidOk.done {l l0:PS} {now trim:UInt32} {H:List (List ChgM)} (h:PastOk l0 now trim H) (hb:H.length < 4294967295) {cs:List ChgM} (hm:MidOk l now trim H cs):PastOk l (now+1) trim (H++[cs]):=by
 have hn1:(now+1).toNat=H.length+1:=by rw [UInt32.toNat_add,h.nowH];simp;omega
 have hlt:now < now+1:=by rw [UInt32.lt_iff_toNat_lt,hn1,h.nowH];omega
 refine ⟨by rw [hn1];simp,UInt32.le_trans h.trimH (UInt32.le_of_lt hlt),hm.nodup,hm.ne,hm.keys,hm.le,fun k n h1 h2=>?_,fun p hp=>?_,fun cs' hcs c' hc'=>?_,by have:=hm.size;rw [List.flatten_append,List.length_append,List.flatten_singleton];exact this,fun p hp=>by have:=hm.lens p hp;rw [List.length_append,List.length_singleton];omega⟩
 ·by_cases e:n=now+1
  ·subst e;rw [hm.new,hn1,rowsN_new]
  ·have hle:n≤now:=by
    rw [UInt32.le_iff_toNat_le] at h2 ⊢
    have:n.toNat≠(now+1).toNat:=fun h3=>e (UInt32.toNat_inj.1 h3)
    rw [hn1] at this h2;rw [h.nowH];omega
   rw [hm.val k n h1 hle,rowsN_old]
   rw [UInt32.le_iff_toNat_le,h.nowH] at hle;exact hle
 ·rcases hm.last p hp with ⟨h1,c,h2,h3⟩ | ⟨⟨⟨cs',h1,h2,h3⟩,h4⟩,h5⟩
  ·rw [h1]
   refine ⟨⟨cs,by omega,by rw [hn1];simp,c,h2,h3⟩,fun j cs' hj hcs=>?_⟩
   rw [hn1] at hj
   rw [List.getElem?_eq_none (by simp;omega)] at hcs;cases hcs
  ·refine ⟨⟨cs',h1,?_,h3⟩,fun j cs'' hj hcs=>?_⟩
   ·rw [List.getElem?_append_left (idx_lt h2)];exact h2
   ·rcases Nat.lt_or_ge j H.length with hjl | hjl
    ·rw [List.getElem?_append_left hjl] at hcs;exact h4 j cs'' hj hcs
    ·rw [List.getElem?_append_right hjl] at hcs
     have:cs''=cs:=by
      cases hd:j - H.length with
      | zero=>rw [hd] at hcs;simpa using hcs.symm
      | succ q=>rw [hd] at hcs;simp at hcs
     subst this;exact h5
 ·rcases List.mem_append.1 hcs with hcs | hcs
  ·exact hm.sure cs' hcs c' hc'
  ·simp at hcs;subst hcs;exact hm.pres c' hc'
theorem foldP_rising (n:UInt32):∀ (l:PS) {r:List RowM},Rising r→Rising (l.foldl (stepP n) r)
 | [],_,h=>h
 | p::l,r,h=>by
  rw [List.foldl_cons]
  apply foldP_rising n l
  unfold stepP
  split
  ·exact (setR_spec h _ _).1
  ·exact h
theorem foldP_get (n:UInt32) (k:ByteArray):∀ (l:PS) {r:List RowM},(l.map (·.1)).Nodup→Rising r→getR (l.foldl (stepP n) r) k=(valP l k n).or (getR r k)
 | [],_,_,_=>rfl
 | p::l,r,hn,h=>by
  rw [List.foldl_cons]
  rw [List.map_cons] at hn
  obtain ⟨hn1,hn2⟩:=List.nodup_cons.1 hn
  have hset:∀ v,getR (setR r p.1 v) k=if k=p.1 then some v else getR r k:=fun v=>by
   have:=getR_apply h ⟨p.1,v,false⟩ k
   simpa [applyC] using this
  have hP:valP (p::l) k n=if p.1=k then valW p.2 n else valP l k n:=by
   unfold valP getS
   rw [List.find?_cons]
   by_cases e:p.1=k <;> simp [e]
  rw [hP]
  by_cases e:p.1=k
  ·rw [if_pos e]
   have hno:valP l k n=none:=by
    unfold valP
    cases hg:getS l k with
    | none=>rfl
    | some ws=>exact absurd (List.mem_map.2 ⟨_,getS_some hg,rfl⟩) (e ▸ hn1)
   cases hv:valW p.2 n with
   | none=>rw [show stepP n r p=r by unfold stepP;rw [hv],foldP_get n k l hn2 h,hno]
   | some v=>rw [show stepP n r p=setR r p.1 v by unfold stepP;rw [hv],foldP_get n k l hn2 (setR_spec h _ _).1,hno,hset,if_pos e.symm];rfl
  ·rw [if_neg e]
   cases hv:valW p.2 n with
   | none=>rw [show stepP n r p=r by unfold stepP;rw [hv],foldP_get n k l hn2 h]
   | some v=>
    rw [show stepP n r p=setR r p.1 v by unfold stepP;rw [hv],foldP_get n k l hn2 (setR_spec h _ _).1,hset,if_neg (fun h=>e h.symm)]
theorem rowsP_rising (l:PS) (n:UInt32):Rising (rowsP l n):=foldP_rising n l List.Pairwise.nil
theorem PastOk.rows {l:PS} {now trim:UInt32} {H:List (List ChgM)} (h:PastOk l now trim H) {n:UInt32} (h1:trim≤n) (h2:n≤now):rowsP l n=rowsN H n.toNat:=by
 refine getR_ext (rowsP_rising l n) (rowsN_rising H _) fun k=>?_
 rw [← h.val k n h1 h2]
 unfold rowsP
 rw [foldP_get n k l h.nodup List.Pairwise.nil]
 cases valP l k n <;> rfl
def sinceH (H:List (List ChgM)) (n:Nat) (s:SpanM):Bool:=(H.drop n).any fun cs=>cs.any fun c=>inSpan s c.key
theorem PastOk.init:PastOk [] 0 0 []:=⟨rfl,UInt32.le_refl _,List.nodup_nil,by simp,by simp,by simp,fun k n _ _=>by simp [valP,getS,rowsN,changeR,getR],by simp,by simp,by simp,by simp⟩
structure ScanI (l:PS) (n:UInt32) (left:List ByteArray) (rows:List RowM):Prop where
 rising:Rising rows
 nodup:left.Nodup
 val:∀ k,getR rows k=if k ∈ left then none else valP l k n
theorem ScanI.first {l:PS} {left:List ByteArray} (h:left=l.map (·.1)) (hn:(l.map (·.1)).Nodup) (n:UInt32):ScanI l n left []:=by
 refine ⟨List.Pairwise.nil,h ▸ hn,fun k=>?_⟩
 split
 ·rfl
 ·rename_i hk
  unfold valP
  cases hg:getS l k with
  | none=>rfl
  | some ws=>exact absurd (h ▸ List.mem_map.2 ⟨_,getS_some hg,rfl⟩) hk
theorem getR_set {l:List RowM} (h:Rising l) (k:ByteArray) (v:UInt32) (j:ByteArray):getR (setR l k v) j=if j=k then some v else getR l j:=by
 have:=getR_apply h ⟨k,v,false⟩ j
 simpa [applyC] using this
theorem mid_nodup {A B:List ByteArray} {k:ByteArray} (h:(A++k::B).Nodup):(A++B).Nodup∧k ∉ A++B:=by
 obtain ⟨a1,a2,a3⟩:=List.nodup_append.1 h
 obtain ⟨b1,b2⟩:=List.nodup_cons.1 a2
 refine ⟨List.nodup_append.2 ⟨a1,b2,fun a ha b hb=>a3 a ha b (by simp [hb])⟩,fun hm=>?_⟩
 rcases List.mem_append.1 hm with hm | hm
 ·exact a3 _ hm _ (by simp) rfl
 ·exact b1 hm
theorem ScanI.put {l:PS} {n:UInt32} {left A B:List ByteArray} {rows:List RowM} {k:ByteArray} {ws:List WasM} (h:ScanI l n left rows) (hl:left=A++k::B) (hg:getS l k=some ws) (hf:(findP ws n).2=true):ScanI l n (A++B) (setR rows k (findP ws n).1):=by
 obtain ⟨h1,h2⟩:=mid_nodup (hl ▸ h.nodup)
 refine ⟨(setR_spec h.rising _ _).1,h1,fun j=>?_⟩
 rw [getR_set h.rising]
 by_cases e:j=k
 ·subst e
  rw [if_pos rfl,if_neg h2]
  unfold valP;rw [hg];simp [valW,hf]
 ·rw [if_neg e,h.val,hl]
  have:j ∈ A++k::B↔j ∈ A++B:=by simp [e]
  simp only [this]
theorem ScanI.skip {l:PS} {n:UInt32} {left A B:List ByteArray} {rows:List RowM} {k:ByteArray} {ws:List WasM} (h:ScanI l n left rows) (hl:left=A++k::B) (hg:getS l k=some ws) (hf:(findP ws n).2=false):ScanI l n (A++B) rows:=by
 obtain ⟨h1,h2⟩:=mid_nodup (hl ▸ h.nodup)
 refine ⟨h.rising,h1,fun j=>?_⟩
 rw [h.val,hl]
 by_cases e:j=k
 ·subst e
  rw [if_pos (by simp),if_neg h2]
  unfold valP;rw [hg];simp [valW,hf]
 ·have:j ∈ A++k::B↔j ∈ A++B:=by simp [e]
  simp only [this]
theorem ScanI.done {l:PS} {now trim n:UInt32} {H:List (List ChgM)} {rows:List RowM} (h:ScanI l n [] rows) (hP:PastOk l now trim H) (h1:trim≤n) (h2:n≤now):rows=rowsN H n.toNat:=by
 refine getR_ext h.rising (rowsN_rising H _) fun k=>?_
 rw [h.val,← hP.val k n h1 h2];simp
end Go.SL
namespace Go.SL
open Go
structure TxU (κ σ:Type) where
  id:κ
  q:Nat
  x:σ
section
variable {κ σ : Type} [DecidableEq κ]
def findU (ts:List (TxU κ σ)) (n:κ):Option (TxU κ σ):=ts.find? fun t=>decide (t.id=n)
def delU (ts:List (TxU κ σ)) (n:κ):List (TxU κ σ):=ts.eraseP fun t=>decide (t.id=n)
def kvU (t:TxU κ σ):κ × Value:=(t.id,.pointer (some ⟨t.q,0,none⟩))
def setU (ts:List (TxU κ σ)) (n:κ) (x:σ):List (TxU κ σ):=ts.map fun o=>if o.id=n then { o with x:=x } else o
theorem mget_kvU (ts:List (TxU κ σ)) (n:κ):mget (ts.map kvU) n=(findU ts n).map fun t=>.pointer (some ⟨t.q,0,none⟩):=by
  unfold mget findU
  induction ts with
  | nil=>rfl
  | cons t ts ih=>
    simp only [List.map_cons,List.find?_cons,kvU]
    by_cases h:t.id=n
    · simp [h]
    · simp only [h,decide_false];exact ih
theorem findU_mid {ts:List (TxU κ σ)} {n:κ} {t:TxU κ σ} (h:findU ts n=some t):t.id=n∧∃ A B,ts=A++t::B∧delU ts n=A++B∧∀ x ∈ A,x.id≠n:=by
  unfold findU at h
  induction ts with
  | nil=>simp at h
  | cons x ts ih=>
    rw [List.find?_cons] at h
    by_cases e:x.id=n
    · simp [e] at h;subst h
      exact ⟨e,[],ts,rfl,by simp [delU,e],by simp⟩
    · simp [e] at h
      obtain ⟨h1,A,B,h2,h3,h4⟩:=ih (by simpa using h)
      refine ⟨h1,x::A,B,by simp [h2],by simp only [delU,List.eraseP_cons,e,decide_false,cond_false,List.cons_append] at h3 ⊢;rw [h3],?_⟩
      intro y hy
      rcases List.mem_cons.1 hy with rfl | hy
      · exact e
      · exact h4 y hy
theorem findU_mem {ts:List (TxU κ σ)} {n:κ} {t:TxU κ σ} (h:findU ts n=some t):t ∈ ts:=List.mem_of_find?_eq_some h
theorem findU_none {ts:List (TxU κ σ)} {n:κ} (h:findU ts n=none):n ∉ ts.map (·.id):=by
  intro hm
  obtain ⟨t,ht,rfl⟩:=List.mem_map.1 hm
  have:=List.find?_eq_none.1 h t ht
  simp at this
theorem nodupU_mid {A B:List (TxU κ σ)} {t:TxU κ σ} (h:((A++t::B).map (·.id)).Nodup):∀ x ∈ A++B,x.id≠t.id:=by
  rw [List.map_append,List.map_cons] at h
  obtain ⟨h1,h2,h3⟩:=List.nodup_append.1 h
  have h4:=(List.nodup_cons.1 h2).1
  intro x hx e
  rcases List.mem_append.1 hx with hx | hx
  · exact h3 x.id (List.mem_map.2 ⟨x,hx,rfl⟩) t.id (by simp) e
  · exact h4 (e ▸ List.mem_map.2 ⟨x,hx,rfl⟩)
theorem findU_of {ts:List (TxU κ σ)} (hn:(ts.map (·.id)).Nodup) {t:TxU κ σ} (ht:t ∈ ts):findU ts t.id=some t:=by
  obtain ⟨A,B,rfl⟩:=List.append_of_mem ht
  unfold findU
  rw [List.find?_append,List.find?_eq_none.2 (fun x hx=>by have:=nodupU_mid hn x (by simp [hx]);simpa using this)]
  simp
theorem delU_sub {ts:List (TxU κ σ)} {n:κ}:(delU ts n).Sublist ts:=List.eraseP_sublist
theorem setU_mid {A B:List (TxU κ σ)} {t:TxU κ σ} (h:((A++t::B).map (·.id)).Nodup) (x:σ):setU (A++t::B) t.id x=A++{ t with x:=x }::B:=by
  have hn:=nodupU_mid h
  unfold setU
  rw [List.map_append,List.map_cons,if_pos rfl]
  have e1:∀ l:List (TxU κ σ),(∀ y ∈ l,y.id≠t.id)→l.map (fun o=>if o.id=t.id then { o with x:=x } else o)=l:=fun l hl=>by
    conv=>rhs;rw [← List.map_id l]
    apply List.map_congr_left
    intro o ho
    rw [if_neg (hl o ho)];rfl
  rw [e1 A (fun x hx=>hn x (by simp [hx])),e1 B (fun x hx=>hn x (by simp [hx]))]
theorem setU_ids (ts:List (TxU κ σ)) (n:κ) (x:σ):(setU ts n x).map (·.id)=ts.map (·.id):=by
  unfold setU
  rw [List.map_map]
  apply List.map_congr_left
  intro o _
  simp only [Function.comp]
  split <;> rfl
theorem setU_mem {ts:List (TxU κ σ)} {n:κ} {x:σ} {o:TxU κ σ} (h:o ∈ setU ts n x):(∃ t ∈ ts,t.id=n∧o={ t with x:=x })∨(o ∈ ts∧o.id≠n):=by
  unfold setU at h
  obtain ⟨t,ht,rfl⟩:=List.mem_map.1 h
  by_cases e:t.id=n
  · left;exact ⟨t,ht,e,by rw [if_pos e]⟩
  · right;rw [if_neg e];exact ⟨ht,e⟩
def TxsU (TP:TxU κ σ→List HP) (ts:List (TxU κ σ)):HP:=bun (ts.map fun t=>bun (TP t))
variable {TP : TxU κ σ → List HP}
theorem TxsU_nil {L:List HP} {S:Piece} (h:stars L S):stars (TxsU TP []::L) S:=bun_stars (L:=[]) h
end
end Go.SL
namespace Go.SL.Fc
open Go Go.Proofs Go.SL
theorem ov1_229:(Tryz.f229.name == "runtime.NumGoroutine")=false:=by kernel_rfl
theorem ov2_229:Tryz.f229.body.isNone=true:=by kernel_rfl
theorem ov3_229:Extern.findNext Tryz.f229=none:=by kernel_rfl
theorem ov4_229:Extern.find Tryz.f229=some (Extern.SlicesOverlaps.overlaps #[24,24] #[4]):=by kernel_rfl
end Go.SL.Fc
namespace Go.SL
open Go Go.Proofs Fc
theorem Insert_spec {g:World} {u:Value} {A D:List RowM} {x:RowM} {bv:Nat} (hn:(A++D).length≤68719476000) :
  Spec Tryz.prog g 169 [u,.int .i64 A.length,(.slice (some ⟨bv,0,none⟩) 1 1)] [Sl 59 2 RowM.c u (A++D),cl bv 59 (RowM.c x)] fun K R=>∀ a m c,K (.slice a m c) (Sl 59 2 RowM.c (.slice a m c) (A++x::D)::R):=by
 have hlen:(A++D).length=A.length+D.length:=by simp
 refine Spec.intro Tryz.func169 rfl Tryz.ntmps169 rfl fun R K hK=>?_
 refine WP.seq<|WP.reg<|WL.e e_assign<|WL.next<|WP.seq<|WP.reg<|WL.e e_move<|WL.e e_move<|WL.e (el_from (lo:=A.length) sl24 (sl_rl (xs:=A++D)) (by simp))<|WL.next<|WP.seq<|WP.reg<|WL.e e_move<|WL.e (e_len_sl sl24)<|WL.e e_assign<|WL.next<|WP.seq<|WP.seq<|WP.reg<|WL.e e_move<|WL.e e_eql<|WL.next ?_
 refine WP.cond rfl (fun h0=>?_) (fun h0=>?_)
 ·simp at h0
 ·skip
  refine WP.skip<|PO.next<|WP.seq<|WP.reg<|WL.e e_move<|WL.e (el_len sl24 (sl_rl (xs:=A++D)))<|WL.e e_assign<|WL.next<|WP.seq<|WP.seq<|WP.reg<|WL.e e_move<|WL.e e_move<|WL.e e_eql<|WL.next ?_
  refine WP.cond rfl (fun h1=>?_) (fun h1=>?_)
  ·obtain rfl:D=[]:=List.eq_nil_of_length_eq_zero (by simp at h1;omega)
   refine WP.seq<|WP.reg<|WL.e e_move<|WL.e e_move ?_
   refine WL.h (hl_append (xs:=A++[]) (ys:=[x]) sl24 rowE z59 (lit_rl (b:=bv) (E:=59) (l:=RowM.c x) rowE [x] (by simp)) (by simp at hn ⊢;omega) (fun a m c=>?_))
   rw [List.append_nil]
   refine WL.e e_assign<|WL.next<|WP.ret<|PO.past nofun ?_
   exact PO.fin Tryz.results169 (rv_tmp rv_nil) (hK a m c)
  ·have hD0:0 < D.length:=by simp at h1;omega
   refine WP.own_open (n:=(A++D).length) (by omega) (by exact .z) ?_
   rintro b o c l rfl hnc hc hl hcs
   have hcA:(l.drop o).take (A.length * 2)=A.flatMap RowM.c:=by
    have:=congrArg (List.take (A.length * 2)) hcs
    rwa [List.take_take,Nat.min_eq_left (Nat.mul_le_mul_right _ (by omega)),List.flatMap_append,List.take_left' (flat_len rowE A)] at this
   have hA0:At (subAt (.slice (some ⟨b,o,none⟩) (A++D).length c) 0 A.length c 2) b o A.length c:=by have:=(At.lit (b:=b) (o:=o) hnc).sub (lo:=0) (hi:=A.length) (m:=c) (z:=2) (by omega) (by omega) (Nat.le_refl _);simpa using this
   have hAD:At (subAt (.slice (some ⟨b,o,none⟩) (A++D).length c) A.length (A++D).length c 2) b (o+A.length * 2) D.length (c - A.length):=by have:=(At.lit (b:=b) (o:=o) hnc).sub (lo:=A.length) (hi:=(A++D).length) (m:=c) (z:=2) (by omega) (by omega) (Nat.le_refl _);rwa [show (A++D).length - A.length=D.length by omega] at this
   refine WP.skip<|PO.next<|WP.seq<|WP.seq<|WP.reg<|WL.e e_move<|WL.e e_move<|WL.e (e_add (c:=(((A++D).length+1:Nat):Int)) rfl rfl (by rw [w_i64 (by omega) (by omega)];omega))<|WL.e e_move<|WL.e (e_cap sl24 rfl (At.lit hnc))<|WL.e e_gtr<|WL.next ?_
   refine WP.cond rfl (fun h2=>?_) (fun h2=>?_)
   ·replace h2:c < (A++D).length+1:=by simp at h2;omega
    have hgro:∀ u,Own 59 2 u (A.length+(D.length+1)) ((l.drop o).take (A.length * 2)++(List.replicate (D.length+1) [.string .empty,.int .u32 0]).flatten)=Sl 59 2 RowM.c u (A++List.replicate (D.length+1) ⟨.empty,0⟩):=fun u=>by
     unfold Sl
     rw [hcA,List.flatMap_append,show (List.replicate (D.length+1) (⟨.empty,0⟩:RowM)).flatMap RowM.c=(List.replicate (D.length+1) [.string .empty,.int .u32 0]).flatten by simp [List.flatMap_replicate];rfl,List.length_append,List.length_replicate]
    refine WP.seq<|WP.reg<|WL.e e_move<|WL.e e_move<|WL.e (e_slice_at (lo:=0) (hi:=A.length) (m:=c) (c:=c) (n:=(A++D).length) sl24 rfl (At.lit hnc) (.inl ⟨rfl,rfl⟩) (.inr ⟨_,_,rfl,rfl⟩) (.inl ⟨rfl,rfl⟩) (by omega) (by omega) (Nat.le_refl _))<|WL.e e_move<|WL.e e_move<|WL.e (e_add (c:=(((A++D).length+1:Nat):Int)) rfl rfl (by rw [w_i64 (by omega) (by omega)];omega))<|WL.e e_move<|WL.e (e_sub (c:=((D.length+1:Nat):Int)) rfl rfl (by rw [w_i64 (by omega) (by omega)];omega)) ?_
    refine WL.h (h_grow (n:=A.length) (c:=c) (k:=D.length+1) (b:=b) (o:=o) sl24 Tryz.underlying3 z59 rfl hA0 hl (by omega) (by omega) (by decide) (by decide) (fun a3 n3 c3=>?_))
    rw [hgro]
    refine WL.e e_assign<|WL.next<|WP.seq<|WP.reg<|WL.e e_move<|WL.e e_move<|WL.e (el_from (lo:=A.length) sl24 (sl_rl (xs:=(A++List.replicate (D.length+1) ⟨.empty,0⟩))) (by simp))<|WL.e e_move ?_
    refine WL.h (hl_copy (lo:=A.length) (xs:=(A++List.replicate (D.length+1) ⟨.empty,0⟩)) (ys:=[x]) sl24 rowE (by simp) (lit_rl (b:=bv) (E:=59) (l:=RowM.c x) rowE [x] (by simp)) ?_)
    refine WL.next<|WP.seq<|WP.draws mixedOk 9<|RW.e 0 rfl e_move<|RW.e 1 rfl e_move<|RW.e 2 rfl e_move<|RW.e 3 rfl (e_add (c:=((A.length+1:Nat):Int)) rfl rfl (by rw [w_i64 (by omega) (by omega)];omega))<|RW.e 4 rfl (el_from (lo:=A.length+1) sl24 (sl_rl (xs:=over (A++List.replicate (D.length+1) ⟨.empty,0⟩) A.length [x])) (by rw [over_len _ _ _ (by simp)];simp))<|RW.e 5 rfl e_move<|RW.e 6 rfl e_move<|RW.e 7 rfl (e_slice_at (lo:=A.length) (hi:=(A++D).length) (m:=c) (c:=c) (n:=(A++D).length) sl24 rfl (At.lit hnc) (.inr ⟨_,_,rfl,rfl⟩) (.inl ⟨rfl,rfl,rfl⟩) (.inl ⟨rfl,rfl⟩) (by omega) (by omega) (Nat.le_refl _)) ?_
    refine RW.any (is:=[8]) rfl ⟨?_,trivial⟩
    refine RWat.h rfl rfl rfl ?_
    refine (hl_copy (lo:=A.length+1) (xs:=over (A++List.replicate (D.length+1) ⟨.empty,0⟩) A.length [x]) (ys:=D) (B:=cl b 59 l) sl24 rowE (by rw [over_len _ _ _ (by simp)];simp) (rd_part rowE hAD (by have:(c - A.length) * 2=c * 2 - A.length * 2:=Nat.sub_mul _ _ _;have:=Nat.mul_le_mul_right 2 (show A.length≤c by omega);omega) rfl (by have:=congrArg (List.drop (A.length * 2)) hcs;rw [List.drop_take,flat_drop rowE,List.drop_drop,← Nat.sub_mul,List.drop_left] at this;rwa [show (A++D).length - A.length=D.length by omega] at this)) ?_)
    refine ⟨trivial,?_⟩
    refine RW.done<|PO.next<|WP.seq<|WP.reg<|WL.e e_move<|WL.e e_assign<|WL.next<|WP.ret<|PO.past nofun ?_
    rw [over_ins]
    exact PO.fin Tryz.results169 (rv_tmp rv_nil) (hK a3 n3 c3)
   ·replace h2:(A++D).length+1≤c:=by simp at h2;omega
    obtain ⟨ic1,ic2,ic3,ic4⟩:=ins_cells (x:=x) rowE hl h2 hcs
    have hones:ones (((l.drop (o+A.length * 2)).take ((D.length+1) * 2)).take (Nat.min (D.length+1) D.length * 2))=true:=by rw [show Nat.min (D.length+1) D.length=D.length from Nat.min_eq_right (by omega),List.take_take,Nat.min_eq_left (Nat.mul_le_mul_right 2 (show D.length≤D.length+1 by omega)),ic4];exact ones_flat rowE D
    have hmz:((A++D).length+1) * 2≤c * 2:=Nat.mul_le_mul_right _ h2
    have hA2:At (subAt (.slice (some ⟨b,o,none⟩) (A++D).length c) 0 ((A++D).length+1) c 2) b o ((A++D).length+1) c:=by have:=(At.lit (b:=b) (o:=o) hnc).sub (lo:=0) (hi:=(A++D).length+1) (m:=c) (z:=2) (by omega) h2 (Nat.le_refl _);simpa using this
    have hA3:At (subAt (subAt (.slice (some ⟨b,o,none⟩) (A++D).length c) 0 ((A++D).length+1) c 2) (A.length+1) ((A++D).length+1) c 2) b (o+(A.length+1) * 2) D.length (c - (A.length+1)):=by have:=hA2.sub (lo:=A.length+1) (hi:=(A++D).length+1) (m:=c) (z:=2) (by omega) h2 (Nat.le_refl _);rwa [show (A++D).length+1 - (A.length+1)=D.length by omega] at this
    have hOv:∃ o2,subAt (subAt (.slice (some ⟨b,o,none⟩) (A++D).length c) 0 ((A++D).length+1) c 2) (A.length+1) ((A++D).length+1) c 2=.slice (some ⟨b,o2,none⟩) D.length (c - (A.length+1)):=⟨_,by obtain ⟨y,hy,_,rfl | h⟩:=hA3;exact hy;omega⟩
    have hA4:At (subAt (subAt (.slice (some ⟨b,o,none⟩) (A++D).length c) 0 ((A++D).length+1) c 2) A.length ((A++D).length+1) c 2) b (o+A.length * 2) (D.length+1) (c - A.length):=by have:=hA2.sub (lo:=A.length) (hi:=(A++D).length+1) (m:=c) (z:=2) (by omega) h2 (Nat.le_refl _);rwa [show (A++D).length+1 - A.length=D.length+1 by omega] at this
    refine WP.skip<|PO.next<|WP.seq<|WP.reg<|WL.e e_move<|WL.e e_move<|WL.e e_move<|WL.e (e_add (c:=(((A++D).length+1:Nat):Int)) rfl rfl (by rw [w_i64 (by omega) (by omega)];omega))<|WL.e (e_slice_at (lo:=0) (hi:=(A++D).length+1) (m:=c) (c:=c) (n:=(A++D).length) sl24 rfl (At.lit hnc) (.inl ⟨rfl,rfl⟩) (.inr ⟨_,_,rfl,rfl⟩) (.inl ⟨rfl,rfl⟩) (by omega) h2 (Nat.le_refl _))<|WL.e e_assign<|WL.next<|WP.seq<|WP.seq<|WP.reg<|WL.e e_move<|WL.e e_move<|WL.e e_move<|WL.e e_move<|WL.e (e_add (c:=((A.length+1:Nat):Int)) rfl rfl (by rw [w_i64 (by omega) (by omega)];omega))<|WL.e (e_slice_at (lo:=A.length+1) (hi:=(A++D).length+1) (m:=c) (c:=c) (n:=(A++D).length+1) sl24 rfl hA2 (.inr ⟨_,_,rfl,rfl⟩) (.inl ⟨rfl,rfl,rfl⟩) (.inl ⟨rfl,rfl⟩) (by omega) h2 (Nat.le_refl _)) ?_
    refine WL.h (h_overlaps (U:=59) (l1:=RowM.c x) (l2:=l) (b1:=bv) (b2:=b) (n2:=D.length) (c2:=c - (A.length+1)) (n1:=1) (c1:=1) (o1:=0) Tryz.func229 ov1_229 ov2_229 ov3_229 ov4_229 sl24 rfl hOv (by repeat first | exact .z | apply Pick.s) (by repeat first | exact .z | apply Pick.s) (by omega) ?_)
    refine WL.e e_not<|WL.next<|WP.cond_t rfl<|WP.seq<|WP.draws mixedOk 9<|RW.e 0 rfl e_move<|RW.e 1 rfl e_move<|RW.e 2 rfl e_move<|RW.e 3 rfl (e_add (c:=((A.length+1:Nat):Int)) rfl rfl (by rw [w_i64 (by omega) (by omega)];omega))<|RW.e 4 rfl (e_slice_at (lo:=A.length+1) (hi:=(A++D).length+1) (m:=c) (c:=c) (n:=(A++D).length+1) sl24 rfl hA2 (.inr ⟨_,_,rfl,rfl⟩) (.inl ⟨rfl,rfl,rfl⟩) (.inl ⟨rfl,rfl⟩) (by omega) h2 (Nat.le_refl _))<|RW.e 5 rfl e_move<|RW.e 6 rfl e_move<|RW.e 7 rfl (e_slice_at (lo:=A.length) (hi:=(A++D).length+1) (m:=c) (c:=c) (n:=(A++D).length+1) sl24 rfl hA2 (.inr ⟨_,_,rfl,rfl⟩) (.inl ⟨rfl,rfl,rfl⟩) (.inl ⟨rfl,rfl⟩) (by omega) h2 (Nat.le_refl _)) ?_
    refine RW.any (is:=[8]) rfl ⟨?_,trivial⟩
    refine RWat.h rfl rfl rfl ?_
    refine (h_copy (n:=D.length) (c:=c - (A.length+1)) (k:=D.length+1) (o:=o+(A.length+1) * 2) (U:=59) (l:=l) (ds:=(l.drop (o+A.length * 2)).take ((D.length+1) * 2)) (B:=cl b 59 l) sl24 hA3 (by have:(c - (A.length+1)) * 2=c * 2 - (A.length+1) * 2:=Nat.sub_mul _ _ _;have:=Nat.mul_le_mul_right 2 (show A.length+1≤c by omega);omega) (hA4.rd (by have:(c - A.length) * 2=c * 2 - A.length * 2:=Nat.sub_mul _ _ _;have:=Nat.mul_le_mul_right 2 (show A.length≤c by omega);omega)) hones ?_)
    rw [show Nat.min (D.length+1) D.length=D.length from Nat.min_eq_right (by omega),List.take_take,Nat.min_eq_left (Nat.mul_le_mul_right 2 (show D.length≤D.length+1 by omega)),ic4]
    refine ⟨trivial,?_⟩
    refine RW.done<|PO.next<|WP.seq<|WP.reg<|WL.e e_move<|WL.e e_move<|WL.e (e_slice_at (lo:=A.length) (hi:=(A++D).length+1) (m:=c) (c:=c) (n:=(A++D).length+1) sl24 rfl hA2 (.inr ⟨_,_,rfl,rfl⟩) (.inl ⟨rfl,rfl,rfl⟩) (.inl ⟨rfl,rfl⟩) (by omega) h2 (Nat.le_refl _))<|WL.e e_move ?_
    refine WL.h (h_copy (n:=D.length+1) (c:=c - A.length) (k:=1) (o:=o+A.length * 2) (U:=59) (l:=splice l (o+(A.length+1) * 2) (D.flatMap RowM.c)) (ds:=RowM.c x) (B:=cl bv 59 (RowM.c x)) sl24 hA4 (by rw [ic3];have:(c - A.length) * 2=c * 2 - A.length * 2:=Nat.sub_mul _ _ _;have:=Nat.mul_le_mul_right 2 (show A.length≤c by omega);omega) (cl_rd (b:=bv) (n:=1) (c:=1) (o:=0) (z:=2) (Nat.le_refl 1) (by rw [rowE.len];omega) (by rw [List.drop_zero,List.take_of_length_le (by rw [rowE.len];omega)])) (ones_take _ (rowE.one x)) ?_)
    rw [show Nat.min 1 (D.length+1)=1 from Nat.min_eq_left (by omega),List.take_of_length_le (show (RowM.c x).length≤1 * 2 by rw [rowE.len];omega)]
    refine WL.next<|WP.seq<|WP.reg<|WL.e e_move<|WL.e e_assign<|WL.next<|WP.ret<|PO.past nofun ?_
    refine PO.cls (A:=Sl 59 2 RowM.c (subAt (.slice (some ⟨b,o,none⟩) (A++D).length c) 0 ((A++D).length+1) c 2) (A++x::D)) (B:=[cl b 59 _]) (fun S h=>?_) ?_
    ·have h:=stars_one h
     unfold Sl
     rw [show (A++x::D).length=(A++D).length+1 by simp;omega]
     refine at_own hA2 hc ?_ ?_ S h
     ·rw [ic2];exact hl
     ·exact ic1
    exact PO.fin Tryz.results169 (rv_tmp rv_nil) (hK _ _ _)
end Go.SL
namespace Go.SL.Fc
open Go Go.Proofs Go.SL
theorem a108:aggOf Tryz.prog 108=some none:=by kernel_rfl
theorem f59_1:fldOf Tryz.prog 59 1=some 1:=by kernel_rfl
theorem k105:callable Tryz.prog 105=true:=by kernel_rfl
theorem k107:callable Tryz.prog 107=true:=by kernel_rfl
theorem k169:callable Tryz.prog 169=true:=by kernel_rfl
theorem k174:callable Tryz.prog 174=true:=by kernel_rfl
theorem k222:callable Tryz.prog 222=true:=by kernel_rfl
theorem k231:callable Tryz.prog 231=true:=by kernel_rfl
theorem k232:callable Tryz.prog 232=true:=by kernel_rfl
theorem k283:callable Tryz.prog 283=true:=by kernel_rfl
theorem p59:placesOf Tryz.prog 59=some [(0,1),(1,1)]:=by kernel_rfl
theorem s24:szOf Tryz.prog 24=some 1:=by kernel_rfl
theorem s59:szOf Tryz.prog 59=some 2:=by kernel_rfl
theorem z24:zeroOf Tryz.prog 24=some [.slice none 0 0]:=by kernel_rfl
end Go.SL.Fc
namespace Go.SL
open Go Go.Proofs Fc
theorem Insert_at {g:World} {u:Value} {xs:List RowM} {i:Nat} {x:RowM} {bv:Nat} (hi:i≤xs.length) (hn:xs.length≤68719476000) :
  Spec Tryz.prog g 169 [u,.int .i64 i,.slice (some ⟨bv,0,none⟩) 1 1] [Sl 59 2 RowM.c u xs,cl bv 59 (RowM.c x)] fun K R=>∀ a m c,K (.slice a m c) (Sl 59 2 RowM.c (.slice a m c) (xs.take i++x::xs.drop i)::R):=by
 have h:=Insert_spec (g:=g) (u:=u) (A:=xs.take i) (D:=xs.drop i) (x:=x) (bv:=bv) (by rw [List.take_append_drop];exact hn)
 rw [List.take_append_drop,List.length_take_of_le hi] at h
 exact h
theorem set_spec {g:World} {p:Nat} {l:List RowM} (k:ByteArray) (v:UInt32) (hl:Rising l) (hn:l.length≤68719476000):Spec Tryz.prog g 107 [.pointer (some ⟨p,0,none⟩),.string k,.int .u32 v.toNat] [Mm p l] fun K R=>K (.tuple #[]) (Mm p (setR l k v)::R):=by
 refine Spec.intro Tryz.func107 rfl Tryz.ntmps107 rfl fun R K hK=>?_
 refine WP.seq<|WP.reg<|WL.e e_move<|WL.e e_move ?_
 refine WL.h (h_call (find_spec k hl (by omega)) k105 ?_)
 refine WL.e e_move<|WL.e e_extract<|WL.e e_extract<|WL.e e_assign<|WL.e e_assign<|WL.next<|WP.seq<|WP.seq<|WP.reg<|WL.e e_move<|WL.e e_not<|WL.next ?_
 refine WP.cond rfl (fun h1=>?_) (fun h1=>?_)
 ·replace h1:hasI l k=false:=by simpa using h1
  have hle:=lowI_le l k
  refine WP.opn (Mm_op (p:=p) (l:=l)) fun s=>?_
  refine WP.reg<|WL.e e_move<|WL.e e_move<|WL.e e_nil<|WL.e (e_fa f188_0)<|WL.e (e_load a24)<|WL.e e_move<|WL.e e_move<|WL.e (e_build z59 p59 (.o (.tmp 22) rfl<|.z (.int .u32 0)<|.n)) ?_
  refine WL.h (h_bs sl24 z59 (.a2 (.tmp 23) rfl<|.n) fun b1=>?_)
  refine WL.h (h_call (Insert_at (i:=lowI l k) (xs:=l) (x:=⟨k,0⟩) hle hn) k169 ?_)
  intro a m c
  refine WL.e e_nil<|WL.e (e_fa f188_0) ?_
  refine WL.h' (h_store s24 ?_)
  refine WL.next<|WP.reg<|WL.e e_move<|WL.e e_nil<|WL.e (e_fa f188_0)<|WL.e (e_load a24)<|WL.e e_move<|WL.e e_move<|WL.e (el_ia (j:=lowI l k) (xs:=l.take (lowI l k)++⟨k,0⟩::l.drop (lowI l k)) sl24 sl_rl (by simp;omega))<|WL.e (el_fa (z:=2) (j:=lowI l k) (xs:=l.take (lowI l k)++⟨k,0⟩::l.drop (lowI l k)) f59_1 sl_rl (by simp;omega)) ?_
  refine WL.h' (hl_set (y:=0) (j:=0) (f:=lowI l k * 2+1) (n:=(l.take (lowI l k)++⟨k,0⟩::l.drop (lowI l k)).length) (z:=2) (E:=59) (cs:=(l.take (lowI l k)++⟨k,0⟩::l.drop (lowI l k)).flatMap RowM.c) s35 (by simp;omega) ?_ rfl)
  rw [flat_setF (xs:=l.take (lowI l k)++⟨k,0⟩::l.drop (lowI l k)) (a:=⟨k,0⟩) (a':=⟨k,v⟩) rowE (by rw [List.getElem?_append_right (by simp;omega)];simp [Nat.min_eq_left hle]) (by decide) rfl]
  refine WL.nil ?_
  rw [set_app (by simp;omega),show l.take (lowI l k)++⟨k,v⟩::l.drop (lowI l k)=setR l k v by rw [setR,if_neg (by simp [h1])]]
  refine PO.cls (A:=Mm p (setR l k v)) (B:=[cl p 188 [.slice a m c,.bool true],Own 59 2 (.slice a m c) _ _]) (fun S h=>⟨⟨a,m,c⟩,by unfold Sl;rwa [show (setR l k v).length=(l.take (lowI l k)++⟨k,0⟩::l.drop (lowI l k)).length by rw [setR,if_neg (by simp [h1])];simp]⟩) ?_
  exact PO.fin Tryz.results107 rv_nil hK
 ·replace h1:hasI l k=true:=by simpa using h1
  refine WP.opn (Mm_op (p:=p) (l:=l)) fun s=>?_
  refine WP.skip<|PO.next<|WP.reg<|WL.e e_move<|WL.e e_nil<|WL.e (e_fa f188_0)<|WL.e (e_load a24)<|WL.e e_move<|WL.e e_move<|WL.e (el_ia (j:=lowI l k) (xs:=l) sl24 sl_rl (has_lt h1))<|WL.e (el_fa (z:=2) (j:=lowI l k) (xs:=l) f59_1 sl_rl (has_lt h1)) ?_
  obtain ⟨u,hu⟩:=has_at h1
  refine WL.h' (hl_set (y:=0) (j:=0) (f:=lowI l k * 2+1) (n:=l.length) (z:=2) (E:=59) (cs:=l.flatMap RowM.c) s35 (by have:=has_lt h1;omega) ?_ rfl)
  rw [flat_setF (xs:=l) (a:=⟨k,u⟩) (a':=⟨k,v⟩) rowE hu (by decide) rfl]
  refine WL.nil ?_
  rw [show l.set (lowI l k) ⟨k,v⟩=setR l k v by rw [setR,if_pos h1]]
  refine PO.cls (A:=Mm p (setR l k v)) (B:=[cl p 188 [s.v,.bool true],Own 59 2 s.v _ _]) (fun S h=>⟨s,by unfold Sl;rwa [show (setR l k v).length=l.length by rw [setR,if_pos h1];simp]⟩) ?_
  exact PO.fin Tryz.results107 rv_nil hK
theorem drop_spec {g:World} {p:Nat} {l:List RowM} (k:ByteArray) (hl:Rising l) (hn:l.length≤68719476000):Spec Tryz.prog g 174 [.pointer (some ⟨p,0,none⟩),.string k] [Mm p l] fun K R=>K (.bool (hasI l k)) (Mm p (dropR l k)::R):=by
 refine Spec.intro Tryz.func174 rfl Tryz.ntmps174 rfl fun R K hK=>?_
 refine WP.seq<|WP.reg<|WL.e e_assign<|WL.next<|WP.seq<|WP.reg<|WL.e e_move<|WL.e e_move ?_
 refine WL.h (h_call (find_spec k hl (by omega)) k105 ?_)
 refine WL.e e_move<|WL.e e_extract<|WL.e e_extract<|WL.e e_assign<|WL.e e_assign<|WL.next<|WP.seq<|WP.seq<|WP.reg<|WL.e e_move<|WL.next ?_
 refine WP.cond rfl (fun h1=>?_) (fun h1=>?_)
 ·obtain ⟨u,hu⟩:=has_at h1
  refine WP.opn (Mm_op (p:=p) (l:=l)) fun s=>?_
  refine WP.reg<|WL.e e_move<|WL.e e_move<|WL.e e_nil<|WL.e (e_fa f188_0)<|WL.e (e_load a24)<|WL.e e_move<|WL.e e_move<|WL.e (e_add (c:=((lowI l k+1:Nat):Int)) rfl rfl (by have:=has_lt h1;rw [w_i64 (by omega) (by omega)];omega)) ?_
  refine WL.h (h_call (Delete_spec (i:=lowI l k) (xs:=l) hu (by omega)) k232 ?_)
  intro a m c
  refine WL.e e_nil<|WL.e (e_fa f188_0) ?_
  refine WL.h' (h_store s24 ?_)
  refine WL.next<|WP.seq<|WP.reg<|WL.e e_move<|WL.e e_assign<|WL.next<|WP.ret ?_
  rw [show l.eraseIdx (lowI l k)=dropR l k by rw [dropR,if_pos h1]]
  refine PO.cls (A:=Mm p (dropR l k)) (B:=[cl p 188 [.slice a m c,.bool true],Sl 59 2 RowM.c (.slice a m c) (dropR l k)]) (fun S h=>⟨⟨a,m,c⟩,h⟩) ?_
  exact PO.fin Tryz.results174 (rv_tmp rv_nil) hK
 ·rw [dropR,if_neg (by simp [h1])] at hK
  refine WP.skip<|PO.next<|WP.seq<|WP.reg<|WL.e e_move<|WL.e e_assign<|WL.next<|WP.ret ?_
  exact PO.fin Tryz.results174 (rv_tmp rv_nil) hK
def rowV (r:RowM):List Value:=[r.v]
theorem in_iter {g:World} {c1 c2 p:Nat} {s:SpanM} {l:List RowM} (hl:Rising l) (hn:l.length≤68719476000) :
  Iter Tryz.prog g 283 (fun y=>[]++[y]++[.pointer (some ⟨c1,0,none⟩),.pointer (some ⟨c2,0,none⟩)]) [cl c1 108 [.pointer (some ⟨p,0,none⟩)],cl c2 132 [.string s.a,.string s.b],Mm p l] rowV (fun _=>pu True) (fun xs=>xs=(l.filter fun r=>inSpan s r.key)) (fun pre=>pre <+: (l.filter fun r=>inSpan s r.key)) [Mm p l]:=by
 intro y J X cont hy
 refine Spec.intro Tryz.func283 rfl Tryz.ntmps283 rfl fun R K hK=>?_
 refine WP.seq<|WP.seq<|WP.reg<|WL.e (e_load a108) ?_
 refine WL.h (h_call (Mthere_spec) k104 ?_)
 refine WL.e e_not<|WL.e e_move ?_
 refine WL.bool 11 rfl (fun h=>?_) (fun h=>?_)
 ·cases h 
 ·skip
  refine WL.e (e_loadN a132)<|WL.e (e_loadN a132) ?_
  refine WL.h (h_call (Meet_spec ⟨_,_⟩ ⟨_,_⟩) k222 ?_)
  refine WL.e e_not<|WL.e e_pick_f<|WL.next ?_
  refine WP.cond rfl (fun h1=>?_) (fun h1=>?_)
  ·replace h1:meet s s=false:=by simpa using h1
   refine WP.ret<|PO.past nofun ?_
   exact PO.fin Tryz.results283 rv_nil (hK.1 [] (meet_self h1).symm Hist.nil)
  ·replace h1:meet s s=true:=by simpa using h1
   refine WP.skip<|PO.next<|WP.seq<|WP.reg<|WL.e (e_load a108)<|WL.e (e_fa f132_0)<|WL.e (e_load a9) ?_
   refine WL.h (h_call (find_spec s.a hl (by omega)) k105 ?_)
   refine WL.opn (Mm_op (p:=p) (l:=l)) fun sv=>?_
   have hD:RL (Sl 59 2 RowM.c sv.v l) 2 RowM.c (subV sv.v (lowI l s.a) l.length none 2) (l.drop (lowI l s.a)):=RL.from_ rowE sl_rl (lowI_le l s.a)
   have hDl:(l.drop (lowI l s.a)).length≤l.length:=by simp
   refine WL.e e_move<|WL.e e_extract<|WL.e e_extract<|WL.e e_assign<|WL.e e_assign<|WL.next<|WP.seq<|WP.reg<|WL.e (e_load a108)<|WL.e e_nil<|WL.e (e_fa f188_0)<|WL.e (e_load a24)<|WL.e e_move<|WL.e (el_from (lo:=lowI l s.a) (xs:=l) sl24 sl_rl (lowI_le l s.a))<|WL.e (el_len (xs:=(l.drop (lowI l s.a))) sl24 hD)<|WL.e e_move<|WL.next<|WP.block<|WP.loopK (fun (k:Nat)=>[(31,.int .i64 k)]) (fun (k:Nat)=>J ((l.drop (lowI l s.a)).take k)::cl p 188 [sv.v,.bool true]::Sl 59 2 RowM.c sv.v l::cl c1 108 [.pointer (some ⟨p,0,none⟩)]::cl c2 132 [.string s.a,.string s.b]::R) [(0,_),(2,_),(29,_),(30,_)] (fun (k:Nat)=>k≤(l.drop (lowI l s.a)).length∧(∀ r ∈ (l.drop (lowI l s.a)).take k,(!sLt s.b r.key)=true)∧Hist cont ((l.drop (lowI l s.a)).take k)) (fun (k:Nat)=>(l.drop (lowI l s.a)).length - k) 0 (⟨Nat.zero_le _,by simp,by simpa using Hist.nil⟩) ?_
   rintro k ⟨hk1,hk2,hk3⟩
   refine WP.seq<|WP.reg<|WL.e e_lss<|WL.next<|WP.seq ?_
   refine WP.cond rfl (fun h2=>?_) (fun h2=>?_)
   ·have hlt:k < (l.drop (lowI l s.a)).length:=by rw [decide_eq_true_eq] at h2;omega
    obtain ⟨x,hx⟩:∃ x,(l.drop (lowI l s.a))[k]?=some x:=⟨_,List.getElem?_eq_getElem hlt⟩
    refine WP.skip<|PO.next<|WP.seq<|WP.block<|WP.seq<|WP.reg<|WL.e (el_ia (j:=k) (xs:=(l.drop (lowI l s.a))) sl24 hD hlt)<|WL.e (el_loadN (a:=x) a59 rowE hD hx) ?_
    refine WL.h (h_alloc z59 fun b1=>?_)
    refine WL.h' (h_store s59 ?_)
    refine WL.next<|WP.seq<|WP.reg<|WL.e (e_fa f59_0)<|WL.e (e_load a9)<|WL.e (e_fa f132_1)<|WL.e (e_load a9)<|WL.e e_sgt<|WL.e e_move ?_
    refine WL.bool 40 rfl (fun h3=>?_) (fun h3=>?_)
    ·rw [sgt_eq] at h3
     refine WL.skip<|WL.skip<|WL.skip<|WL.skip<|WL.e e_pick_t<|WL.next<|WP.cond_t rfl<|WP.ret<|PO.blockR<|PO.past nofun<|PO.round nofun<|PO.blockR<|PO.cls (A:=Mm p l) (B:=[cl p 188 [sv.v,.bool true],Sl 59 2 RowM.c (sv.v) l]) (fun S h=>⟨sv,h⟩) ?_
     exact PO.fin Tryz.results283 rv_nil (hK.1 _ (by rw [← scan_eq hl];exact (tw_stop hk2 hx (by simp [h3])).symm) hk3)
    ·rw [sgt_eq] at h3
     have hpf:(l.drop (lowI l s.a)).take k++[x] <+: (l.filter fun r=>inSpan s r.key):=by rw [← scan_eq hl];exact tw_more hk2 hx (by simp [h3])
     refine WL.e e_move<|WL.e (e_loadN a59) ?_
     refine WL.h (HO.conv (fun S h=>pu_stars trivial h) (h_cally (hy ((l.drop (lowI l s.a)).take k) x hpf hk3) ?_))
     refine ⟨fun hc=>?_,fun hc=>?_⟩
     ·skip
      refine WL.e e_not<|WL.e e_pick_f<|WL.next<|WP.cond_f rfl<|WP.skip<|PO.blockN<|PO.next<|WP.reg<|WL.e (e_add rfl rfl (w_i64 (by omega) (by omega)))<|WL.e e_move<|WL.nil ?_
      rw [← take_snoc hx]
      exact PO.againK (k+1) ⟨by omega,by rw [take_snoc hx];intro r hr;rcases List.mem_append.1 hr with h | h;exact hk2 r h;simp at h;subst h;simpa using h3,by rw [take_snoc hx];exact hk3.snoc hc⟩ (by omega)
     ·skip
      refine WL.e e_not<|WL.e e_pick_f<|WL.next<|WP.cond_t rfl<|WP.ret<|PO.blockR<|PO.past nofun<|PO.round nofun<|PO.blockR<|PO.cls (A:=Mm p l) (B:=[cl p 188 [sv.v,.bool true],Sl 59 2 RowM.c (sv.v) l]) (fun S h=>⟨sv,h⟩) ?_
      exact PO.fin Tryz.results283 rv_nil (hK.2 _ x hpf hk3 hc)
   ·have hall:(l.drop (lowI l s.a)).take k=(l.filter fun r=>inSpan s r.key):=by rw [← scan_eq hl,List.take_of_length_le (by rw [decide_eq_false_iff_not] at h2;omega),tw_all];intro r hr;exact hk2 r (by rw [List.take_of_length_le (by rw [decide_eq_false_iff_not] at h2;omega)];exact hr)
    refine WP.exit<|PO.past nofun<|PO.round nofun<|PO.blockX<|PO.cls (A:=Mm p l) (B:=[cl p 188 [sv.v,.bool true],Sl 59 2 RowM.c (sv.v) l]) (fun S h=>⟨sv,h⟩) ?_
    exact PO.fin Tryz.results283 rv_nil (hK.1 _ hall hk3)
theorem in_spec {g:World} {p:Nat} (s:SpanM):Spec Tryz.prog g 231 [.pointer (some ⟨p,0,none⟩),s.v] [] fun K R=>∀ c1 c2,K (.func (.func 283) #[] #[.pointer (some ⟨c1,0,none⟩),.pointer (some ⟨c2,0,none⟩)]) (cl c1 108 [.pointer (some ⟨p,0,none⟩)]::cl c2 132 [.string s.a,.string s.b]::R):=by
 refine Spec.intro Tryz.func231 rfl Tryz.ntmps231 rfl fun R K hK=>?_
 refine WP.seq<|WP.reg ?_
 refine WL.h (h_box fun b1=>?_)
 refine WL.h (h_box fun b2=>?_)
 refine WL.e e_assign<|WL.next<|WP.seq<|WP.reg<|WL.e e_makeFunc<|WL.e e_assign<|WL.next<|WP.ret ?_
 exact PO.fin Tryz.results231 (rv_tmp rv_nil) (hK b1 b2)
def ScJ (b b2 most:Nat) (pre:List RowM):HP:=fun S=>∃ sv:SV,stars [cl b2 3 [.int .i64 most],cl b 24 [sv.v],Sl 59 2 RowM.c sv.v pre] S
def ScX (b b2 most:Nat) (pre:List RowM) (x:RowM) (j:Code):HP:=fun S=>∃ sv:{ sv:SV // j=.exit 0 },stars [cl b2 3 [.int .i64 most],cl b 24 [sv.1.v],Sl 59 2 RowM.c sv.1.v pre] S
theorem hist_len {α:Type} {most:Nat} {xs:List α} (h:Hist (fun (pre:List α) _=>pre.length < most) xs):xs.length≤most:=by
 rcases List.eq_nil_or_concat xs with rfl | ⟨l,x,rfl⟩
 ·simp
 ·have:=h l x [] (by simp);simp;omega
theorem Scan_spec {g:World} {p:Nat} {l:List RowM} (s:SpanM) (most:Nat) (hl:Rising l) (hn:l.length≤68719476000) (hm:most≤68719476000):Spec Tryz.prog g 172 [.pointer (some ⟨p,0,none⟩),s.v,.int .i64 most] [Mm p l] fun K R=>∀ a m c,K (.slice a m c) (Sl 59 2 RowM.c (.slice a m c) (scanR l s most)::Mm p l::R):=by
 refine Spec.intro Tryz.func172 rfl Tryz.ntmps172 rfl fun R K hK=>?_
 refine WP.seq<|WP.reg ?_
 refine WL.h (h_box fun b1=>?_)
 refine WL.h (h_box fun b2=>?_)
 refine WL.h (h_alloc z24 fun b3=>?_)
 refine WL.next<|WP.seq<|WP.seq<|WP.reg<|WL.e e_move<|WL.e (e_loadN a132) ?_
 refine WL.h (h_call (in_spec ⟨_,_⟩) k231 ?_)
 intro c1 c2
 refine WL.next<|WP.block<|WP.nils 59 2 RowM.c none ?_
 refine WP.cls (A:=ScJ b3 b2 most []) (B:=[cl b2 3 [.int .i64 most],cl b3 24 [.slice none 0 0],Sl 59 2 RowM.c (.slice none 0 0) ([])]) (fun S h=>⟨⟨none,0,0⟩,h⟩) ?_
 refine WP.range (R:=?RR) (f:=283) (fs:=[]) (cs:=[.pointer (some ⟨c1,0,none⟩),.pointer (some ⟨c2,0,none⟩)]) (ScJ b3 b2 most) (ScX b3 b2 most) (fun pre _=>pre.length < most) (in_iter (c1:=c1) (c2:=c2) (p:=p) (s:=s) hl hn) k283 ?hLL ?_ ?_ ?_ (fun _=>rfl)
 case hLL=>repeat first | exact .nil | exact Pick.z | apply Pick.s | apply Split.cons
 ·rintro lb db fn tmps pre x R2 hp hh
  have hlen:=hist_len hh
  refine WP.opn (B:=fun sv:SV=>[cl b2 3 [.int .i64 most],cl b3 24 [sv.v],Sl 59 2 RowM.c (sv.v) (pre)]) (fun _ h=>h) fun sv=>?_
  refine WP.reg ?_
  refine WL.h (h_alloc z59 fun b4=>?_)
  refine WL.h' (h_store s59 ?_)
  refine WL.nil<|PO.asg rfl (by repeat first | exact .z | apply Put.s)<|WP.block<|WP.seq<|WP.seq<|WP.reg<|WL.e (e_load a24)<|WL.e (el_len (xs:=pre) sl24 sl_rl)<|WL.e (e_load a3)<|WL.e e_geq<|WL.next ?_
  refine WP.cond rfl (fun h1=>?_) (fun h1=>?_)
  ·skip
   refine WP.exit<|PO.past nofun<|PO.blockY rfl<|PO.cls (A:=ScX b3 b2 most pre x (.exit 0)) (B:=[cl b2 3 [.int .i64 most],cl b3 24 [sv.v],Sl 59 2 RowM.c (sv.v) (pre)]) (fun S h=>⟨⟨sv,rfl⟩,h⟩) ?_
   exact PO.rnd_exit (by rw [decide_eq_true_eq] at h1;omega) (by repeat first | exact .refl | exact Pick.z | apply Pick.s | apply Sub.cons | apply Sub.drop)
  ·skip
   refine WP.skip<|PO.next<|WP.reg<|WL.e (e_load a24)<|WL.e (e_loadN a59) ?_
   refine WL.h (h_bs sl24 z59 (.a2 (.tmp 17) rfl<|.n) fun b5=>?_)
   refine WL.h (hl_append (xs:=pre) (ys:=[x]) sl24 rowE z59 (lit_rl rowE [x] rfl) (by simp;omega) (fun a2 n2 m2=>?_))
   refine WL.h' (h_store s24 ?_)
   refine WL.nil<|PO.blockN<|PO.cls (A:=ScJ b3 b2 most (pre++[x])) (B:=[cl b2 3 [.int .i64 most],cl b3 24 [.slice a2 n2 m2],Sl 59 2 RowM.c (.slice a2 n2 m2) (pre++[x])]) (fun S h=>⟨⟨a2,n2,m2⟩,h⟩) ?_
   exact PO.rnd (by rw [decide_eq_false_iff_not] at h1;omega) (by repeat first | exact .refl | exact Pick.z | apply Pick.s | apply Sub.cons | apply Sub.drop)
 ·intro db xs hx hh
  subst hx
  have hlen:=hist_len hh
  rw [← show scanR l s most=l.filter fun r=>inSpan s r.key from List.take_of_length_le hlen]
  refine PO.opn (B:=fun sv:SV=>[cl b2 3 [.int .i64 most],cl b3 24 [sv.v],Sl 59 2 RowM.c (sv.v) (scanR l s most)]) (fun _ h=>h) fun sv=>?_
  refine PO.blockN<|PO.next<|WP.seq<|WP.reg<|WL.e (e_load a24) ?_
  refine WL.h' (h_store s24 ?_)
  refine WL.next<|WP.ret<|PO.sh (u:=sv.v) ?_
  intro a n c he
  rw [he]
  exact PO.finM (by repeat first | exact .z | apply Put.s) Tryz.results172 (rv_cell a24 rv_nil) (hK a n c)
 ·intro db pre x j hp hh hc
  have hlen:=hist_len hh
  refine WP.opn (B:=fun sv:{ sv:SV // j=.exit 0 }=>[cl b2 3 [.int .i64 most],cl b3 24 [sv.1.v],Sl 59 2 RowM.c (sv.1.v) (pre)]) (fun _ h=>h) fun sv=>?_
  obtain ⟨sv,rfl⟩:=sv
  obtain rfl:pre=scanR l s most:=by
   obtain ⟨t,ht⟩:=hp
   rw [scanR,← ht,show most=pre.length by omega];simp
  refine WP.exit<|PO.blockX<|PO.next<|WP.seq<|WP.reg<|WL.e (e_load a24) ?_
  refine WL.h' (h_store s24 ?_)
  refine WL.next<|WP.ret<|PO.sh (u:=sv.v) ?_
  intro a n c he
  rw [he]
  exact PO.finM (by repeat first | exact .z | apply Put.s) Tryz.results172 (rv_cell a24 rv_nil) (hK a n c)
end Go.SL
namespace Go.SL
open Go
section
variable {P : Program} {r : Option Nat} {g : World} {Γ : Env} {L M : List HP} {Q : Post}
theorem WP.cutR {α:Type} {c d:Code} {n:Nat} {D:List Deferred} {l:List (Nat × Value)} (E:α→List (Nat × Value)) (H:α→List HP) (keep:List (Nat × Value)) (φ:α→Prop) (h:WP P r g c (Exit.then (Meet g n D (fun x=>(E x++keep,H x)) φ) Q) ⟨n,D,l⟩ L) (hd:∀ x,φ x→WP P r g d Q ⟨n,D,E x++keep⟩ (H x))
    (hl:EnvSub keep l:=by repeat first | exact EnvSub.nil | refine EnvSub.cons rfl ?_):WP P r g (.seq c d) Q ⟨n,D,l⟩ L:=WP.cut (fun x=>(E x++keep,H x)) φ h hd
theorem h_makeMapB {κ:Type} [DecidableEq κ] {ek:κ→Value} {dst:Option Tmp} {t:TypeId} {pos:String} {aft:Array Edge} {gd:Option (Nat × Bool)} {T:TypeId} {K:Value→List HP→Prop} (hK:∀ b,K (.map (some b)) (Mp ek (.map (some b)) ([]:List (κ × Value))::L)):HO P r g ⟨dst,.makeMap T none,t,pos,aft,gd⟩ Γ L K:=
  HO.run (by simp) fun a w _ hw=>by
    have h:=hw.push (.map #[] 0)
    obtain ⟨T1,T2,hd',m1,m2,hA1,hA2⟩:=h.heap
    refine ⟨.map (some w.heap.size),_,w.alloc (.map #[] 0),by simp [execOp,Instr.makeMap],hK _,h.os,h.tape,h.output,h.size,T1,T2,hd',m1,m2,⟨w.heap.size,[],0,rfl,hA1,rfl,by simp,by simp⟩,hA2⟩
end
end Go.SL
namespace Go.SL
open Go
def Old (w:World):HP:=fun S=>le (heapOf w) S
theorem sat_old (w:World):Sat w [Old w] w:=⟨rfl,rfl,rfl,Nat.le_refl _,heapOf w,fun _=>none,fun _=>.inr rfl,le_refl _,(fun _ _ h=>by cases h),le_refl _,trivial⟩
theorem old_below {w w':World} (h:Sat w [Old w] w'):Go.RowKit.Below w.heap.size w w':=by
  refine ⟨h.os,h.tape,h.output,h.size,fun k hk=>?_⟩
  obtain ⟨S1,S2,_,h1,_,h2,_⟩:=h.heap
  have e:w.heap[k]?=some w.heap[k]:=Array.getElem?_eq_getElem hk
  rw [e]
  exact h1 _ _ (h2 _ _ e)
theorem u32_wf {n:Int} (h:(Lit.int .u32 n).wf=true):n=((UInt32.ofNat n.toNat).toNat:Int):=by
  simp only [Lit.wf,Bool.and_eq_true,decide_eq_true_eq] at h
  rw [show IntKind.u32.min=0 from rfl,show IntKind.u32.max=4294967295 from rfl] at h
  have:(UInt32.ofNat n.toNat).toNat=n.toNat:=by simp;omega
  omega
theorem u8_wf {n:Int} (h:(Lit.int .u8 n).wf=true):n=((UInt8.ofNat n.toNat).toNat:Int):=by
  simp only [Lit.wf,Bool.and_eq_true,decide_eq_true_eq] at h
  rw [show IntKind.u8.min=0 from rfl,show IntKind.u8.max=255 from rfl] at h
  have:(UInt8.ofNat n.toNat).toNat=n.toNat:=by simp;omega
  omega
end Go.SL
namespace Go.SL
open Go
instance:DecidableEq RowM:=fun a b=>decidable_of_iff (a.key=b.key∧a.val=b.val) ⟨fun ⟨h1,h2⟩=>by cases a;cases b;simp_all,fun h=>by subst h;exact ⟨rfl,rfl⟩⟩
section
variable {P : Program} {r : Option Nat} {g : World} {Γ : Env} {L M : List HP} {dst : Option Tmp} {t : TypeId} {pos : String} {aft : Array Edge} {gd : Option (Nat × Bool)}
theorem run_part1 {T:TypeId} (h:aggOf P T=some none) (cs:Array Value) (i:Nat) (v:Value) (hv:cs[i]?=some v) (w:World):(part T cs i).run P w=.ok v w:=by
  unfold part
  simp [run_isAgg h,hv]
theorem e_rowne {T T2 s u:TypeId} {b0 b1:Nat} {x y:Operand} {a b:RowM} (hT:P.underlying T=some (.struct #[⟨ "Key",s,0,false, "", "",b0⟩,⟨ "Value",u,1,false, "", "",b1⟩])) (hs:P.underlying s=some .string) (hu:P.underlying u=some (.int .u32))
    (hs1:aggOf P s=some none) (hu1:aggOf P u=some none) (hp:P.stoodInHeld T=false) (hm:P.eqGuardType P.depth T=false) (hx:ev Γ x=some a.v) (hy:ev Γ y=some b.v) :
    EO P g ⟨dst,.binOp .neq T x y T2,t,pos,aft,gd⟩ Γ L (.bool (!decide (a=b))):=e_bin hx hy fun w=>by
  have hf:P.fieldsOf T=#[⟨ "Key",s,0,false, "", "",b0⟩,⟨ "Value",u,1,false, "", "",b1⟩]:=by unfold Program.fieldsOf;rw [hT]
  have hE:∀ w,(Op.equalIn 10000 T (.agg #[.string a.key,.int .u32 a.val.toNat]) (.agg #[.string b.key,.int .u32 b.val.toNat])).run P w=.ok (decide (a=b)) w:=fun w=>by
    rw [show (10000:Nat)=9999+1 from rfl,run_equalIn_struct w 9999 T _ _ (by rw [hf];exact hT) hp,hf]
    simp only [Op.eqFields,Sem.run_bind]
    rw [if_pos (by decide)]
    simp only [Sem.run_bind]
    rw [run_part1 hs1 _ 0 (.string a.key) rfl]
    simp only [Result.andThen_ok]
    rw [run_part1 hs1 _ 0 (.string b.key) rfl]
    simp only [Result.andThen_ok]
    rw [show (9999:Nat)=9998+1 from rfl,run_equalIn_string w 9998 s a.key b.key hs]
    simp only [Result.andThen_ok]
    cases hk:a.key.toList == b.key.toList with
    | false=>
      simp
      intro e;subst e;simp at hk
    | true=>
      have hk':a.key=b.key:=by
        rw [← beq_toListBytes] at hk
        have:(a.key.data == b.key.data)=true:=hk
        rw [ByteArray.ext_iff];simpa using this
      simp only [Bool.not_true,Bool.false_eq_true,if_false]
      rw [if_pos (by decide)]
      simp only [Sem.run_bind]
      rw [run_part1 hu1 _ 1 (.int .u32 a.val.toNat) rfl]
      simp only [Result.andThen_ok]
      rw [run_part1 hu1 _ 1 (.int .u32 b.val.toNat) rfl]
      simp only [Result.andThen_ok]
      rw [run_equalIn_int w 9998 u .u32 .u32 _ _ hu]
      simp only [Result.andThen_ok,beq32]
      cases hv:a.val == b.val with
      | false=>
        simp
        intro e;subst e;simp at hv
      | true=>
        simp at hv
        simp
        cases a;cases b;simp_all
  show (do eqGuard .neq T x y (.agg #[.string a.key,.int .u32 a.val.toNat]) (.agg #[.string b.key,.int .u32 b.val.toNat]);binOp .neq T (.agg #[.string a.key,.int .u32 a.val.toNat]) (.agg #[.string b.key,.int .u32 b.val.toNat]):Sem Value).run P w=_
  rw [Sem.run_bind,run_eqGuard_agg w .neq T x y _ _ hm]
  simp only [Result.andThen_ok]
  rw [run_neq_struct,hE];rfl
end
end Go.SL
