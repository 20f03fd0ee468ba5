import Derived.Test.YtmeoolijekillaaGreatDoorQL15
import Derived.Laws.RangeString
import Derived.Lib.ItoaNum
import Derived.WideLaws
import Derived.Laws.DeepStrings4
set_option linter.unusedSimpArgs false
set_option linter.unusedVariables false
set_option linter.unusedSectionVars false
namespace Go.SL
open Go
structure DeedM where
  g:UInt32
  site:UInt8
  order:UInt32
  ops:SV
  res:SV
def DeedM.c (d:DeedM):List Value:=[.int .u32 d.g.toNat,.int .u8 d.site.toNat,.int .u32 d.order.toNat,d.ops.v,d.res.v]
theorem deedE:EncOk 5 DeedM.c:=⟨fun _=>rfl,fun _=>rfl⟩
def natC (n:Nat):List Value:=[.int .i64 n]
theorem natE:EncOk 1 natC:=⟨fun _=>rfl,fun _=>rfl⟩
def boolC (b:Bool):List Value:=[.bool b]
theorem boolE:EncOk 1 boolC:=⟨fun _=>rfl,fun _=>rfl⟩
def unitAt (l:List DeedM) (i:Nat):Nat:=match l[i]? with
  | none=>i
  | some d=>if d.g=0 then i else (l.findIdx? fun e=>decide (e.g=d.g)).getD i
def unitsM (l:List DeedM):List Nat:=(List.range l.length).map (unitAt l)
def dOkAt (l:List DeedM) (i:Nat):Bool:=match l[i]? with
  | none=>true
  | some d=>decide (1≤d.site.toNat∧d.site.toNat≤3) && !((l.take i).any fun e=>decide (e.site=d.site∧e.order=d.order))
def unitsOk (l:List DeedM):Bool:=(List.range l.length).all (dOkAt l)
theorem unitAt_find {l:List DeedM} {i:Nat} {d:DeedM} (h:l[i]?=some d) (hg:d.g≠0):∃ k e,k≤i∧l[k]?=some e∧e.g=d.g∧(l.findIdx? fun e=>decide (e.g=d.g))=some k∧unitAt l i=k:=by
  have hlt:=idx_lt h
  cases hf:l.findIdx? (fun e=>decide (e.g=d.g)) with
  | none=>
    have:=List.findIdx?_eq_none_iff.1 hf d (List.mem_of_getElem? h)
    simp at this
  | some k=>
    obtain ⟨hk,h1,h2⟩:=List.findIdx?_eq_some_iff_getElem.1 hf
    refine ⟨k,l[k],?_,List.getElem?_eq_getElem hk,by simpa using h1,rfl,by simp [unitAt,h,hg,hf]⟩
    rcases Nat.lt_or_ge i k with h3 | h3
    · have:=h2 i h3
      rw [List.getElem?_eq_getElem hlt] at h
      cases h
      simp at this
    · exact h3
theorem unitAt_le {l:List DeedM} {i:Nat} (h:i < l.length):unitAt l i≤i:=by
  have hx:l[i]?=some l[i]:=List.getElem?_eq_getElem h
  by_cases hg:l[i].g=0
  · simp [unitAt,hx,hg]
  · obtain ⟨k,e,h1,_,_,_,h2⟩:=unitAt_find hx hg
    omega
theorem unitAt_local {l:List DeedM} {i:Nat} {d:DeedM} (h:l[i]?=some d) (hg:d.g=0):unitAt l i=i:=by simp [unitAt,h,hg]
structure FirstOk (kvs:List (UInt32 × Value)) (l:List DeedM) (i:Nat):Prop where
  get:∀ g,g≠0→mget kvs g=((l.take i).findIdx? fun e=>decide (e.g=g)).map fun k=>.int .i64 (k:Nat)
def SeenOk (kvs:List ((UInt32 × UInt32) × Value)) (l:List DeedM) (i:Nat):Prop:=∀ s:UInt8,∀ o,mget kvs (s.toUInt32,o)=if (l.take i).any (fun e=>decide (e.site=s∧e.order=o)) then some (.int .i64 1) else none
theorem FirstOk.init (l:List DeedM):FirstOk [] l 0:=⟨fun g _=>by simp [mget]⟩
theorem SeenOk.init (l:List DeedM):SeenOk [] l 0:=fun s o=>by simp [mget]
theorem findIdx_snoc {l:List DeedM} {i:Nat} {d:DeedM} (h:l[i]?=some d) (p:DeedM→Bool):(l.take (i+1)).findIdx? p=((l.take i).findIdx? p).or (if p d then some i else none):=by
  have hlt:=idx_lt h
  rw [take_snoc h,List.findIdx?_append]
  congr 1
  by_cases e:p d=true
  · simp [List.findIdx?_cons,e];omega
  · simp [List.findIdx?_cons,e]
theorem FirstOk.put {kvs:List (UInt32 × Value)} {l:List DeedM} {i:Nat} {d:DeedM} (h:FirstOk kvs l i) (hd:l[i]?=some d) (hn:d.g=0∨mget kvs d.g=none):FirstOk (mset kvs d.g (.int .i64 (i:Nat))) l (i+1)∧unitAt l i=i:=by
  have hlt:=idx_lt hd
  constructor
  · refine ⟨fun g hg=>?_⟩
    rw [mget_mset,findIdx_snoc hd]
    by_cases e:g=d.g
    · subst e
      rw [if_pos rfl]
      rcases hn with hn | hn
      · exact absurd hn hg
      · rw [h.get _ hg,Option.map_eq_none_iff] at hn
        rw [hn];simp
    · rw [if_neg e,h.get _ hg]
      have:¬ d.g=g:=fun x=>e x.symm
      simp [this]
  · rcases hn with hn | hn
    · exact unitAt_local hd hn
    · by_cases hg:d.g=0
      · exact unitAt_local hd hg
      · rw [h.get _ hg,Option.map_eq_none_iff] at hn
        obtain ⟨k,e,h1,h2,h3,_,h5⟩:=unitAt_find hd hg
        rw [h5]
        rcases Nat.lt_or_ge k i with hk | hk
        · have:=List.findIdx?_eq_none_iff.1 hn e (List.mem_of_getElem? (i:=k) (by rw [List.getElem?_take_of_lt hk];exact h2))
          simp [h3] at this
        · omega
theorem FirstOk.keep {kvs:List (UInt32 × Value)} {l:List DeedM} {i:Nat} {d:DeedM} (h:FirstOk kvs l i) (hd:l[i]?=some d) (hg:d.g≠0) {v:Value} (hn:mget kvs d.g=some v):FirstOk kvs l (i+1)∧v=.int .i64 (unitAt l i:Nat):=by
  have hlt:=idx_lt hd
  have h0:=h.get _ hg
  rw [hn] at h0
  cases hf:(l.take i).findIdx? (fun e=>decide (e.g=d.g)) with
  | none=>rw [hf] at h0;cases h0
  | some k=>
    rw [hf] at h0
    constructor
    · refine ⟨fun g hg=>?_⟩
      rw [h.get _ hg,findIdx_snoc hd]
      by_cases e:d.g=g
      · subst e;rw [hf];simp
      · simp [e]
    · have h1:unitAt l i=k:=by
        simp only [unitAt,hd,if_neg hg]
        conv=>lhs;rw [← List.take_append_drop i l]
        rw [List.findIdx?_append,hf]
        rfl
      rw [h1]
      exact Option.some.inj h0
theorem SeenOk.step {kvs:List ((UInt32 × UInt32) × Value)} {l:List DeedM} {i:Nat} {d:DeedM} (h:SeenOk kvs l i) (hd:l[i]?=some d):SeenOk (mset kvs (d.site.toUInt32,d.order) (.int .i64 1)) l (i+1):=fun s o=>by
  rw [mget_mset,take_snoc hd,List.any_append,h s o]
  by_cases e:s=d.site∧o=d.order
  · obtain ⟨rfl,rfl⟩:=e
    simp
  · rw [if_neg (fun x=>e ⟨by
      have:=congrArg Prod.fst x
      simp only at this
      have h2:=congrArg UInt32.toNat this
      simp at h2
      exact UInt8.toNat_inj.1 h2,congrArg Prod.snd x⟩)]
    have:¬ (d.site=s∧d.order=o):=fun x=>e ⟨x.1.symm,x.2.symm⟩
    simp [this]
theorem units_step {l:List DeedM} {i:Nat} (h:(List.range i).all (dOkAt l)=true) (hi:dOkAt l i=true):(List.range (i+1)).all (dOkAt l)=true:=by
  rw [List.range_succ,List.all_append,h];simp [hi]
theorem units_bad {l:List DeedM} {i:Nat} {d:DeedM} (hd:l[i]?=some d) (hi:dOkAt l i=false):unitsOk l=false:=by
  refine List.all_eq_false.2 ⟨i,List.mem_range.2 (idx_lt hd),by simp [hi]⟩
theorem map_snoc {l:List DeedM} (i:Nat):(List.range (i+1)).map (unitAt l)=(List.range i).map (unitAt l)++[unitAt l i]:=by rw [List.range_succ,List.map_append];rfl
theorem units_ne {l:List DeedM} (h:unitsOk l=true) {i j:Nat} {d e:DeedM} (hd:l[i]?=some d) (he:l[j]?=some e) (hs:e.site=d.site) (ho:e.order=d.order):i=j:=by
  have key:∀ {i j:Nat} {d e:DeedM},l[i]?=some d→l[j]?=some e→e.site=d.site→e.order=d.order→¬ j < i:=by
    intro i j d e hd he hs ho hlt
    have:=List.all_eq_true.1 h i (List.mem_range.2 (idx_lt hd))
    simp only [dOkAt,hd,Bool.and_eq_true,Bool.not_eq_true'] at this
    have h2:=List.any_eq_false.1 this.2 e (List.mem_of_getElem? (i:=j) (by rw [List.getElem?_take_of_lt hlt];exact he))
    simp [hs,ho] at h2
  have h1:=key hd he hs ho
  have h2:=key he hd hs.symm ho.symm
  omega
def edgeB (l:List DeedM) (i k:Nat):Bool:=match l[i]?,l[k]? with
  | some a,some b=>decide (a.site=b.site) && decide (b.order < a.order) && decide (unitAt l i≠unitAt l k)
  | _,_=>false
def eRow (l:List DeedM) (i k:Nat):List (Nat × Nat):=(List.range k).flatMap fun j=>if edgeB l i j then [(unitAt l i,unitAt l j)] else []
def edgesM (l:List DeedM) (i k:Nat):List (Nat × Nat):=((List.range i).flatMap fun j=>eRow l j l.length)++eRow l i k
def allE (l:List DeedM):List (Nat × Nat):=edgesM l l.length 0
theorem edges_step (l:List DeedM) (i k:Nat):edgesM l i (k+1)=edgesM l i k++if edgeB l i k then [(unitAt l i,unitAt l k)] else []:=by
  unfold edgesM
  rw [show eRow l i (k+1)=eRow l i k++(if edgeB l i k then [(unitAt l i,unitAt l k)] else []) by unfold eRow;rw [List.range_succ,List.flatMap_append];simp,List.append_assoc]
theorem edges_next (l:List DeedM) (i:Nat):edgesM l (i+1) 0=edgesM l i l.length:=by
  unfold edgesM
  rw [List.range_succ,List.flatMap_append]
  simp [eRow]
theorem eRow_len (l:List DeedM) (i:Nat):∀ k,(eRow l i k).length≤k
  | 0=>by simp [eRow]
  | k+1=>by
    have:=eRow_len l i k
    unfold eRow at this ⊢
    rw [List.range_succ,List.flatMap_append,List.length_append]
    simp only [List.flatMap_cons,List.flatMap_nil,List.append_nil]
    by_cases e:edgeB l i k=true
    · rw [if_pos e];simp only [List.length_singleton];omega
    · rw [if_neg e];simp only [List.length_nil];omega
theorem edges_len (l:List DeedM) (i k:Nat):(edgesM l i k).length≤i * l.length+k:=by
  unfold edgesM
  rw [List.length_append]
  have h1:=eRow_len l i k
  have h2:∀ n,((List.range n).flatMap fun j=>eRow l j l.length).length≤n * l.length:=by
    intro n
    induction n with
    | zero=>simp
    | succ n ih=>
      rw [List.range_succ,List.flatMap_append,List.length_append]
      have:=eRow_len l n l.length
      simp only [List.flatMap_cons,List.flatMap_nil,List.append_nil]
      rw [Nat.succ_mul]
      omega
  have:=h2 i
  omega
theorem edges_mem {l:List DeedM} {i k:Nat} (hi:i≤l.length) (hk:k≤l.length) {u v:Nat} (h:(u,v) ∈ edgesM l i k):∃ i' k',i' < l.length∧k' < l.length∧edgeB l i' k'=true∧unitAt l i'=u∧unitAt l k'=v:=by
  have row:∀ {i k:Nat},(u,v) ∈ eRow l i k→∃ k',k' < k∧edgeB l i k'=true∧unitAt l i=u∧unitAt l k'=v:=by
    intro i k h
    obtain ⟨j,hj,h2⟩:=List.mem_flatMap.1 h
    by_cases e:edgeB l i j=true
    · rw [if_pos e] at h2
      simp only [List.mem_singleton,Prod.mk.injEq] at h2
      exact ⟨j,List.mem_range.1 hj,e,h2.1.symm,h2.2.symm⟩
    · rw [if_neg e] at h2;cases h2
  have lt:∀ {i k:Nat},edgeB l i k=true→i < l.length:=by
    intro i k h
    unfold edgeB at h
    split at h
    · rename_i h1 _;exact idx_lt h1
    · cases h
  unfold edgesM at h
  rcases List.mem_append.1 h with h | h
  · obtain ⟨j,hj,h2⟩:=List.mem_flatMap.1 h
    obtain ⟨k',h3,h4,h5,h6⟩:=row h2
    exact ⟨j,k',lt h4,h3,h4,h5,h6⟩
  · obtain ⟨k',h3,h4,h5,h6⟩:=row h
    exact ⟨i,k',lt h4,by omega,h4,h5,h6⟩
theorem allE_iff {l:List DeedM} {u v:Nat}:(u,v) ∈ allE l↔∃ i k,i < l.length∧k < l.length∧edgeB l i k=true∧unitAt l i=u∧unitAt l k=v:=by
  constructor
  · exact edges_mem (Nat.le_refl _) (Nat.zero_le _)
  · rintro ⟨i,k,hi,hk,he,rfl,rfl⟩
    unfold allE edgesM
    refine List.mem_append.2 (.inl (List.mem_flatMap.2 ⟨i,List.mem_range.2 hi,List.mem_flatMap.2 ⟨k,List.mem_range.2 hk,?_⟩⟩))
    rw [if_pos he];simp
theorem edge_lt {l:List DeedM} {i k u v:Nat} (hi:i≤l.length) (hk:k≤l.length) (h:(u,v) ∈ edgesM l i k):u < l.length∧v < l.length:=by
  obtain ⟨i',k',h1,h2,_,rfl,rfl⟩:=edges_mem hi hk h
  have:=unitAt_le h1
  have:=unitAt_le h2
  omega
def aheadM (E:List (Nat × Nat)) (u:Nat):List Nat:=(E.filter fun e=>decide (e.1=u)).map (·.2)
theorem ahead_snoc (E:List (Nat × Nat)) (u v w:Nat):aheadM (E++[(u,v)]) w=if w=u then aheadM E w++[v] else aheadM E w:=by
  unfold aheadM
  rw [List.filter_append,List.map_append]
  by_cases e:u=w
  · subst e;simp
  · rw [if_neg (fun x=>e x.symm)];simp [e]
theorem ahead_mem {E:List (Nat × Nat)} {u v:Nat}:v ∈ aheadM E u↔(u,v) ∈ E:=by
  unfold aheadM
  simp only [List.mem_map,List.mem_filter,decide_eq_true_eq,Prod.exists]
  constructor
  · rintro ⟨a,b,⟨h1,rfl⟩,rfl⟩;exact h1
  · intro h;exact ⟨u,v,⟨h,rfl⟩,rfl⟩
theorem ahead_len (E:List (Nat × Nat)) (u:Nat):(aheadM E u).length≤E.length:=by
  unfold aheadM
  rw [List.length_map]
  exact List.length_filter_le _ _
def no32 (u:Nat):UInt32:=UInt32.ofNat u+1
theorem no32_nat {u:Nat} (h:u < 1000000):(no32 u).toNat=u+1:=by
  unfold no32
  rw [UInt32.toNat_add,UInt32.toNat_ofNat']
  show (u % 2 ^ 32+1) % 2 ^ 32=u+1
  omega
def Stuck (R:UInt32→UInt32→Prop):Prop:=∃ S:List UInt32,S≠[]∧∀ x ∈ S,∃ y ∈ S,R x y
def Ranked (R:UInt32→UInt32→Prop) (rk:UInt32→Nat):Prop:=∀ x y,R x y→rk y < rk x
theorem Stuck.not {R:UInt32→UInt32→Prop} (h:Stuck R) {rk:UInt32→Nat} (hr:Ranked R rk):False:=by
  obtain ⟨S,hS,hx⟩:=h
  have key:∀ n x,x ∈ S→rk x≠n:=by
    intro n
    induction n using Nat.strongRecOn with
    | ind n ih=>
      intro x hxS e
      obtain ⟨y,hy,hR⟩:=hx x hxS
      exact ih (rk y) (by have:=hr x y hR;omega) y hy rfl
  cases S with
  | nil=>exact hS rfl
  | cons a S=>exact key _ a (by simp) rfl
def RelE (E:List (Nat × Nat)) (x y:UInt32):Prop:=∃ u v,(u,v) ∈ E∧x=no32 u∧y=no32 v
theorem edgeL_rel (E:List (Nat × Nat)) (x y:UInt32):EdgeL (E.map fun e=>no32 e.1) (E.map fun e=>no32 e.2) (E.map fun e=>no32 e.1).length x y↔RelE E x y:=by
  constructor
  · rintro ⟨j,hj,h1,h2⟩
    rw [List.getElem?_map] at h1 h2
    cases hE:E[j]? with
    | none=>rw [hE] at h1;cases h1
    | some e=>
      rw [hE] at h1 h2
      exact ⟨e.1,e.2,List.mem_of_getElem? hE,(Option.some.inj h1).symm,(Option.some.inj h2).symm⟩
  · rintro ⟨u,v,h,rfl,rfl⟩
    obtain ⟨j,hj⟩:=List.mem_iff_getElem?.1 h
    exact ⟨j,by rw [List.length_map];exact idx_lt hj,by rw [List.getElem?_map,hj];rfl,by rw [List.getElem?_map,hj];rfl⟩
def before (l:List DeedM) (a b:Nat):Prop:=∀ x y,l[a]?=some x→l[b]?=some y→x.site=y.site→x.order < y.order
def OutOk (l:List DeedM) (out:List Nat):Prop:=out.Perm (List.range l.length)∧out.Pairwise (before l)
def ofUnit (l:List DeedM) (u:Nat):List Nat:=(List.range l.length).filter fun i=>decide (unitAt l i=u)
def pickB (l:List DeedM) (us:List Nat) (u:Nat):Bool:=!decide (u ∈ us) && (aheadM (allE l) u).all fun v=>decide (v ∈ us)
structure OrdI (l:List DeedM) (us out:List Nat):Prop where
  perm:out.Perm ((List.range l.length).filter fun i=>decide (unitAt l i ∈ us))
  pw:out.Pairwise (before l)
  closed:∀ u ∈ us,∀ v ∈ aheadM (allE l) u,v ∈ us
theorem OrdI.init (l:List DeedM):OrdI l [] []:=⟨by simp,List.Pairwise.nil,fun u h=>by cases h⟩
theorem OrdI.len {l:List DeedM} {us out:List Nat} (h:OrdI l us out):out.length≤l.length:=by
  rw [h.perm.length_eq]
  have:=List.length_filter_le (fun i=>decide (unitAt l i ∈ us)) (List.range l.length)
  simpa using this
theorem OrdI.next {l:List DeedM} {us out:List Nat} (h:OrdI l us out) (hlt:out.length < l.length) {rk:Nat→Nat} (hr:∀ u v,(u,v) ∈ allE l→rk v < rk u):∃ j,(unitsM l).findIdx? (pickB l us)=some j∧j < l.length∧pickB l us (unitAt l j)=true:=by
  have h1:∃ i,i < l.length∧unitAt l i ∉ us:=by
    by_cases hc:∀ i < l.length,unitAt l i ∈ us
    · have:=h.perm.length_eq
      rw [List.filter_eq_self.2 (fun i hi=>by simpa using hc i (List.mem_range.1 hi)),List.length_range] at this
      omega
    · simp only [Classical.not_forall] at hc
      obtain ⟨i,h1,h2⟩:=hc
      exact ⟨i,h1,h2⟩
  have key:∀ n i,i < l.length→unitAt l i ∉ us→rk (unitAt l i)=n→∃ j,j < l.length∧pickB l us (unitAt l j)=true:=by
    intro n
    induction n using Nat.strongRecOn with
    | ind n ih=>
      intro i hi hn hrk
      by_cases hall:(aheadM (allE l) (unitAt l i)).all (fun v=>decide (v ∈ us))=true
      · exact ⟨i,hi,by simp [pickB,hn,hall]⟩
      · obtain ⟨v,hv,hvn⟩:∃ v ∈ aheadM (allE l) (unitAt l i),v ∉ us:=by
          simp only [List.all_eq_true,Classical.not_forall,decide_eq_true_eq] at hall
          obtain ⟨v,h1,h2⟩:=hall
          exact ⟨v,h1,h2⟩
        have hE:=ahead_mem.1 hv
        obtain ⟨_,k,_,hk,_,_,rfl⟩:=allE_iff.1 hE
        exact ih _ (by have:=hr _ _ hE;omega) k hk hvn rfl
  obtain ⟨i,hi,hn⟩:=h1
  obtain ⟨j,hj,hp⟩:=key _ i hi hn rfl
  cases hf:(unitsM l).findIdx? (pickB l us) with
  | none=>
    have:=List.findIdx?_eq_none_iff.1 hf (unitAt l j) (List.mem_map.2 ⟨j,List.mem_range.2 hj,rfl⟩)
    rw [this] at hp;cases hp
  | some k=>
    obtain ⟨hk,h2,_⟩:=List.findIdx?_eq_some_iff_getElem.1 hf
    have hkl:k < l.length:=by simpa [unitsM] using hk
    refine ⟨k,rfl,hkl,?_⟩
    simpa [unitsM] using h2
theorem filt_or {p q:Nat→Bool} (h:∀ a,p a=true→q a=false):∀ L:List Nat,(L.filter p++L.filter q).Perm (L.filter fun a=>p a || q a)
  | []=>by simp
  | a::L=>by
    have ih:=filt_or h L
    by_cases e1:p a=true
    · have e2:=h a e1
      simp only [List.filter_cons,e1,e2,Bool.true_or,Bool.or_false,if_true,Bool.false_eq_true,if_false,List.cons_append]
      exact ih.cons a
    · rw [Bool.not_eq_true] at e1
      by_cases e2:q a=true
      · simp only [List.filter_cons,e1,e2,Bool.false_or,if_true,Bool.false_eq_true,if_false]
        exact List.perm_middle.trans (ih.cons a)
      · rw [Bool.not_eq_true] at e2
        simp only [List.filter_cons,e1,e2,Bool.or_self,Bool.false_eq_true,if_false]
        exact ih
theorem OrdI.step {l:List DeedM} {us out zs:List Nat} (h:OrdI l us out) (ho:unitsOk l=true) {u:Nat} (hp:pickB l us u=true) (hz:zs.Perm (ofUnit l u)) (hs:zs.Pairwise (before l)):OrdI l (us++[u]) (out++zs):=by
  simp only [pickB,Bool.and_eq_true,Bool.not_eq_true',decide_eq_false_iff_not,List.all_eq_true,decide_eq_true_eq] at hp
  obtain ⟨hu,hall⟩:=hp
  refine ⟨?_,?_,?_⟩
  · refine (h.perm.append hz).trans ?_
    unfold ofUnit
    have h2:=filt_or (p:=fun i=>decide (unitAt l i ∈ us)) (q:=fun i=>decide (unitAt l i=u)) (fun a ha=>by
      simp only [decide_eq_true_eq] at ha
      simp only [decide_eq_false_iff_not]
      intro e;exact hu (e ▸ ha)) (List.range l.length)
    refine h2.trans (List.Perm.of_eq ?_)
    congr 1
    funext i
    simp
  · refine List.pairwise_append.2 ⟨h.pw,hs,fun a ha b hb=>?_⟩
    intro x y hx hy hsite
    have ha2:=(h.perm.mem_iff.1 ha)
    have hb2:=(hz.mem_iff.1 hb)
    simp only [ofUnit,List.mem_filter,List.mem_range,decide_eq_true_eq] at ha2 hb2
    have hne:unitAt l a≠unitAt l b:=fun e=>hu (by rw [← hb2.2,← e];exact ha2.2)
    have hlt:¬ y.order < x.order:=by
      intro hlt
      have hE:edgeB l a b=true:=by simp [edgeB,hx,hy,hsite,hlt,hne]
      have hm:(unitAt l a,unitAt l b) ∈ allE l:=allE_iff.2 ⟨a,b,ha2.1,hb2.1,hE,rfl,rfl⟩
      have:=h.closed _ ha2.2 _ (ahead_mem.2 hm)
      rw [hb2.2] at this
      exact hu this
    have hno:x.order≠y.order:=fun e=>by
      have:=units_ne ho hx hy hsite.symm e.symm
      exact hne (by rw [this])
    have hno2:x.order.toNat≠y.order.toNat:=fun e=>hno (UInt32.toNat_inj.1 e)
    rw [UInt32.lt_iff_toNat_lt] at hlt ⊢
    omega
  · intro w hw v hv
    rcases List.mem_append.1 hw with hw | hw
    · exact List.mem_append.2 (.inl (h.closed w hw v hv))
    · simp only [List.mem_singleton] at hw
      subst hw
      exact List.mem_append.2 (.inl (hall v hv))
theorem OrdI.full {l:List DeedM} {us out:List Nat} (h:OrdI l us out) (he:¬ out.length < l.length):OutOk l out:=by
  refine ⟨?_,h.pw⟩
  have hl:=h.len
  have h1:=h.perm.length_eq
  have h2:((List.range l.length).filter fun i=>decide (unitAt l i ∈ us))=List.range l.length:=by
    refine List.Sublist.eq_of_length_le List.filter_sublist ?_
    rw [List.length_range];omega
  rw [← h2]
  exact h.perm
theorem ofUnit_pos {l:List DeedM} {j:Nat} (hj:j < l.length):0 < (ofUnit l (unitAt l j)).length:=by
  refine List.length_pos_of_mem (a:=j) ?_
  simp [ofUnit,hj]
end Go.SL
namespace Go.SL
open Go
structure KeyW (es:List (EntV UInt32 UInt32)):Prop where
  nd:(es.map (·.key)).Nodup
  cl:∀ x y,y ∈ wsE es x→y ∈ es.map (·.key)
theorem KeyW.init:KeyW []:=⟨by simp,fun x y h=>by simp [wsE,findE] at h⟩
theorem setE_keys (es:List (EntV UInt32 UInt32)) (k:UInt32) (sv:SV) (ws:List UInt32) (j:UInt32):j ∈ (setE es k sv ws).map (·.key)↔j=k∨j ∈ es.map (·.key):=by
  rw [keys_st,setE_st,setS_keys,← keys_st]
theorem setE_nodup {es:List (EntV UInt32 UInt32)} (h:(es.map (·.key)).Nodup) (k:UInt32) (sv:SV) (ws:List UInt32):((setE es k sv ws).map (·.key)).Nodup:=by
  rw [keys_st,setE_st];exact setS_nodup (by rw [← keys_st];exact h) k ws
theorem findE_keys {es:List (EntV UInt32 UInt32)} {k:UInt32} (h:¬ findE es k=none):k ∈ es.map (·.key):=by
  cases hf:findE es k with
  | none=>exact absurd hf h
  | some e=>obtain ⟨h1,h2⟩:=findE_key hf;exact List.mem_map.2 ⟨e,h1,h2⟩
theorem wsE_keys {es:List (EntV UInt32 UInt32)} {x y:UInt32} (h:y ∈ wsE es x):x ∈ es.map (·.key):=findE_keys fun e=>by rw [findE_ws e] at h;cases h
theorem KeyW.old {es:List (EntV UInt32 UInt32)} (h:KeyW es) (x y:UInt32) (sv:SV) (hy:¬ findE (setE es x sv (wsE es x++[y])) y=none):KeyW (setE es x sv (wsE es x++[y])):=by
  refine ⟨setE_nodup h.nd _ _ _,fun a b hb=>?_⟩
  rw [wsE_set] at hb
  split at hb
  · rcases List.mem_append.1 hb with hb | hb
    · exact (setE_keys _ _ _ _ _).2 (.inr (h.cl _ _ hb))
    · simp only [List.mem_singleton] at hb
      subst hb
      exact findE_keys hy
  · exact (setE_keys _ _ _ _ _).2 (.inr (h.cl _ _ hb))
theorem KeyW.new {es:List (EntV UInt32 UInt32)} (h:KeyW es) (x y:UInt32) (sv sv':SV) (hy:findE (setE es x sv (wsE es x++[y])) y=none):KeyW (setE (setE es x sv (wsE es x++[y])) y sv' []):=by
  refine ⟨setE_nodup (setE_nodup h.nd _ _ _) _ _ _,fun a b hb=>?_⟩
  rw [setE_keys,setE_keys]
  rw [wsE_set] at hb
  split at hb
  · cases hb
  · rw [wsE_set] at hb
    split at hb
    · rcases List.mem_append.1 hb with hb | hb
      · exact .inr (.inr (h.cl _ _ hb))
      · simp only [List.mem_singleton] at hb
        exact .inl hb
    · exact .inr (.inr (h.cl _ _ hb))
theorem setE_len (es:List (EntV UInt32 UInt32)) (k:UInt32) (sv:SV) (ws:List UInt32):(setE es k sv ws).length≤es.length+1:=by
  unfold setE
  split
  · rw [List.length_set];omega
  · rw [List.length_append,List.length_singleton];omega
def idE2 (e:EntV UInt32 UInt32):List Value:=u32C e.key
theorem idE2E:EncOk 1 idE2:=⟨fun _=>rfl,fun _=>rfl⟩
structure TopO (es:List (EntV UInt32 UInt32)) (T ls:List UInt32):Prop where
  perm:(T++ls).Perm (es.map (·.key))
  nd:(T++ls).Nodup
  topo:∀ j x,T[j]?=some x→∀ y ∈ wsE es x,y ∈ T.take j
theorem TopO.init {es:List (EntV UInt32 UInt32)} (h:KeyW es) {ls:List UInt32} (hp:ls.Perm (es.map (·.key))):TopO es [] ls:=
  ⟨by simpa using hp,by rw [List.nil_append];exact hp.nodup_iff.2 h.nd,fun j x h=>by simp at h⟩
theorem TopO.step {es:List (EntV UInt32 UInt32)} {T ls:List UInt32} (h:TopO es T ls) {i:Nat} {x:UInt32} (hx:ls[i]?=some x) (hall:∀ y ∈ wsE es x,y ∈ T):TopO es (T++[x]) (ls.eraseIdx i):=by
  have hlt:=idx_lt hx
  have e1:ls=ls.take i++x::ls.drop (i+1):=by
    conv=>lhs;rw [← List.take_append_drop i ls,List.drop_eq_getElem_cons hlt]
    rw [List.getElem?_eq_getElem hlt] at hx
    rw [Option.some.inj hx]
  have hp:(T++[x]++ls.eraseIdx i).Perm (T++ls):=by
    rw [List.eraseIdx_eq_take_drop_succ,List.append_assoc]
    refine List.Perm.append_left T ?_
    conv=>rhs;rw [e1]
    exact (List.perm_middle (a:=x) (l₁:=ls.take i) (l₂:=ls.drop (i+1))).symm
  refine ⟨hp.trans h.perm,hp.nodup_iff.2 h.nd,fun j z hz y hy=>?_⟩
  rcases Nat.lt_or_ge j T.length with hj | hj
  · rw [List.getElem?_append_left hj] at hz
    rw [List.take_append_of_le_length (by omega)]
    exact h.topo j z hz y hy
  · have hj2:=idx_lt hz
    simp at hj2
    obtain rfl:j=T.length:=by omega
    rw [List.getElem?_append_right (Nat.le_refl _),Nat.sub_self] at hz
    simp at hz
    subst hz
    rw [List.take_append_of_le_length (Nat.le_refl _),List.take_length]
    exact hall y hy
theorem TopO.new {es:List (EntV UInt32 UInt32)} {T ls:List UInt32} (h:TopO es T ls) {i:Nat} {x:UInt32} (hx:ls[i]?=some x):x ∉ T:=fun hT=>by
  have:=(List.nodup_append.1 h.nd).2.2 x hT x (List.mem_of_getElem? hx)
  exact this rfl
theorem TopO.stuck {es:List (EntV UInt32 UInt32)} {T ls:List UInt32} (h:TopO es T ls) (hk:KeyW es) (h0:ls≠[]) (hall:∀ x ∈ ls,∃ y ∈ wsE es x,y ∉ T):Stuck fun x y=>y ∈ wsE es x:=by
  refine ⟨ls,h0,fun x hx=>?_⟩
  obtain ⟨y,hy,hn⟩:=hall x hx
  have:=h.perm.mem_iff.2 (hk.cl x y hy)
  rcases List.mem_append.1 this with h1 | h1
  · exact absurd h1 hn
  · exact ⟨y,h1,hy⟩
theorem TopO.rank {es:List (EntV UInt32 UInt32)} {T:List UInt32} (h:TopO es T []):∃ rk,Ranked (fun x y=>y ∈ wsE es x) rk:=by
  refine ⟨fun x=>T.idxOf x,fun x y hy=>?_⟩
  have hx:x ∈ T:=by
    have:=h.perm.mem_iff.2 (wsE_keys hy)
    simpa using this
  have hlt:=List.idxOf_lt_length_of_mem hx
  have hx2:T[T.idxOf x]?=some x:=by rw [List.getElem?_eq_getElem hlt];simp
  have h1:=h.topo _ _ hx2 y hy
  obtain ⟨j,hj⟩:=List.mem_iff_getElem?.1 h1
  have hj1:=idx_lt hj
  rw [List.length_take] at hj1
  rw [List.getElem?_take_of_lt (by omega)] at hj
  have:T.idxOf y≤j:=by
    have hjl:=idx_lt hj
    rcases Nat.lt_or_ge j (T.idxOf y) with h2 | h2
    · exfalso
      have h3:=List.not_of_lt_findIdx (p:=(· == y)) (xs:=T) h2
      rw [List.getElem?_eq_getElem hjl] at hj
      rw [Option.some.inj hj] at h3
      simp at h3
    · exact h2
  show T.idxOf y < T.idxOf x
  omega
theorem TopO.len {es:List (EntV UInt32 UInt32)} {T ls:List UInt32} (h:TopO es T ls):T.length+ls.length=es.length:=by
  have:=h.perm.length_eq
  simpa using this
end Go.SL
namespace Go.SL
open Go
structure CmpOn (cf:Nat→Nat→Int) (S:Nat→Prop):Prop where
  asym:∀ a b,S a→S b→cf a b < 0→0≤cf b a
  trans:∀ a b c,S a→S b→S c→0≤cf b a→0≤cf c b→0≤cf c a
def gp (ys:List Nat) (p:Nat):Nat:=ys.getD p 0
theorem gp_get {ys:List Nat} {p:Nat} {x:Nat} (h:ys[p]?=some x):gp ys p=x:=by simp [gp,List.getD,h]
theorem gp_mem {ys xs:List Nat} (h:ys.Perm xs) {p:Nat} (hp:p < xs.length):gp ys p ∈ xs:=by
  have hp2:p < ys.length:=by rw [h.length_eq];exact hp
  rw [gp_get (List.getElem?_eq_getElem hp2)]
  exact h.mem_iff.1 (List.getElem_mem hp2)
theorem gp_set {ys:List Nat} {p q v:Nat} (hp:p < ys.length):gp (ys.set p v) q=if q=p then v else gp ys q:=by
  unfold gp List.getD
  rw [List.getElem?_set]
  by_cases e:p=q
  · subst e;simp [hp]
  · rw [if_neg e,if_neg (fun x=>e x.symm)]
def swq (ys:List Nat) (j:Nat):List Nat:=(ys.set j (gp ys (j - 1))).set (j - 1) (gp ys j)
theorem swq_gp {ys:List Nat} {j q:Nat} (h0:0 < j) (hj:j < ys.length):gp (swq ys j) q=if q=j then gp ys (j - 1) else if q=j - 1 then gp ys j else gp ys q:=by
  unfold swq
  rw [gp_set (by simp;omega),gp_set hj]
  by_cases e:q=j
  · subst e;rw [if_neg (by omega),if_pos rfl,if_pos rfl]
  · rw [if_neg e,if_neg e]
theorem swq_perm {ys:List Nat} {j:Nat} (h0:0 < j) (hj:j < ys.length):(swq ys j).Perm ys:=by
  obtain ⟨k,rfl⟩:∃ k,j=k+1:=⟨j - 1,by omega⟩
  have e:ys=ys.take k++ys[k]::ys[k+1]::ys.drop (k+2):=by
    conv=>lhs;rw [← List.take_append_drop k ys,List.drop_eq_getElem_cons (by omega),List.drop_eq_getElem_cons hj]
  have g1:gp ys k=ys[k]:=gp_get (List.getElem?_eq_getElem (by omega))
  have g2:gp ys (k+1)=ys[k+1]:=gp_get (List.getElem?_eq_getElem hj)
  have e2:swq ys (k+1)=ys.take k++ys[k+1]::ys[k]::ys.drop (k+2):=by
    unfold swq
    rw [Nat.add_sub_cancel,g1,g2]
    have hl:(ys.take k).length=k:=by rw [List.length_take];omega
    generalize ys[k]=a at *
    generalize ys[k+1]=b at *
    rw [e]
    generalize ys.take k=A at *
    generalize ys.drop (k+2)=B at *
    subst hl
    simp [List.set_append]
  rw [e2]
  conv=>rhs;rw [e]
  exact List.Perm.append_left _ (List.Perm.swap _ _ _)
structure InsI (cf:Nat→Nat→Int) (xs ys:List Nat) (i j:Nat):Prop where
  perm:ys.Perm xs
  ji:j≤i
  il:i < xs.length
  ord:∀ p q,p < q→q≤i→p≠j→q≠j→0≤cf (gp ys q) (gp ys p)
  gt:∀ q,j < q→q≤i→0≤cf (gp ys q) (gp ys j)
structure SrtI (cf:Nat→Nat→Int) (xs ys:List Nat) (i:Nat):Prop where
  perm:ys.Perm xs
  ord:∀ p q,p < q→q < i→0≤cf (gp ys q) (gp ys p)
theorem SrtI.init (cf:Nat→Nat→Int) (xs:List Nat):SrtI cf xs xs 1:=⟨.refl _,fun p q h1 h2=>by omega⟩
theorem SrtI.start {cf:Nat→Nat→Int} {xs ys:List Nat} {i:Nat} (h:SrtI cf xs ys i) (hi:i < xs.length):InsI cf xs ys i i:=
  ⟨h.perm,Nat.le_refl _,hi,fun p q h1 h2 h3 h4=>h.ord p q h1 (by omega),fun q h1 h2=>by omega⟩
theorem InsI.step {cf:Nat→Nat→Int} {S:Nat→Prop} (hc:CmpOn cf S) {xs ys:List Nat} (hS:∀ x ∈ xs,S x) {i j:Nat} (h:InsI cf xs ys i j) (h0:0 < j) (hlt:cf (gp ys j) (gp ys (j - 1)) < 0):InsI cf xs (swq ys j) i (j - 1):=by
  have hl:=h.perm.length_eq
  have hji:=h.ji
  have hil:=h.il
  have hj:j < ys.length:=by omega
  refine ⟨(swq_perm h0 hj).trans h.perm,by omega,hil,fun p q h1 h2 h3 h4=>?_,fun q h1 h2=>?_⟩
  · rw [swq_gp h0 hj,swq_gp h0 hj]
    by_cases e1:q=j
    · subst e1
      rw [if_pos rfl,if_neg (by omega),if_neg h3]
      exact h.ord p (q - 1) (by omega) (by omega) (by omega) (by omega)
    · rw [if_neg e1,if_neg h4]
      by_cases e2:p=j
      · subst e2
        rw [if_pos rfl]
        exact h.ord (p - 1) q (by omega) h2 (by omega) e1
      · rw [if_neg e2,if_neg h3]
        exact h.ord p q h1 h2 e2 e1
  · rw [swq_gp h0 hj,swq_gp h0 hj,if_neg (show j - 1≠j by omega),if_pos (show j - 1=j - 1 from rfl)]
    by_cases e1:q=j
    · subst e1
      rw [if_pos rfl]
      exact hc.asym _ _ (hS _ (gp_mem h.perm (by omega))) (hS _ (gp_mem h.perm (by omega))) hlt
    · rw [if_neg e1,if_neg (by omega)]
      exact h.gt q (by omega) h2
theorem InsI.done {cf:Nat→Nat→Int} {S:Nat→Prop} (hc:CmpOn cf S) {xs ys:List Nat} (hS:∀ x ∈ xs,S x) {i j:Nat} (h:InsI cf xs ys i j) (he:j=0∨0≤cf (gp ys j) (gp ys (j - 1))):SrtI cf xs ys (i+1):=by
  refine ⟨h.perm,fun p q h1 h2=>?_⟩
  by_cases e1:p=j
  · subst e1;exact h.gt q h1 (by omega)
  · by_cases e2:q=j
    · subst e2
      rcases he with he | he
      · omega
      · by_cases e3:p=q - 1
        · subst e3;exact he
        · have hil:=h.il
          have hji:=h.ji
          exact hc.trans _ _ _ (hS _ (gp_mem h.perm (by omega))) (hS _ (gp_mem h.perm (by omega))) (hS _ (gp_mem h.perm (by omega))) (h.ord p (q - 1) (by omega) (by omega) (by omega) (by omega)) he
    · exact h.ord p q h1 (by omega) e1 e2
theorem SrtI.full {cf:Nat→Nat→Int} {xs ys:List Nat} {i:Nat} (h:SrtI cf xs ys i) (hi:xs.length≤i):ys.Perm xs∧ys.Pairwise fun a b=>0≤cf b a:=by
  refine ⟨h.perm,List.pairwise_iff_getElem.2 fun p q hp hq hpq=>?_⟩
  have hl:=h.perm.length_eq
  have:=h.ord p q hpq (by omega)
  rwa [gp_get (List.getElem?_eq_getElem hp),gp_get (List.getElem?_eq_getElem hq)] at this
def intC (n:Int):List Value:=[.int .i64 n]
theorem intE:EncOk 1 intC:=⟨fun _=>rfl,fun _=>rfl⟩
def c8 (a b:UInt8):Int:=if a < b then -1 else if b < a then 1 else 0
def c32 (a b:UInt32):Int:=if a < b then -1 else if b < a then 1 else 0
def orM (xs:List Int):Int:=(xs.find? fun x=>decide (x≠0)).getD 0
theorem orM_at {xs:List Int} {i:Nat} {x:Int} (h:∀ y ∈ xs.take i,y=0) (hx:xs[i]?=some x) (h0:x≠0):orM xs=x:=by
  have e:xs=xs.take i++x::xs.drop (i+1):=by
    have hlt:=idx_lt hx
    conv=>lhs;rw [← List.take_append_drop i xs,List.drop_eq_getElem_cons hlt]
    rw [List.getElem?_eq_getElem hlt] at hx
    rw [Option.some.inj hx]
  unfold orM
  rw [e,List.find?_append,List.find?_eq_none.2 (fun y hy=>by simp [h y hy])]
  simp [h0]
theorem orM_no {xs:List Int} (h:∀ y ∈ xs,y=0):orM xs=0:=by
  unfold orM
  rw [List.find?_eq_none.2 (fun y hy=>by simp [h y hy])]
  rfl
def cf2 (a b:DeedM):Int:=if a.site < b.site then -1 else if b.site < a.site then 1 else if a.order < b.order then -1 else if b.order < a.order then 1 else 0
def cfD (l:List DeedM) (a b:Nat):Int:=match l[a]?,l[b]? with
  | some x,some y=>cf2 x y
  | _,_=>(a:Int) - b
theorem cf2_or (a b:DeedM):orM [c8 a.site b.site,c32 a.order b.order]=cf2 a b:=by
  unfold cf2 c8 c32 orM
  split
  · rfl
  · split
    · rfl
    · split
      · rfl
      · split <;> rfl
theorem cf2_le (a b:DeedM):0≤cf2 b a↔a.site.toNat < b.site.toNat∨(a.site.toNat=b.site.toNat∧a.order.toNat≤b.order.toNat):=by
  unfold cf2
  simp only [UInt8.lt_iff_toNat_lt,UInt32.lt_iff_toNat_lt]
  split
  · constructor
    · intro h;simp at h
    · omega
  · split
    · constructor
      · omega
      · intro _;decide
    · split
      · constructor
        · intro h;simp at h
        · omega
      · split
        · constructor
          · omega
          · intro _;decide
        · constructor
          · omega
          · intro _;decide
theorem cf2_lt (a b:DeedM):cf2 a b < 0↔a.site.toNat < b.site.toNat∨(a.site.toNat=b.site.toNat∧a.order.toNat < b.order.toNat):=by
  have:=cf2_le b a
  constructor
  · intro h
    have h2:¬ 0≤cf2 a b:=by omega
    rw [this] at h2
    omega
  · intro h
    have h2:¬ 0≤cf2 a b:=by rw [this];omega
    omega
theorem sorted_before {l:List DeedM} (ho:unitsOk l=true) {zs:List Nat} (hz:∀ z ∈ zs,z < l.length) (hn:zs.Nodup) (hs:zs.Pairwise fun a b=>0≤cfD l b a):zs.Pairwise (before l):=by
  have h2:=hs.and hn
  refine h2.imp_of_mem fun {a b} ha hb hab=>?_
  obtain ⟨h1,hne⟩:=hab
  intro x y hx hy hsite
  have hle:0≤cf2 y x:=by simpa [cfD,hx,hy] using h1
  rw [cf2_le] at hle
  have hno:x.order≠y.order:=fun e=>hne (units_ne ho hx hy hsite.symm e.symm)
  have hno2:x.order.toNat≠y.order.toNat:=fun e=>hno (UInt32.toNat_inj.1 e)
  rw [UInt32.lt_iff_toNat_lt]
  rw [hsite] at hle
  omega
theorem cfD_on (l:List DeedM):CmpOn (cfD l) (· < l.length):=by
  have e:∀ a b (ha:a < l.length) (hb:b < l.length),cfD l a b=cf2 l[a] l[b]:=fun a b ha hb=>by
    unfold cfD;rw [List.getElem?_eq_getElem ha,List.getElem?_eq_getElem hb]
  refine ⟨fun a b ha hb h=>?_,fun a b c ha hb hc h1 h2=>?_⟩
  · rw [e _ _ ha hb,cf2_lt] at h
    rw [e _ _ hb ha,cf2_le]
    omega
  · rw [e _ _ hb ha,cf2_le] at h1
    rw [e _ _ hc hb,cf2_le] at h2
    rw [e _ _ hc ha,cf2_le]
    omega
end Go.SL
namespace Go.SL
open Go
theorem ba_get (a:ByteArray) (i:Nat):a.toList[i]?=a[i]?:=by
  rw [ByteArray.toList_eq]
  obtain ⟨⟨l⟩⟩:=a
  by_cases h:i < l.length
  · rw [getElem?_pos (⟨⟨l⟩⟩:ByteArray) i (by simpa [ByteArray.size] using h)]
    rw [List.getElem?_eq_getElem h];rfl
  · rw [getElem?_neg (⟨⟨l⟩⟩:ByteArray) i (by simpa [ByteArray.size] using h)]
    exact List.getElem?_eq_none (Nat.le_of_not_lt h)
theorem ba_size (a:ByteArray):a.toList.length=a.size:=by
  rw [ByteArray.toList_eq]
  obtain ⟨⟨l⟩⟩:=a
  rfl
theorem less_skip:∀ (i:Nat) (l m:List UInt8),l.take i=m.take i→i≤l.length→i≤m.length→Op.bytesLess l m=Op.bytesLess (l.drop i) (m.drop i)
  | 0,l,m,_,_,_=>by simp
  | i+1,[],m,_,h,_=>by simp at h
  | i+1,_::_,[],_,_,h=>by simp at h
  | i+1,x::l,y::m,h,h1,h2=>by
    simp only [List.take_succ_cons,List.cons.injEq] at h
    obtain ⟨rfl,h⟩:=h
    rw [List.drop_succ_cons,List.drop_succ_cons,← less_skip i l m h (by simpa using h1) (by simpa using h2)]
    have:¬ x < x:=by rw [UInt8.lt_iff_toNat_lt];omega
    simp [Op.bytesLess,this]
theorem less_at {a b:ByteArray} {i:Nat} {x y:UInt8} (h:a.toList.take i=b.toList.take i) (hx:a[i]?=some x) (hy:b[i]?=some y) (hne:x≠y):sLt a b=decide (x < y):=by
  rw [← ba_get] at hx hy
  have h1:=(List.getElem?_eq_some_iff.1 hx).1
  have h2:=(List.getElem?_eq_some_iff.1 hy).1
  unfold sLt
  rw [less_skip i _ _ h (by omega) (by omega),List.drop_eq_getElem_cons h1,List.drop_eq_getElem_cons h2]
  rw [(List.getElem?_eq_some_iff.1 hx).2,(List.getElem?_eq_some_iff.1 hy).2]
  have hne':(x == y)=false:=by simpa using hne
  simp [Op.bytesLess,hne']
theorem less_end {a b:ByteArray} {i:Nat} (h:a.toList.take i=b.toList.take i) (h1:i≤a.size) (h2:i≤b.size) (he:a.size=i∨b.size=i):sLt a b=decide (a.size < b.size):=by
  unfold sLt
  rw [less_skip i _ _ h (by rw [ba_size];exact h1) (by rw [ba_size];exact h2)]
  rcases he with e | e
  · rw [List.drop_of_length_le (by rw [ba_size];omega)]
    cases hd:b.toList.drop i with
    | nil=>have:=congrArg List.length hd;rw [List.length_drop,ba_size] at this;simp at this;simp [Op.bytesLess];omega
    | cons y m=>have:=congrArg List.length hd;rw [List.length_drop,ba_size] at this;simp at this;simp [Op.bytesLess];omega
  · rw [show b.toList.drop i=[] from List.drop_of_length_le (by rw [ba_size];omega)]
    have:¬ a.size < b.size:=by omega
    cases a.toList.drop i <;> simp [Op.bytesLess,this]
theorem take_step {a b:ByteArray} {i:Nat} {x:UInt8} (h:a.toList.take i=b.toList.take i) (hx:a[i]?=some x) (hy:b[i]?=some x):a.toList.take (i+1)=b.toList.take (i+1):=by
  rw [← ba_get] at hx hy
  rw [List.take_add_one,List.take_add_one,h,hx,hy]
def keyByte (c:UInt8):Bool:=(decide (97≤c) && decide (c≤122)) || (decide (48≤c) && decide (c≤57)) || c == 95
theorem keyByte_rune {c:UInt8}:keyRune (c.toNat:Int)=keyByte c:=by
  unfold keyRune keyByte
  have e:((c.toNat:Int) == 95)=(c == 95):=by
    rw [Bool.eq_iff_iff]
    simp only [beq_iff_eq]
    rw [← UInt8.toNat_inj]
    show (c.toNat:Int)=95↔c.toNat=95
    omega
  rw [e]
  simp only [UInt8.le_iff_toNat_le]
  congr 1
  rw [Bool.eq_iff_iff]
  simp only [Bool.or_eq_true,Bool.and_eq_true,decide_eq_true_eq]
  show (((c.toNat:Int)≥97∧(c.toNat:Int)≤122)∨((c.toNat:Int)≥48∧(c.toNat:Int)≤57))↔((97≤c.toNat∧c.toNat≤122)∨(48≤c.toNat∧c.toNat≤57))
  omega
theorem rune_high {r:Nat} (h:128≤r):keyRune (r:Int)=false:=by
  unfold keyRune
  rw [Bool.eq_false_iff]
  intro e
  simp only [Bool.or_eq_true,Bool.and_eq_true,decide_eq_true_eq,beq_iff_eq] at e
  omega
theorem byte_high {c:UInt8} (h:128≤c.toNat):keyByte c=false:=by
  rw [← keyByte_rune];exact rune_high h
theorem allFrom_bytes (s:ByteArray):∀ (k i:Nat),s.size≤i+k→allFrom keyRune s k i=(s.toList.drop i).all keyByte
  | 0,i,h=>by
    rw [List.drop_of_length_le (by rw [ba_size];omega)];rfl
  | k+1,i,h=>by
    unfold allFrom
    by_cases hi:i < s.size
    · rw [if_pos hi]
      have hl:i < s.toList.length:=by rw [ba_size];exact hi
      rw [List.drop_eq_getElem_cons hl,List.all_cons]
      have hc:s.toList[i]=s[i]'hi:=by
        have:=ba_get s i
        rw [List.getElem?_eq_getElem hl,getElem?_pos s i hi] at this
        exact Option.some.inj this
      rw [hc]
      by_cases ha:(s[i]'hi).toNat < 128
      · rw [decode_ascii s i hi ha,keyByte_rune,allFrom_bytes s k (i+1) (by omega)]
      · have hh:=decode_high s i hi (by omega)
        rw [rune_high hh.1,byte_high (by omega)]
        rfl
    · rw [if_neg hi,List.drop_of_length_le (by rw [ba_size];omega)];rfl
theorem keyOk_bytes (s:ByteArray):keyOk s=(decide (1≤s.size) && decide (s.size≤16) && s.toList.all keyByte):=by
  unfold keyOk allR
  rw [allFrom_bytes s s.size 0 (by omega),List.drop_zero]
  congr 1
  have e1:sEq s ⟨#[]⟩=decide (s.size=0):=by
    rw [Bool.eq_iff_iff,decide_eq_true_eq]
    unfold sEq
    rw [beq_iff_eq,← ba_size s]
    show s.toList=(⟨#[]⟩:ByteArray).toList↔_
    rw [ByteArray.toList_eq ⟨#[]⟩]
    show s.toList=[]↔_
    exact List.length_eq_zero_iff.symm
  rw [e1]
  rw [Bool.eq_iff_iff]
  simp only [Bool.and_eq_true,Bool.not_eq_true',decide_eq_false_iff_not,decide_eq_true_eq]
  omega
theorem all_step {s:ByteArray} {i:Nat} {c:UInt8} (h:(s.toList.take i).all keyByte=true) (hc:s[i]?=some c) (hk:keyByte c=true):(s.toList.take (i+1)).all keyByte=true:=by
  rw [← ba_get] at hc
  rw [List.take_add_one,hc,List.all_append,h]
  simp [hk]
theorem all_bad {s:ByteArray} {i:Nat} {c:UInt8} (hc:s[i]?=some c) (hk:keyByte c=false):keyOk s=false:=by
  rw [← ba_get] at hc
  rw [keyOk_bytes]
  have:s.toList.all keyByte=false:=by
    rw [List.all_eq_false]
    exact ⟨c,List.mem_of_getElem? hc,by rw [hk];decide⟩
  rw [this,Bool.and_false]
theorem all_done {s:ByteArray} {i:Nat} (h:(s.toList.take i).all keyByte=true) (hi:s.size≤i):keyOk s=(decide (1≤s.size) && decide (s.size≤16)):=by
  rw [List.take_of_length_le (by rw [ba_size];exact hi)] at h
  rw [keyOk_bytes,h,Bool.and_true]
theorem sIn_lt (k a b:ByteArray):sIn k a b=(!sLt k a && !sLt b k):=by
  rw [Bool.eq_iff_iff,sIn_iff]
  simp
theorem kb_letter {c:UInt8} (h:(decide ((c.toNat:Int) < 97) || decide ((c.toNat:Int) > 122))=false):keyByte c=true:=by
  rw [← keyByte_rune];unfold keyRune
  simp only [Bool.or_eq_false_iff,decide_eq_false_iff_not] at h
  simp only [Bool.or_eq_true,Bool.and_eq_true,decide_eq_true_eq]
  omega
theorem kb_digit {c:UInt8} (h:(decide ((c.toNat:Int) < 48) || decide ((c.toNat:Int) > 57))=false):keyByte c=true:=by
  rw [← keyByte_rune];unfold keyRune
  simp only [Bool.or_eq_false_iff,decide_eq_false_iff_not] at h
  simp only [Bool.or_eq_true,Bool.and_eq_true,decide_eq_true_eq]
  omega
theorem kb_under {c:UInt8} (h:c=95):keyByte c=true:=by subst h;rfl
theorem kb_bad {c:UInt8} (h1:(decide ((c.toNat:Int) < 97) || decide ((c.toNat:Int) > 122))=true) (h2:(decide ((c.toNat:Int) < 48) || decide ((c.toNat:Int) > 57))=true) (h3:c≠95):keyByte c=false:=by
  rw [← keyByte_rune];unfold keyRune
  have h4:(c.toNat:Int)≠95:=fun e=>h3 (UInt8.toNat_inj.1 (by show c.toNat=95;omega))
  simp only [Bool.or_eq_true,decide_eq_true_eq] at h1 h2
  rw [Bool.eq_false_iff]
  intro e
  simp only [Bool.or_eq_true,Bool.and_eq_true,decide_eq_true_eq,beq_iff_eq] at e
  omega
theorem opOk_bad {x:OpM} (h:keyOk x.key=false):opOk x=false:=by simp [opOk,h]
theorem opOk_get {x:OpM} (hk:keyOk x.key=true) (h:x.kind=1∨x.kind=3):opOk x=(sEq x.to ⟨#[]⟩ && x.val == 0):=by
  unfold opOk
  rcases h with h | h <;> simp [h,hk]
theorem opOk_put {x:OpM} (hk:keyOk x.key=true) (h:x.kind=2):opOk x=sEq x.to ⟨#[]⟩:=by
  unfold opOk
  simp [h,hk]
theorem opOk_scan {x:OpM} (hk:keyOk x.key=true) (h:x.kind=4):opOk x=(keyOk x.to && x.val == 0):=by
  unfold opOk
  simp [h,hk]
theorem opOk_none {x:OpM} (h1:x.kind≠1) (h2:x.kind≠2) (h3:x.kind≠3) (h4:x.kind≠4):opOk x=false:=by
  unfold opOk
  rw [Bool.eq_false_iff]
  intro e
  simp only [Bool.and_eq_true,decide_eq_true_eq] at e
  obtain ⟨⟨⟨⟨e1,e2⟩,_⟩,_⟩,_⟩:=e
  have:x.kind.toNat=1∨x.kind.toNat=2∨x.kind.toNat=3∨x.kind.toNat=4:=by omega
  rcases this with h | h | h | h
  · exact h1 (UInt8.toNat_inj.1 h)
  · exact h2 (UInt8.toNat_inj.1 h)
  · exact h3 (UInt8.toNat_inj.1 h)
  · exact h4 (UInt8.toNat_inj.1 h)
end Go.SL
namespace Go.SL
open Go
theorem low_of {l:List RowM} {k:ByteArray} {i:Nat} (hi:i≤l.length) (h1:∀ r ∈ l.take i,sLt r.key k=true) (h2:∀ x,l[i]?=some x→sLt x.key k=false):lowI l k=i:=by
  unfold lowI
  conv=>lhs;rw [← List.take_append_drop i l]
  rw [List.takeWhile_append_of_pos (fun r hr=>h1 r hr),List.length_append,List.length_take_of_le hi]
  cases hd:l.drop i with
  | nil=>simp
  | cons x t=>
    have:l[i]?=some x:=by rw [← List.head?_drop,hd];rfl
    rw [List.takeWhile_cons,h2 x this];simp
theorem has_of {l:List RowM} {k:ByteArray} {i:Nat} {x:RowM} (h:lowI l k=i) (hx:l[i]?=some x):hasI l k=sEq x.key k:=by unfold hasI;rw [h,hx]
theorem has_end {l:List RowM} {k:ByteArray} {i:Nat} (h:lowI l k=i) (hx:l[i]?=none):hasI l k=false:=by unfold hasI;rw [h,hx]
theorem gt_t {a b:ByteArray} (h:(!(sLt a b || sEq a b))=true):sLt b a=true:=by
  simp only [Bool.not_eq_true',Bool.or_eq_false_iff] at h
  rcases sLt_tri a b with e | e | e
  · rw [h.1] at e;cases e
  · rw [sEq_iff.2 e] at h;cases h.2
  · exact e
theorem gt_f {a b:ByteArray} (h:(!(sLt a b || sEq a b))=false):sLt b a=false:=by
  simp only [Bool.not_eq_false',Bool.or_eq_true] at h
  rcases h with h | h
  · exact sLt_asymm h
  · rw [sEq_iff.1 h];exact sLt_irrefl b
theorem find_step {l:List RowM} {k:ByteArray} {i:Nat} {x:RowM} (h:∀ r ∈ l.take i,sLt r.key k=true) (hx:l[i]?=some x) (h1:sEq x.key k=false) (h2:sLt k x.key=false):∀ r ∈ l.take (i+1),sLt r.key k=true:=by
  rw [take_snoc hx]
  intro r hr
  rcases List.mem_append.1 hr with hr | hr
  · exact h r hr
  · simp only [List.mem_singleton] at hr
    subst hr
    rcases sLt_tri r.key k with h3 | h3 | h3
    · exact h3
    · rw [sEq_iff.2 h3] at h1;cases h1
    · rw [h3] at h2;cases h2
theorem setR_has {l:List RowM} {k:ByteArray} (v:UInt32) (h:hasI l k=true):setR l k v=l.take (lowI l k)++[⟨k,v⟩]++l.drop (lowI l k+1):=by
  rw [setR,if_pos h,List.set_eq_take_append_cons_drop,if_pos (has_lt h)];simp
theorem setR_not {l:List RowM} {k:ByteArray} (v:UInt32) (h:hasI l k=false):setR l k v=l.take (lowI l k)++[⟨k,v⟩]++l.drop (lowI l k):=by
  rw [setR,if_neg (by simp [h])];simp
theorem dropR_has {l:List RowM} {k:ByteArray} (h:hasI l k=true):dropR l k=l.take (lowI l k)++l.drop (lowI l k+1):=by
  rw [dropR,if_pos h,List.eraseIdx_eq_take_drop_succ]
theorem dropR_not {l:List RowM} {k:ByteArray} (h:hasI l k=false):dropR l k=l:=by rw [dropR,if_neg (by simp [h])]
theorem scanMore {l:List RowM} {s:SpanM} {most i:Nat} {x:RowM} (hx:l[i]?=some x) (h:inSpan s x.key=true) (hl:(scanR (l.take i) s most).length < most):scanR (l.take (i+1)) s most=scanR (l.take i) s most++[x]:=by
  unfold scanR at hl ⊢
  rw [take_snoc hx,List.filter_append,List.filter_cons,if_pos h,List.filter_nil]
  rw [List.length_take] at hl
  rw [List.take_of_length_le (l:=List.filter _ (l.take i)) (by omega),List.take_of_length_le (by simp;omega)]
theorem scan_out {l:List RowM} {s:SpanM} {most i:Nat} {x:RowM} (hx:l[i]?=some x) (h:inSpan s x.key=false):scanR (l.take (i+1)) s most=scanR (l.take i) s most:=by
  unfold scanR
  rw [take_snoc hx,List.filter_append,List.filter_cons,if_neg (by simp [h]),List.filter_nil,List.append_nil]
theorem scan_full {l:List RowM} {s:SpanM} {most i:Nat} (hl:most≤(scanR (l.take i) s most).length):scanR l s most=scanR (l.take i) s most:=by
  unfold scanR at hl ⊢
  rw [List.length_take] at hl
  conv=>lhs;rw [← List.take_append_drop i l]
  rw [List.filter_append,List.take_append_of_le_length (by omega)]
theorem scan_end {l:List RowM} {s:SpanM} {most i:Nat} (hl:l.length≤i):scanR l s most=scanR (l.take i) s most:=by rw [List.take_of_length_le hl]
theorem scan_len {l:List RowM} {s:SpanM} {most:Nat}:(scanR l s most).length≤l.length:=by
  unfold scanR;rw [List.length_take];have:=List.length_filter_le (fun r=>inSpan s r.key) l;omega
def kSz (l:List RowM):Prop:=∀ r ∈ l,r.key.size≤1000
end Go.SL
namespace Go.SL
open Go
def digB (n:Nat):ByteArray:=⟨(Lib.decDigits n).toArray⟩
theorem ba_app (l m:List UInt8):(⟨l.toArray⟩:ByteArray)++⟨m.toArray⟩=⟨(l++m).toArray⟩:=by
  apply ByteArray.ext
  simp [ByteArray.data_append]
theorem dig_small {n:Nat} (h:n < 10):digB n=⟨#[UInt8.ofNat (48+n)]⟩:=by
  unfold digB
  rw [Lib.decDigits,dif_pos h]
theorem dig_big {n:Nat} (h:¬ n < 10):digB n=digB (n / 10)++⟨#[UInt8.ofNat (48+n % 10)]⟩:=by
  unfold digB
  rw [show (#[UInt8.ofNat (48+n % 10)]:Array UInt8)=[UInt8.ofNat (48+n % 10)].toArray from rfl,ba_app]
  conv=>lhs;rw [Lib.decDigits,dif_neg h]
theorem dig_len:∀ (k n:Nat),1≤k→n < 10 ^ k→(Lib.decDigits n).length≤k
  | 0,_,h,_=>by omega
  | k+1,n,_,h=>by
    rw [Lib.decDigits]
    by_cases h1:n < 10
    · rw [dif_pos h1];simp
    · rw [dif_neg h1,List.length_append]
      rcases Nat.eq_zero_or_pos k with rfl | h2
      · simp at h;omega
      · have:=dig_len k (n / 10) h2 (by rw [Nat.pow_succ] at h;omega)
        simp;omega
theorem dig_byte {n:Nat} (h:n < 10):keyByte (UInt8.ofNat (48+n))=true:=by
  have:∀ m:Fin 10,keyByte (UInt8.ofNat (48+m.val))=true:=by decide
  exact this ⟨n,h⟩
theorem dig_all (n:Nat):∀ b ∈ Lib.decDigits n,keyByte b=true:=by
  induction n using Nat.strongRecOn with
  | _ n ih=>
    intro b hb
    rw [Lib.decDigits] at hb
    by_cases h1:n < 10
    · rw [dif_pos h1] at hb
      simp only [List.mem_singleton] at hb
      subst hb
      exact dig_byte h1
    · rw [dif_neg h1] at hb
      rcases List.mem_append.1 hb with hb | hb
      · exact ih (n / 10) (by omega) b hb
      · simp only [List.mem_singleton] at hb
        subst hb
        exact dig_byte (Nat.mod_lt _ (by decide))
theorem dig_size {n:Nat} (h:n < 4294967296):(digB n).size≤10:=by
  have:=dig_len 10 n (by decide) (by omega)
  simpa [digB,ByteArray.size] using this
def kT:ByteArray:=⟨#[95,116]⟩
def kM:ByteArray:=⟨#[95,109]⟩
def markK (g:UInt32):ByteArray:=kM++digB g.toNat
theorem markK_eq (g:UInt32):markK g=⟨((95:UInt8)::109::Lib.decDigits g.toNat).toArray⟩:=ba_app [95,109] _
theorem kT_ok:keyOk kT=true:=by
  rw [all_done (s:=kT) (i:=2) (by decide +kernel) (by decide)];rfl
theorem markK_ok (g:UInt32):keyOk (markK g)=true:=by
  have h1:=dig_len 10 g.toNat (by decide) (by have:=g.toNat_lt;omega)
  have hl:(markK g).toList=(95:UInt8)::109::Lib.decDigits g.toNat:=by rw [ByteArray.toList_eq,markK_eq]
  have hs:(markK g).size=2+(Lib.decDigits g.toNat).length:=by rw [← ba_size,hl];simp;omega
  rw [all_done (i:=(markK g).size) ?_ (Nat.le_refl _),hs]
  · simp;omega
  · rw [List.all_eq_true]
    intro b hb
    have hb:=List.mem_of_mem_take hb
    rw [hl] at hb
    rcases List.mem_cons.1 hb with rfl | hb
    · decide
    · rcases List.mem_cons.1 hb with rfl | hb
      · decide
      · exact dig_all _ b hb
theorem scan_at {l:List RowM} (hl:Rising l) (k:ByteArray):(∃ v,hasI l k=true∧l[lowI l k]?=some ⟨k,v⟩∧scanR l (one k) 256=[⟨k,v⟩])∨(hasI l k=false∧scanR l (one k) 256=[]):=by
  have hlo:∀ r:RowM,sLt r.key k=true→inSpan (one k) r.key=false:=fun r h=>by
    unfold inSpan one;rw [sIn_lt,h];rfl
  have hhi:∀ r:RowM,sLt k r.key=true→inSpan (one k) r.key=false:=fun r h=>by
    unfold inSpan one;rw [sIn_lt,h];simp
  rcases key_cut hl k with ⟨A,v,D,rfl,h1,h2,h3,h4,_⟩ | ⟨A,D,rfl,h1,h2,h3,h4,_⟩
  · refine .inl ⟨v,h2,by rw [← h1];simp,?_⟩
    have hA:(A.filter fun r=>inSpan (one k) r.key)=[]:=List.filter_eq_nil_iff.2 fun r hr=>by rw [hlo r (h3 r hr)];simp
    have hD:(D.filter fun r=>inSpan (one k) r.key)=[]:=List.filter_eq_nil_iff.2 fun r hr=>by rw [hhi r (h4 r hr)];simp
    have hk:inSpan (one k) k=true:=by unfold inSpan one;rw [sIn_lt,sLt_irrefl];rfl
    unfold scanR
    rw [List.filter_append,List.filter_cons,hA,hD]
    simp [hk]
  · refine .inr ⟨h2,?_⟩
    have hA:(A.filter fun r=>inSpan (one k) r.key)=[]:=List.filter_eq_nil_iff.2 fun r hr=>by rw [hlo r (h3 r hr)];simp
    have hD:(D.filter fun r=>inSpan (one k) r.key)=[]:=List.filter_eq_nil_iff.2 fun r hr=>by rw [hhi r (h4 r hr)];simp
    unfold scanR
    rw [List.filter_append,hA,hD];rfl
theorem has_app {l:List RowM} {k:ByteArray} (h:∀ r ∈ l,sLt r.key k=true):hasI l k=false:=by
  have h1:lowI l k=l.length:=by
    unfold lowI;congr 1
    exact tw_all h
  unfold hasI;rw [h1];simp
theorem all_snoc {l:List OpM} {i:Nat} {x:OpM} (h:(l.take i).all opOk=true) (hx:l[i]?=some x) (ho:opOk x=true):(l.take (i+1)).all opOk=true:=by
  rw [take_snoc hx,List.all_append,h]
  simp [ho]
def tick (l:List RowM):UInt32:=match scanR l (one kT) 256 with
  | []=>1
  | r::_=>1+r.val
theorem tick_has {l:List RowM} (hl:Rising l) (h:hasI l kT=true):∃ v,l[lowI l kT]?=some ⟨kT,v⟩∧tick l=v+1:=by
  rcases scan_at hl kT with ⟨v,h1,h2,h3⟩ | ⟨h1,_⟩
  · exact ⟨v,h2,by unfold tick;rw [h3];exact UInt32.add_comm _ _⟩
  · rw [h] at h1;cases h1
theorem tick_no {l:List RowM} (hl:Rising l) (h:hasI l kT=false):tick l=1:=by
  rcases scan_at hl kT with ⟨v,h1,h2,h3⟩ | ⟨_,h3⟩
  · rw [h] at h1;cases h1
  · unfold tick;rw [h3]
def markR (l:List RowM) (g:UInt32):List RowM:=setR (setR l kT (tick l)) (markK g) 1
structure PDeed where
  g:UInt32
  site:UInt8
  order:UInt32
  ops:List OpM
  res:List (List RowM)
def leftD (l:List RowM) (d:PDeed):List RowM:=if d.g=0 then (runM l d.ops).2 else markR (runM l d.ops).2 d.g
def atM (M:List (List RowM)) (s:UInt8):List RowM:=M[s.toNat - 1]?.getD []
def stepD (ds:List PDeed) (M:List (List RowM)) (k:Int):Option (List (List RowM)):=match ds[k.toNat]? with
  | none=>none
  | some d=>if d.ops.all opOk=true∧(runM (atM M d.site) d.ops).1=d.res then some (M.set (d.site.toNat - 1) (leftD (atM M d.site) d)) else none
def foldD (ds:List PDeed) (M:List (List RowM)):List Int→Option (List (List RowM))
  | []=>some M
  | k::l=>match stepD ds M k with
    | none=>none
    | some M'=>foldD ds M' l
theorem foldD_app (ds:List PDeed):∀ (l m:List Int) (M:List (List RowM)),foldD ds M (l++m)=match foldD ds M l with
    | none=>none
    | some M'=>foldD ds M' m
  | [],_,_=>rfl
  | k::l,m,M=>by
    rw [List.cons_append,foldD,foldD]
    cases stepD ds M k with
    | none=>rfl
    | some M'=>exact foldD_app ds l m M'
theorem foldD_snoc {ds:List PDeed} {M M':List (List RowM)} {order:List Int} {i:Nat} {k:Int} (h:foldD ds M (order.take i)=some M') (hk:order[i]?=some k):foldD ds M (order.take (i+1))=stepD ds M' k:=by
  rw [take_snoc hk,foldD_app,h]
  simp only [foldD]
  cases stepD ds M' k <;> rfl
theorem foldD_none {ds:List PDeed} {M:List (List RowM)} {order:List Int} {i:Nat} (h:foldD ds M (order.take i)=none):foldD ds M order=none:=by
  rw [← List.take_append_drop i order,foldD_app,h]
def ordAt (ds:List PDeed) (order:List Int) (i:Nat):Bool:=match order[i]? with
  | none=>true
  | some k=>decide (0≤k) && (match ds[k.toNat]? with
    | none=>false
    | some d=>decide (1≤d.site.toNat∧d.site.toNat≤3)) && !decide (k ∈ order.take i)
def ordOk (ds:List PDeed) (order:List Int):Bool:=(List.range order.length).all (ordAt ds order)
def serM (ds:List PDeed) (order:List Int) (rows:List (List RowM)):Bool:=ordOk ds order && decide (order.length=ds.length) && decide (foldD ds [[],[],[]] order=some rows)
theorem ord_no {ds:List PDeed} {order:List Int} {i:Nat} (hi:i < order.length) (h:ordAt ds order i=false) (rows:List (List RowM)):serM ds order rows=false:=by
  have:ordOk ds order=false:=by
    unfold ordOk
    rw [List.all_eq_false]
    exact ⟨i,List.mem_range.2 hi,by rw [h];decide⟩
  unfold serM
  rw [this];rfl
theorem ord_yes {ds:List PDeed} {order:List Int} (h:∀ i,i < order.length→ordAt ds order i=true):ordOk ds order=true:=by
  unfold ordOk
  rw [List.all_eq_true]
  exact fun i hi=>h i (List.mem_range.1 hi)
theorem ord_get {ds:List PDeed} {order:List Int} (h:ordOk ds order=true) {i:Nat} {k:Int} (hk:order[i]?=some k):∃ (n:Nat) (d:PDeed),k=n∧ds[n]?=some d∧1≤d.site.toNat∧d.site.toNat≤3:=by
  have h1:=List.all_eq_true.1 h i (List.mem_range.2 (idx_lt hk))
  unfold ordAt at h1
  rw [hk] at h1
  simp only [Bool.and_eq_true,decide_eq_true_eq] at h1
  obtain ⟨⟨h2,h3⟩,_⟩:=h1
  cases hd:ds[k.toNat]? with
  | none=>rw [hd] at h3;cases h3
  | some d=>
    rw [hd] at h3
    have h4:=of_decide_eq_true h3
    exact ⟨k.toNat,d,by omega,hd,h4.1,h4.2⟩
theorem ser_len {ds:List PDeed} {order:List Int} {rows:List (List RowM)} (h:order.length≠ds.length):serM ds order rows=false:=by
  unfold serM
  rw [decide_eq_false h];simp
theorem ser_none {ds:List PDeed} {order:List Int} {rows:List (List RowM)} {i:Nat} (h:foldD ds [[],[],[]] (order.take i)=none):serM ds order rows=false:=by
  unfold serM
  rw [foldD_none h];simp
theorem ser_rows {ds:List PDeed} {order:List Int} {rows M:List (List RowM)} (h1:ordOk ds order=true) (h2:order.length=ds.length) (h:foldD ds [[],[],[]] order=some M):serM ds order rows=decide (M=rows):=by
  unfold serM
  rw [h1,h,decide_eq_true h2]
  simp
structure OkM (M:List (List RowM)) (i:Nat):Prop where
  len:M.length=3
  ok:∀ l ∈ M,Rising l∧KeysOk l∧l.length≤2002 * i
theorem OkM.init:OkM [[],[],[]] 0:=⟨rfl,fun l hl=>by
  simp only [List.mem_cons,List.not_mem_nil,or_false,or_self] at hl
  subst hl
  exact ⟨List.Pairwise.nil,(fun r hr=>by cases hr),Nat.le_refl _⟩⟩
theorem OkM.at {M:List (List RowM)} {i:Nat} (h:OkM M i) (s:UInt8):Rising (atM M s)∧KeysOk (atM M s)∧(atM M s).length≤2002 * i:=by
  unfold atM
  cases e:M[s.toNat - 1]? with
  | none=>exact ⟨List.Pairwise.nil,(fun r hr=>by cases hr),Nat.zero_le _⟩
  | some l=>exact h.ok l (List.mem_of_getElem? e)
theorem OkM.get {M:List (List RowM)} {i:Nat} (h:OkM M i) {s:UInt8} (h1:1≤s.toNat) (h2:s.toNat≤3):M[s.toNat - 1]?=some (atM M s):=by
  have hl:=h.len
  unfold atM
  rw [List.getElem?_eq_getElem (by omega)];rfl
theorem setR_keys {l:List RowM} (hr:Rising l) (h:KeysOk l) {k:ByteArray} (hk:keyOk k=true) (v:UInt32):KeysOk (setR l k v):=fun r hm=>by
  rcases ((setR_spec hr k v).2.1 r).1 hm with rfl | ⟨hm,_⟩
  · exact hk
  · exact h r hm
theorem markR_ok {l:List RowM} (hr:Rising l) (h:KeysOk l) (g:UInt32):Rising (markR l g)∧KeysOk (markR l g)∧(markR l g).length≤l.length+2:=by
  have h1:=setR_spec hr kT (tick l)
  have h2:=setR_spec h1.1 (markK g) 1
  exact ⟨h2.1,setR_keys h1.1 (setR_keys hr h kT_ok _) (markK_ok g) _,by have:=h1.2.2;have:=h2.2.2;unfold markR;omega⟩
theorem leftD_ok {l:List RowM} (hr:Rising l) (h:KeysOk l) {d:PDeed} (hd:d.ops.all opOk=true):Rising (leftD l d)∧KeysOk (leftD l d)∧(leftD l d).length≤l.length+d.ops.length+2:=by
  have h1:=runM_rows hr d.ops
  have h2:=runM_keys hr h d.ops (fun x hx=>List.all_eq_true.1 hd x hx)
  unfold leftD
  split
  · exact ⟨h1.1,h2,by omega⟩
  · have h3:=markR_ok h1.1 h2 d.g
    exact ⟨h3.1,h3.2.1,by omega⟩
theorem OkM.step {M:List (List RowM)} {i:Nat} (h:OkM M i) {d:PDeed} (hn:d.ops.length≤2000) (hd:d.ops.all opOk=true):OkM (M.set (d.site.toNat - 1) (leftD (atM M d.site) d)) (i+1):=by
  refine ⟨by rw [List.length_set];exact h.len,fun l hl=>?_⟩
  rcases List.mem_or_eq_of_mem_set hl with hl | rfl
  · obtain ⟨a,b,c⟩:=h.ok l hl
    exact ⟨a,b,by omega⟩
  · obtain ⟨a,b,c⟩:=h.at d.site
    obtain ⟨a',b',c'⟩:=leftD_ok a b hd
    exact ⟨a',b',by omega⟩
theorem KeysOk.sz {l:List RowM} (h:KeysOk l):kSz l:=fun r hr=>by
  have h1:=h r hr
  unfold keyOk at h1
  simp only [Bool.and_eq_true,decide_eq_true_eq] at h1
  have:=h1.1.2
  omega
theorem runM_each (rows:List RowM):∀ l:List OpM,∀ t ∈ (runM rows l).1,t.length≤256:=by
  refine snoc_ind (fun t ht=>by cases ht) fun l x ih t ht=>?_
  rw [runM_snoc] at ht
  rcases List.mem_append.1 ht with ht | ht
  · exact ih t ht
  · simp only [List.mem_singleton] at ht
    subst ht
    unfold doneO
    have h:∀ (l:List RowM) (s:SpanM) (m:Nat),(scanR l s m).length≤m:=fun l s m=>by unfold scanR;rw [List.length_take];omega
    split
    · have:=h (runM rows l).2 (one x.key) 1
      simp only;omega
    · split
      · exact h _ _ _
      · split <;> simp
theorem key_sz {k:ByteArray} (h:keyOk k=true):k.size≤16:=by
  unfold keyOk at h
  simp only [Bool.and_eq_true,decide_eq_true_eq] at h
  have:=h.1.2
  omega
theorem span_sz {x:OpM} (h:opOk x=true):(spanOf x).b.size≤1000:=by
  have hk:=key_sz (key_of h)
  unfold spanOf
  by_cases e:x.kind=4
  · simp only [e,if_true]
    unfold opOk at h
    simp only [e,if_true,Bool.and_eq_true] at h
    have:=key_sz h.1.2
    omega
  · simp only [if_neg e]
    omega
structure SzP (p:PDeed):Prop where
  ops:p.ops.length≤140737488351232
  op:∀ x ∈ p.ops,x.key.size≤140737488351232∧x.to.size≤140737488351232
  res:p.res.length≤140737488351232
  rows:∀ l ∈ p.res,l.length≤140737488351232
  row:∀ l ∈ p.res,∀ r ∈ l,r.key.size≤140737488351232
def SmP (n:Nat) (p:PDeed):Prop:=p.ops.length≤n∧p.res.length≤n∧∀ l ∈ p.res,l.length≤n
theorem SmP.mono {m n:Nat} {p:PDeed} (h:SmP m p) (hn:m≤n):SmP n p:=⟨by have:=h.1;omega,by have:=h.2.1;omega,fun l hl=>by have:=h.2.2 l hl;omega⟩
def SeenI (kvs:List (Nat × Value)) (order:List Int) (i:Nat):Prop:=∀ n:Nat,(mget kvs n).getD (.int .i64 0)=.int .i64 (if (n:Int) ∈ order.take i then 1 else 0)
theorem SeenI.init (order:List Int):SeenI [] order 0:=fun n=>by simp [mget]
theorem SeenI.step {kvs:List (Nat × Value)} {order:List Int} {i n:Nat} (h:SeenI kvs order i) (hk:order[i]?=some (n:Int)):SeenI (mset kvs n (.int .i64 1)) order (i+1):=fun m=>by
  rw [mget_mset,take_snoc hk]
  by_cases e:m=n
  · subst e;simp
  · rw [if_neg e]
    have:=h m
    rw [this]
    congr 1
    have e':¬ (m:Int)=n:=by omega
    simp [e']
def SeenB (bs:List Bool) (order:List Int) (i:Nat):Prop:=∀ n:Nat,n < bs.length→bs[n]?=some (decide ((n:Int) ∈ order.take i))
theorem SeenB.init (order:List Int) (n:Nat):SeenB (List.replicate n false) order 0:=fun m h=>by
  rw [List.getElem?_replicate,if_pos (by simpa using h)]
  simp
theorem SeenB.step {bs:List Bool} {order:List Int} {i n:Nat} (h:SeenB bs order i) (hk:order[i]?=some (n:Int)):SeenB (bs.set n true) order (i+1):=fun m hm=>by
  rw [List.length_set] at hm
  rw [take_snoc hk]
  by_cases e:m=n
  · subst e
    rw [List.getElem?_set_self hm];simp
  · rw [List.getElem?_set_ne (by omega),h m hm]
    have e':¬ (m:Int)=n:=by omega
    simp [e']
theorem ord_at {ds:List PDeed} {order:List Int} {i n:Nat} {d:PDeed} (hk:order[i]?=some (n:Int)) (hd:ds[n]?=some d) (h1:1≤d.site.toNat) (h2:d.site.toNat≤3) (h3:¬ (n:Int) ∈ order.take i):ordAt ds order i=true:=by
  unfold ordAt
  rw [hk]
  simp only [Int.toNat_natCast,hd]
  simp [h1,h2,h3]
theorem ord_neg {ds:List PDeed} {order:List Int} {i:Nat} {k:Int} (hk:order[i]?=some k) (h:k < 0):ordAt ds order i=false:=by
  unfold ordAt
  rw [hk]
  simp [show ¬ 0≤k by omega]
theorem ord_big {ds:List PDeed} {order:List Int} {i n:Nat} (hk:order[i]?=some (n:Int)) (h:ds.length≤n):ordAt ds order i=false:=by
  unfold ordAt
  rw [hk]
  simp only [Int.toNat_natCast,List.getElem?_eq_none h]
  simp
theorem ord_seen {ds:List PDeed} {order:List Int} {i n:Nat} (hk:order[i]?=some (n:Int)) (h:(n:Int) ∈ order.take i):ordAt ds order i=false:=by
  unfold ordAt
  rw [hk]
  simp [h]
theorem ord_site {ds:List PDeed} {order:List Int} {i n:Nat} {d:PDeed} (hk:order[i]?=some (n:Int)) (hd:ds[n]?=some d) (h:¬ (1≤d.site.toNat∧d.site.toNat≤3)):ordAt ds order i=false:=by
  unfold ordAt
  rw [hk]
  simp only [Int.toNat_natCast,hd]
  rw [decide_eq_false h];simp
theorem step_no {ds:List PDeed} {M:List (List RowM)} {n:Nat} {d:PDeed} (hd:ds[n]?=some d) (h:d.ops.all opOk=true→(runM (atM M d.site) d.ops).1≠d.res):stepD ds M n=none:=by
  unfold stepD
  simp only [Int.toNat_natCast,hd]
  rw [if_neg (fun e=>h e.1 e.2)]
theorem step_yes {ds:List PDeed} {M:List (List RowM)} {n:Nat} {d:PDeed} (hd:ds[n]?=some d) (h1:d.ops.all opOk=true) (h2:(runM (atM M d.site) d.ops).1=d.res):stepD ds M n=some (M.set (d.site.toNat - 1) (leftD (atM M d.site) d)):=by
  unfold stepD
  simp only [Int.toNat_natCast,hd]
  rw [if_pos ⟨h1,h2⟩]
end Go.SL
namespace Go.SL
open Go
def metB (P:Program) (T:TypeId) (name:String) (f:FuncId):Bool:=(match P.underlying T with | some (.pointer _)=>true | _=>false) &&
  match (P.info? T).bind fun i=>i.methods.find? (·.name == name) with
  | some m=>m.path.isEmpty && (m.func == some (f,true))
  | none=>false
section
variable {P : Program} {r : Option Nat} {g : World} {Γ : Env} {L M : List HP} {dst : Option Tmp} {t : TypeId} {pos : String} {aft : Array Edge} {gd : Option (Nat × Bool)}
theorem run_method {T:TypeId} {name:String} {f:FuncId} (h:metB P T name f=true) (n:Nat) (v:Value) (w:World):(method (n+1) T v name).run P w=.ok (f,v) w:=by
  unfold metB at h
  rw [Bool.and_eq_true] at h
  obtain ⟨h1,h2⟩:=h
  split at h1
  case h_2=>cases h1
  rename_i E hE
  split at h2
  case h_2=>cases h2
  rename_i m hm
  rw [Bool.and_eq_true,Array.isEmpty_iff,beq_iff_eq] at h2
  obtain ⟨h3,h4⟩:=h2
  cases hi:P.info? T with
  | none=>rw [hi] at hm;cases hm
  | some i=>
    rw [hi] at hm
    have hm:i.methods.find? (·.name == name)=some m:=hm
    unfold method
    simp only [Sem.run_bind,run_typeInfo hi,Result.andThen_ok,hm,h3,follow,Sem.run_pure,h4,receiverAt,run_underlying hE,Place.get,Array.toList_empty]
theorem run_callMethod {T:TypeId} {name:String} {f:FuncId} (h:metB P T name f=true) (hf:callable P f=true) (v:Value) (args:Array Value) (w:World):(callMethod (.iface T v) name args).run P w=.ok (.enter f (#[v]++args)) w:=by
  unfold callMethod
  obtain ⟨n,hn⟩:∃ n,P.types.size+Made.depth=n+1:=by
    have h0:0 < Made.depth:=by decide
    exact ⟨P.types.size+Made.depth - 1,by omega⟩
  have hp:(program:Sem Program).run P w=.ok P w:=rfl
  simp only [Sem.run_bind,hp,Result.andThen_ok,hn,run_method h n v w]
  exact callFunc_enter hf _ w
theorem CallV.of_met {f:FuncId} {T:TypeId} {name:String} {v:Value} {args:List Value} {Pre:List HP} {T':(Value→List HP→Prop)→List HP→Prop} (hm:metB P T name f=true) (hs:Spec P g f (v::args) Pre T') (hf:callable P f=true):CallV P g (.func (.method name) #[.iface T v] #[]) args Pre T':=
  fun R K w _ hw hT=>⟨{ target:=.fn (.method name) #[],args:=#[.iface T v]++args.toArray },.enter f (v::args).toArray,w,fun w=>rfl,by
    have e:(#[Value.iface T v]++args.toArray)[0]?=some (.iface T v):=by simp
    simp only [invoke,e]
    rw [run_callMethod hm hf]
    simp,hs R K w hw hT⟩
theorem CallV.of_metx {f:FuncId} {I T:TypeId} {name:String} {v:Value} {ms:Array (String × TypeId)} {args:List Value} {Pre:List HP} {T':(Value→List HP→Prop)→List HP→Prop} (hI:P.underlying I=some (.interface ms)) (hm:metB P T name f=true) (hs:Spec P g f (v::args) Pre T') (hf:callable P f=true):CallV P g (.func (.methodOf I name) #[] #[]) (.iface T v::args) Pre T':=
  fun R K w _ hw hT=>⟨{ target:=.fn (.methodOf I name) #[],args:=#[]++(Value.iface T v::args).toArray },.enter f (v::args).toArray,w,fun w=>rfl,by
    have e:(#[]++(Value.iface T v::args).toArray)[0]?=some (.iface T v):=by simp
    simp only [invoke,e,Sem.run_bind,run_underlying hI,Result.andThen_ok,Sem.run_pure]
    rw [run_callMethod hm hf]
    simp,hs R K w hw hT⟩
theorem e_slice_str {T:TypeId} {x i j:Operand} {k k':IntKind} {s:ByteArray} {lo hi:Nat} (hT:P.underlying T=some .string) (h1:lo≤hi) (h2:hi≤s.size) (hx:ev Γ x=some (.string s):=by rfl) (hi':ev Γ i=some (.int k lo):=by rfl) (hj:ev Γ j=some (.int k' hi):=by rfl):EO P g ⟨dst,.slice T x (some i) (some j) none,t,pos,aft,gd⟩ Γ L (.string (s.extract lo hi)):=
  .of (by simp) fun ρ hρ w _=>by
    have e1:=hρ x _ (by simp [Op.operands]) hx
    have e2:=hρ i _ (by simp [Op.operands]) hi'
    have e3:=hρ j _ (by simp [Op.operands]) hj
    show ((do pure (Next.value (← Instr.sliceAt T (ρ x) (some (ρ i)) (some (ρ j)) none)):Sem Next)).run P w=_
    rw [e1,e2,e3]
    have e4:(Instr.sliceAt T (.string s) (some (.int k lo)) (some (.int k' hi)) none).run P w=.ok (.string (s.extract lo hi)) w:=by
      unfold Instr.sliceAt
      simp only [Sem.run_bind,run_underlying hT,Result.andThen_ok]
      rw [run_slice_string_if w T s k k' lo hi hT,if_pos ⟨by omega,by omega⟩,if_pos ⟨by omega,by omega⟩]
      simp
    rw [Sem.run_bind,e4];rfl
theorem e_mkif {T E:TypeId} {x:Operand} {v:Value} (hT:P.underlying T=some (.pointer E)) (hx:ev Γ x=some v:=by rfl):EO P g ⟨dst,.makeInterface T x,t,pos,aft,gd⟩ Γ L (.iface T v):=
  .of (by simp) fun ρ hρ w _=>by
    have h1:=hρ x v (by simp [Op.operands]) hx
    show ((do pure (Next.value (← Instr.makeInterface T (ρ x))):Sem Next)).run P w=_
    rw [h1]
    simp only [Instr.makeInterface,Sem.run_bind,run_underlying hT,Result.andThen_ok,Sem.run_pure]
theorem e_ifneq {xt yt T:TypeId} {x y:Operand} {v:Value} (hI:P.underlying xt=some (.interface (P.methodsAt xt))) (hx:ev Γ x=some (.iface T v):=by rfl) (hy:ev Γ y=some .nilIface:=by rfl):EO P g ⟨dst,.binOp .neq xt x y yt,t,pos,aft,gd⟩ Γ L (.bool true):=e_bin hx hy fun w=>by
  simp only [eqGuard,Sem.run_bind]
  exact run_neq_held_nil w xt T v hI
end
end Go.SL
