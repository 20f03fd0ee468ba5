import Derived.Test.YtegjbklnhiionaaGreatQP7
set_option linter.unusedSimpArgs false
set_option linter.unusedVariables false
set_option linter.unusedSectionVars false
namespace Go.SL
open Go
theorem Zdq_ {l:List RowM} (hl:ZC' l) (k:ByteArray):∃ A D,l=A++D∧A.length=lowI l k∧(∀ r ∈ A,sLt r.key k=true)∧(∀ r ∈ D,sLt r.key k=false)∧ZC' A∧ZC' D:=by
 refine ⟨l.takeWhile fun r=>sLt r.key k,l.dropWhile fun r=>sLt r.key k,List.takeWhile_append_dropWhile.symm,rfl,fun r hr=>?_,fun r hr=>?_,hl.sublist (List.takeWhile_sublist _),hl.sublist (List.dropWhile_sublist _)⟩
 ·have:=List.all_takeWhile (p:=fun r:RowM=>sLt r.key k) (l:=l)
  exact List.all_eq_true.1 this r hr
 ·have hd:=hl.sublist (List.dropWhile_sublist (fun r=>sLt r.key k))
  have hh:∀ x y,l.dropWhile (fun r=>sLt r.key k)=x::y→sLt x.key k=false:=fun x y e=>by
   have:=List.head_dropWhile_not (fun r:RowM=>sLt r.key k) (l:=l) (by rw [e];simp)
   simpa [e] using this
  cases e:l.dropWhile (fun r=>sLt r.key k) with
  | nil=>rw [e] at hr;cases hr
  | cons x y=>
   have hx:=hh x y e
   rw [e] at hr hd
   rcases List.mem_cons.1 hr with rfl | hr
   ·exact hx
   ·have:=(List.pairwise_cons.1 hd).1 r hr
    cases e2:sLt r.key k with
    | false=>rfl
    | true=>have:=XS' this e2;rw [hx] at this;cases this
theorem ZgP_ {l:List RowM} (hl:ZC' l) (k:ByteArray):(∃ A v D,l=A++⟨k,v⟩::D∧A.length=lowI l k∧hasI l k=true∧(∀ r ∈ A,sLt r.key k=true)∧(∀ r ∈ D,sLt k r.key=true)∧ZC' A∧ZC' D) ∨
  (∃ A D,l=A++D∧A.length=lowI l k∧hasI l k=false∧(∀ r ∈ A,sLt r.key k=true)∧(∀ r ∈ D,sLt k r.key=true)∧ZC' A∧ZC' D):=by
 obtain ⟨A,D,he,ha,h1,h2,h3,h4⟩:=Zdq_ hl k
 have hat:l[lowI l k]?=D.head?:=by
  rw [← ha];conv=>lhs;rw [he]
  rw [List.getElem?_append_right (Nat.le_refl _),Nat.sub_self,List.head?_eq_getElem?]
 cases D with
 | nil=>
  right
  exact ⟨A,[],he,ha,by simp only [hasI,hat];rfl,h1,by simp,h3,h4⟩
 | cons x D=>
  have hp:=List.pairwise_cons.1 h4
  have hx:=h2 x (by simp)
  by_cases e:x.key=k
  ·left
   subst e
   exact ⟨A,x.val,D,he,ha,by simp [hasI,hat,XW'],h1,fun r hr=>hp.1 r hr,h3,hp.2⟩
  ·right
   have hxk:sLt k x.key=true:=by
    rcases Km' x.key k with h | h | h
    ·rw [hx] at h;cases h
    ·exact absurd h e
    ·exact h
   refine ⟨A,x::D,he,ha,?_,h1,fun r hr=>?_,h3,h4⟩
   ·simp only [hasI,hat,List.head?_cons]
    cases e2:sEq x.key k with
    | false=>rfl
    | true=>exact absurd (XW'.1 e2) e
   ·rcases List.mem_cons.1 hr with rfl | hr
    ·exact hxk
    ·exact XS' hxk (hp.1 r hr)
def setR (l:List RowM) (k:ByteArray) (v:UInt32):List RowM:=if hasI l k then l.set (lowI l k) ⟨k,v⟩ else l.take (lowI l k)++⟨k,v⟩::l.drop (lowI l k)
def Jl' (l:List RowM) (k:ByteArray):List RowM:=if hasI l k then l.eraseIdx (lowI l k) else l
theorem Kv' {a b:ByteArray} (h:sLt a b=true):a≠b:=fun e=>by subst e;rw [Yr'] at h;cases h
theorem Zca_ {A D:List RowM} {x:RowM} (h1:∀ r ∈ A,sLt r.key x.key=true) (h2:∀ r ∈ D,sLt x.key r.key=true) (hA:ZC' A) (hD:ZC' D):ZC' (A++x::D):=by
 refine List.pairwise_append.2 ⟨hA,List.pairwise_cons.2 ⟨h2,hD⟩,fun a ha b hb=>?_⟩
 rcases List.mem_cons.1 hb with rfl | hb
 ·exact h1 a ha
 ·exact XS' (h1 a ha) (h2 b hb)
theorem ZhN_ {A D:List RowM} {k:ByteArray} (h1:∀ r ∈ A,sLt r.key k=true) (h2:∀ r ∈ D,sLt k r.key=true) (hA:ZC' A) (hD:ZC' D):ZC' (A++D):=
 List.pairwise_append.2 ⟨hA,hD,fun a ha b hb=>XS' (h1 a ha) (h2 b hb)⟩
theorem XT' {l:List RowM} (hl:ZC' l) (k:ByteArray) (v:UInt32):ZC' (setR l k v)∧(∀ r,r ∈ setR l k v↔r=⟨k,v⟩∨(r ∈ l∧r.key≠k))∧(setR l k v).length≤l.length+1:=by
 rcases ZgP_ hl k with ⟨A,u,D,he,ha,hh,h1,h2,h3,h4⟩ | ⟨A,D,he,ha,hh,h1,h2,h3,h4⟩
 ·have e:setR l k v=A++⟨k,v⟩::D:=by
   unfold setR;rw [if_pos hh,← ha];conv=>lhs;rw [he]
   simp
  rw [e]
  refine ⟨Zca_ h1 h2 h3 h4,fun r=>?_,by rw [he];simp⟩
  rw [he]
  simp only [List.mem_append,List.mem_cons]
  constructor
  ·rintro (h | rfl | h)
   ·exact .inr ⟨.inl h,Kv' (h1 r h)⟩
   ·exact .inl rfl
   ·exact .inr ⟨.inr (.inr h),(Kv' (h2 r h)).symm⟩
  ·rintro (rfl | ⟨h | rfl | h,hn⟩)
   ·exact .inr (.inl rfl)
   ·exact .inl h
   ·exact absurd rfl hn
   ·exact .inr (.inr h)
 ·have e:setR l k v=A++⟨k,v⟩::D:=by
   unfold setR;rw [if_neg (by simp [hh]),← ha];conv=>lhs;rw [he]
   simp
  rw [e]
  refine ⟨Zca_ h1 h2 h3 h4,fun r=>?_,by rw [he];simp;omega⟩
  rw [he]
  simp only [List.mem_append,List.mem_cons]
  constructor
  ·rintro (h | rfl | h)
   ·exact .inr ⟨.inl h,Kv' (h1 r h)⟩
   ·exact .inl rfl
   ·exact .inr ⟨.inr h,(Kv' (h2 r h)).symm⟩
  ·rintro (rfl | ⟨h | h,hn⟩)
   ·exact .inr (.inl rfl)
   ·exact .inl h
   ·exact .inr (.inr h)
theorem K8' {l:List RowM} (hl:ZC' l) (k:ByteArray):ZC' (Jl' l k)∧(∀ r,r ∈ Jl' l k↔r ∈ l∧r.key≠k)∧(Jl' l k).length≤l.length:=by
 rcases ZgP_ hl k with ⟨A,u,D,he,ha,hh,h1,h2,h3,h4⟩ | ⟨A,D,he,ha,hh,h1,h2,h3,h4⟩
 ·have e:Jl' l k=A++D:=by
   unfold Jl';rw [if_pos hh,← ha];conv=>lhs;rw [he]
   rw [List.eraseIdx_append_of_length_le (Nat.le_refl _)];simp
  rw [e]
  refine ⟨ZhN_ h1 h2 h3 h4,fun r=>?_,by rw [he];simp⟩
  rw [he]
  simp only [List.mem_append,List.mem_cons]
  constructor
  ·rintro (h | h)
   ·exact ⟨.inl h,Kv' (h1 r h)⟩
   ·exact ⟨.inr (.inr h),(Kv' (h2 r h)).symm⟩
  ·rintro ⟨h | rfl | h,hn⟩
   ·exact .inl h
   ·exact absurd rfl hn
   ·exact .inr h
 ·have e:Jl' l k=l:=by unfold Jl';rw [if_neg (by simp [hh])]
  rw [e]
  refine ⟨hl,fun r=>⟨fun h=>⟨h,?_⟩,fun h=>h.1⟩,Nat.le_refl _⟩
  rw [he] at h
  rcases List.mem_append.1 h with h | h
  ·exact Kv' (h1 r h)
  ·exact (Kv' (h2 r h)).symm
theorem Uy' {a b:List RowM} (ha:ZC' a) (hb:ZC' b) (h:∀ r,r ∈ a↔r ∈ b):a=b:=by
 induction a generalizing b with
 | nil=>
  cases b with
  | nil=>rfl
  | cons x b=>have:=(h x).2 (by simp);cases this
 | cons x a ih=>
  have hpa:=List.pairwise_cons.1 ha
  cases b with
  | nil=>have:=(h x).1 (by simp);cases this
  | cons y b=>
   have hpb:=List.pairwise_cons.1 hb
   have exy:x=y:=by
    rcases List.mem_cons.1 ((h x).1 (by simp)) with e | hx
    ·exact e
    ·rcases List.mem_cons.1 ((h y).2 (by simp)) with e | hy
     ·exact e.symm
     ·have:=XS' (hpb.1 x hx) (hpa.1 y hy)
      rw [Yr'] at this;cases this
   subst exy
   congr 1
   refine ih hpa.2 hpb.2 fun r=>?_
   constructor
   ·intro hr
    rcases List.mem_cons.1 ((h r).1 (by simp [hr])) with e | h'
    ·subst e;have:=hpa.1 r hr;rw [Yr'] at this;cases this
    ·exact h'
   ·intro hr
    rcases List.mem_cons.1 ((h r).2 (by simp [hr])) with e | h'
    ·subst e;have:=hpb.1 r hr;rw [Yr'] at this;cases this
    ·exact h'
theorem ZhO_ {l:List RowM} (hl:ZC' l) {a b:RowM} (ha:a ∈ l) (hb:b ∈ l) (h:a.key=b.key):a=b:=by
 induction l with
 | nil=>cases ha
 | cons x l ih=>
  have hp:=List.pairwise_cons.1 hl
  rcases List.mem_cons.1 ha with e1 | h1 <;> rcases List.mem_cons.1 hb with e2 | h2
  ·rw [e1,e2]
  ·subst e1;exact absurd h (Kv' (hp.1 b h2))
  ·subst e2;exact absurd h.symm (Kv' (hp.1 a h1))
  ·exact ih hp.2 h1 h2
def XL' (l:List RowM) (c:ChgM):List RowM:=if c.gone then Jl' l c.key else setR l c.key c.val
def Zw' (l:List RowM) (cs:List ChgM):List RowM:=cs.foldl XL' l
theorem JP' {l:List RowM} (hl:ZC' l) (c:ChgM):ZC' (XL' l c)∧(XL' l c).length≤l.length+1:=by
 unfold XL';split
 ·exact ⟨(K8' hl _).1,Nat.le_succ_of_le (K8' hl _).2.2⟩
 ·exact ⟨(XT' hl _ _).1,(XT' hl _ _).2.2⟩
theorem ZS':∀ (cs:List ChgM) {l:List RowM},ZC' l→ZC' (Zw' l cs)∧(Zw' l cs).length≤l.length+cs.length
 | [],_,h=>⟨h,Nat.le_refl _⟩
 | c::cs,l,h=>by
  have h1:=JP' h c
  have h2:=ZS' cs h1.1
  exact ⟨h2.1,by have:=h2.2;simp only [Zw',List.foldl_cons,List.length_cons] at *;omega⟩
theorem K9' {l:List RowM} (hl:ZC' l) (c:ChgM) (r:RowM):r ∈ XL' l c↔(c.gone=false∧r=⟨c.key,c.val⟩)∨(r ∈ l∧r.key≠c.key):=by
 unfold XL';split
 ·rename_i h;rw [(K8' hl _).2.1];simp [h]
 ·rename_i h;rw [(XT' hl _ _).2.1];simp [h]
def ZW' (p:SpanM) (k:ByteArray):Bool:=sIn k p.a p.b
def ZT' (l:List RowM) (p:SpanM) (most:Nat):List RowM:=(l.filter fun r=>ZW' p r.key).take most
theorem XG' {k a b:ByteArray}:sIn k a b=true↔(sLt k a=false∧sLt b k=false):=by
 have hle:∀ x y:ByteArray,(sLt x y || sEq x y)=true↔sLt y x=false:=fun x y=>by
  rcases Km' x y with h | h | h
  ·simp [h,KX' h]
  ·subst h;simp [Yr',XW']
  ·simp [h,KX' h]
   cases e:sEq x y with
   | false=>rfl
   | true=>rw [XW'.1 e,Yr'] at h;cases h
 unfold sIn
 rw [Bool.and_eq_true,hle,hle]
theorem Zk6_ (a b:ByteArray):sMax a b=if sLt a b then b else a:=by
 rcases Km' a b with h | h | h
 ·simp [sMax,h]
 ·subst h;simp [sMax,Yr']
 ·simp [sMax,h,KX' h]
theorem QY' {a b c:ByteArray} (h:sLt b a=false) (h':sLt c b=false):sLt c a=false:=by
 cases e:sLt c a with
 | false=>rfl
 | true=>
  rcases Km' b c with h1 | h1 | h1
  ·rw [XS' h1 e] at h;cases h
  ·subst h1;rw [h] at e;cases e
  ·rw [h1] at h';cases h'
theorem Qo' {a b:SpanM}:meet a b=true↔∃ k,ZW' a k=true∧ZW' b k=true:=by
 unfold meet ZW'
 rw [Bool.and_eq_true,Zk6_]
 constructor
 ·rintro ⟨h1,h2⟩;exact ⟨_,h1,h2⟩
 ·rintro ⟨k,h1,h2⟩
  rw [XG'] at h1 h2
  simp only [XG']
  split
  ·rename_i h
   exact ⟨⟨KX' h,QY' h2.1 h1.2⟩,Yr' _,QY' h2.1 h2.2⟩
  ·rename_i h
   simp only [Bool.not_eq_true] at h
   exact ⟨⟨Yr' _,QY' h1.1 h1.2⟩,h,QY' h1.1 h2.2⟩
theorem Uz' {k:ByteArray} {p:SpanM}:meet (one k) p=ZW' p k:=by
 rw [Bool.eq_iff_iff,Qo']
 unfold ZW' one
 constructor
 ·rintro ⟨j,h1,h2⟩
  rw [XG'] at h1
  have:j=k:=by
   rcases Km' j k with h | h | h
   ·rw [h1.1] at h;cases h
   ·exact h
   ·rw [h1.2] at h;cases h
  subst this;exact h2
 ·intro h;exact ⟨k,by rw [XG'];exact ⟨Yr' _,Yr' _⟩,h⟩
theorem ZmU_ {A D:List RowM} {x y:RowM} {n:Nat} (h:A.length=n):(A++x::D).set n y=A++y::D:=by subst h;simp
theorem ZcS_ {l:List RowM} (hl:ZC' l) (s:SpanM):(l.drop (lowI l s.a)).takeWhile (fun r=>!sLt s.b r.key)=l.filter fun r=>ZW' s r.key:=by
 obtain ⟨A,D,rfl,ha,h1,h2,h3,h4⟩:=Zdq_ hl s.a
 rw [← ha,List.drop_left,List.filter_append]
 have e1:A.filter (fun r=>ZW' s r.key)=[]:=by
  rw [List.filter_eq_nil_iff]
  intro r hr h
  rw [ZW',XG',h1 r hr] at h;cases h.1
 rw [e1,List.nil_append]
 clear ha e1 h1 hl h3
 induction D with
 | nil=>rfl
 | cons x D ih=>
  have hp:=List.pairwise_cons.1 h4
  have hx:=h2 x (by simp)
  rw [List.takeWhile_cons,List.filter_cons]
  cases e:sLt s.b x.key with
  | false=>
   have:ZW' s x.key=true:=by rw [ZW',XG'];exact ⟨hx,e⟩
   simp [this,ih (fun r hr=>h2 r (by simp [hr])) hp.2]
  | true=>
   have hn:ZW' s x.key=false:=by
    cases e2:ZW' s x.key with
    | false=>rfl
    | true=>rw [ZW',XG',e] at e2;cases e2.2
   have:D.filter (fun r=>ZW' s r.key)=[]:=by
    rw [List.filter_eq_nil_iff]
    intro r hr h
    rw [ZW',XG',XS' e (hp.1 r hr)] at h;cases h.2
   simp [hn,this]
theorem Zjl_ {s:SpanM} {l:List RowM} (h:meet s s=false):l.filter (fun r=>ZW' s r.key)=[]:=by
 rw [List.filter_eq_nil_iff]
 intro r _ hr
 have:meet s s=true:=Qo'.2 ⟨_,hr,hr⟩
 rw [h] at this;cases this
theorem ZeC_ {l:List RowM} {k:ByteArray} (h:hasI l k=true):∃ u,l[lowI l k]?=some ⟨k,u⟩:=by
 unfold hasI at h
 cases e:l[lowI l k]? with
 | none=>rw [e] at h;cases h
 | some r=>rw [e] at h;have:=XW'.1 h;subst this;exact ⟨r.val,rfl⟩
theorem Zcb_ {l:List RowM} {k:ByteArray} (h:hasI l k=true):lowI l k < l.length:=by obtain ⟨u,hu⟩:=ZeC_ h;exact Yf' hu
theorem XZ' (l:List RowM) (cs:List ChgM) (c:ChgM):Zw' l (cs++[c])=XL' (Zw' l cs) c:=by simp [Zw']
theorem Zjm_ (a b:ByteArray):(!(sLt a b || sEq a b))=sLt b a:=by
 rcases Km' a b with h | h | h
 ·simp [h,KX' h]
 ·subst h;simp [Yr',XW']
 ·have:sEq a b=false:=by
   cases e:sEq a b with
   | false=>rfl
   | true=>rw [XW'.1 e,Yr'] at h;cases h
  simp [h,KX' h,this]
end Go.SL
namespace Go.SL
open Go
structure EntV (κ α:Type) where
 key:κ
 sv:SV
 ws:List α
section
variable {κ α : Type} [DecidableEq κ]
def getS (l:List (κ × List α)) (k:κ):Option (List α):=(l.find? fun p=>decide (p.1=k)).map (·.2)
def setS (l:List (κ × List α)) (k:κ) (ws:List α):List (κ × List α):=match l.findIdx? (fun p=>decide (p.1=k)) with
 | some i=>l.set i (k,ws)
 | none=>l++[(k,ws)]
def kvE (e:EntV κ α):κ × Value:=(e.key,e.sv.v)
def stE (e:EntV κ α):κ × List α:=(e.key,e.ws)
def YM' (es:List (EntV κ α)) (k:κ):Option (EntV κ α):=es.find? fun e=>decide (e.key=k)
def svE (es:List (EntV κ α)) (k:κ):SV:=match YM' es k with
 | some e=>e.sv
 | none=>⟨none,0,0⟩
def wsE (es:List (EntV κ α)) (k:κ):List α:=match YM' es k with
 | some e=>e.ws
 | none=>[]
def setE (es:List (EntV κ α)) (k:κ) (sv:SV) (ws:List α):List (EntV κ α):=match es.findIdx? (fun e=>decide (e.key=k)) with
 | some i=>es.set i ⟨k,sv,ws⟩
 | none=>es++[⟨k,sv,ws⟩]
def delE (es:List (EntV κ α)) (k:κ):List (EntV κ α):=es.eraseP fun e=>decide (e.key=k)
theorem ZeD_ (es:List (EntV κ α)) (k:κ):mget (es.map kvE) k=(YM' es k).map fun e=>e.sv.v:=by
 unfold mget YM'
 induction es with
 | nil=>rfl
 | cons e es ih=>
  simp only [List.map_cons,List.find?_cons,kvE]
  by_cases h:e.key=k
  ·simp [h]
  ·simp only [h,decide_false];exact ih
theorem Zbs_ (es:List (EntV κ α)) (k:κ):(mget (es.map kvE) k).getD (.slice none 0 0)=(svE es k).v:=by
 rw [ZeD_];unfold svE
 cases YM' es k <;> rfl
theorem Qp' (es:List (EntV κ α)) (k:κ) (sv:SV) (ws:List α):mset (es.map kvE) k sv.v=(setE es k sv ws).map kvE:=by
 have h:midx (es.map kvE) k=es.findIdx? (fun e=>decide (e.key=k)):=by
  unfold midx;rw [List.findIdx?_map];rfl
 unfold mset setE
 rw [h]
 cases List.findIdx? (fun e:EntV κ α=>decide (e.key=k)) es with
 | none=>simp [kvE]
 | some i=>simp [kvE,List.map_set]
theorem ZcT_ (es:List (EntV κ α)) (k:κ) (sv:SV) (ws:List α):(setE es k sv ws).map stE=setS (es.map stE) k ws:=by
 have h:(es.map stE).findIdx? (fun p=>decide (p.1=k))=es.findIdx? (fun e=>decide (e.key=k)):=by
  rw [List.findIdx?_map];rfl
 unfold setS setE
 rw [h]
 cases List.findIdx? (fun e:EntV κ α=>decide (e.key=k)) es with
 | none=>simp [stE]
 | some i=>simp [stE,List.map_set]
theorem ZgQ_ (es:List (EntV κ α)) (k:κ):getS (es.map stE) k=(YM' es k).map (·.ws):=by
 unfold getS YM'
 induction es with
 | nil=>rfl
 | cons e es ih=>
  simp only [List.map_cons,List.find?_cons,stE]
  by_cases h:e.key=k
  ·simp [h]
  ·simp only [h,decide_false];exact ih
theorem Zah_ (es:List (EntV κ α)) (k:κ):wsE es k=(getS (es.map stE) k).getD []:=by
 rw [ZgQ_];unfold wsE
 cases YM' es k <;> rfl
theorem ZcU_ (es:List (EntV κ α)):es.map (·.key)=(es.map stE).map (·.1):=by simp [stE]
theorem ZgR_ (es:List (EntV κ α)):(es.map kvE).map (·.1)=es.map (·.key):=by simp [kvE]
theorem Zai_ {es:List (EntV κ α)} (hn:(es.map (·.key)).Nodup) {e:EntV κ α} (he:e ∈ es):YM' es e.key=some e:=by
 unfold YM'
 induction es with
 | nil=>cases he
 | cons x es ih=>
  rw [List.map_cons] at hn
  obtain ⟨h1,h2⟩:=List.nodup_cons.1 hn
  rcases List.mem_cons.1 he with rfl | he
  ·simp
  ·rw [List.find?_cons]
   have:x.key≠e.key:=fun h=>h1 (h ▸ List.mem_map.2 ⟨e,he,rfl⟩)
   simp only [this,decide_false]
   exact ih h2 he
theorem VQ' {es:List (EntV κ α)} {k:κ} {e:EntV κ α} (h:YM' es k=some e):e ∈ es∧e.key=k:=by
 refine ⟨List.mem_of_find?_eq_some h,?_⟩
 have:=List.find?_some h
 simpa using this
theorem Zbt_ {l:List (κ × List α)} (hn:(l.map (·.1)).Nodup) {p:κ × List α} (h:p ∈ l):getS l p.1=some p.2:=by
 unfold getS
 induction l with
 | nil=>cases h
 | cons x l ih=>
  rw [List.map_cons] at hn
  obtain ⟨h1,h2⟩:=List.nodup_cons.1 hn
  rw [List.find?_cons]
  rcases List.mem_cons.1 h with rfl | h
  ·simp
  ·have:x.1≠p.1:=fun e=>h1 (e ▸ List.mem_map.2 ⟨p,h,rfl⟩)
   simp only [this,decide_false]
   exact ih h2 h
theorem Jc' {l:List (κ × List α)} {k:κ} {ws:List α} (h:getS l k=some ws):(k,ws) ∈ l:=by
 unfold getS at h
 rw [Option.map_eq_some_iff] at h
 obtain ⟨p,h1,rfl⟩:=h
 have h2:=List.find?_some h1
 have h3:=List.mem_of_find?_eq_some h1
 simp at h2;subst h2
 exact h3
theorem KO' (l:List (κ × List α)) (k:κ) (ws:List α) (j:κ):getS (setS l k ws) j=if j=k then some ws else getS l j:=by
 unfold setS getS
 induction l with
 | nil=>
  by_cases h:j=k
  ·subst h;simp
  ·simp [h,Ne.symm h]
 | cons x l ih=>
  rw [List.findIdx?_cons]
  by_cases hx:x.1=k
  ·simp only [hx,decide_true,if_true,List.set_cons_zero,List.find?_cons]
   by_cases h:j=k
   ·subst h;simp
   ·have h':¬ k=j:=fun e=>h e.symm
    simp [h,h']
  ·simp only [hx,decide_false,Bool.false_eq_true,if_false]
   cases hf:List.findIdx? (fun p:κ × List α=>decide (p.1=k)) l with
   | none=>
    rw [hf] at ih
    simp only [Option.map_none,List.cons_append,List.find?_cons]
    by_cases h:x.1=j
    ·have:j≠k:=fun e=>hx (h.trans e)
     simp [h,this]
    ·simp only [h,decide_false];exact ih
   | some i=>
    rw [hf] at ih
    simp only [Option.map_some,List.set_cons_succ,List.find?_cons]
    by_cases h:x.1=j
    ·have:j≠k:=fun e=>hx (h.trans e)
     simp [h,this]
    ·simp only [h,decide_false];exact ih
theorem Zaj_ (l:List (κ × List α)) (k:κ) (ws:List α):∀ j,j ∈ (setS l k ws).map (·.1)↔j=k∨j ∈ l.map (·.1):=by
 intro j
 have key:∀ (l:List (κ × List α)) (j:κ),j ∈ l.map (·.1)↔(getS l j).isSome=true:=by
  intro l j
  unfold getS
  rw [Option.isSome_map,List.find?_isSome]
  simp
 rw [key,key,KO']
 by_cases h:j=k <;> simp [h]
theorem UA' {l:List (κ × List α)} (hn:(l.map (·.1)).Nodup) (k:κ) (ws:List α):((setS l k ws).map (·.1)).Nodup:=by
 unfold setS
 split
 ·rename_i i hi
  have:(l.set i (k,ws)).map (·.1)=l.map (·.1):=by
   rw [List.map_set]
   apply List.ext_getElem?
   intro j
   rw [List.getElem?_set]
   obtain ⟨h1,h2,_⟩:=List.findIdx?_eq_some_iff_getElem.1 hi
   split
   ·rename_i e;subst e
    rw [if_pos (by simpa using h1)]
    simp only [List.getElem?_map,List.getElem?_eq_getElem h1,Option.map_some]
    simp at h2;rw [h2]
   ·rfl
  rw [this];exact hn
 ·rename_i hi
  rw [List.map_append,List.nodup_append]
  refine ⟨hn,by simp,?_⟩
  intro a ha b hb e
  simp at hb;subst hb;subst e
  obtain ⟨p,hp,rfl⟩:=List.mem_map.1 ha
  have:=List.findIdx?_eq_none_iff.1 hi p hp
  simp at this
theorem VR' {es:List (EntV κ α)} {k:κ} {e:EntV κ α} (h:YM' es k=some e):∃ A B,es=A++e::B∧delE es k=A++B∧(∀ sv ws,setE es k sv ws=A++⟨k,sv,ws⟩::B):=by
 unfold YM' at h
 induction es with
 | nil=>simp at h
 | cons x es ih=>
  rw [List.find?_cons] at h
  by_cases e1:x.key=k
  ·simp [e1] at h;subst h
   exact ⟨[],es,rfl,by simp [delE,e1],by intro sv ws;simp [setE,List.findIdx?_cons,e1]⟩
  ·simp [e1] at h
   obtain ⟨A,B,h2,h3,h4⟩:=ih (by simpa using h)
   refine ⟨x::A,B,by simp [h2],by simp only [delE,List.eraseP_cons,e1,decide_false,cond_false,List.cons_append] at h3 ⊢;rw [h3],?_⟩
   intro sv ws
   have:=h4 sv ws
   unfold setE at this ⊢
   rw [List.findIdx?_cons]
   simp only [e1,decide_false,Bool.false_eq_true,if_false]
   cases hf:List.findIdx? (fun e:EntV κ α=>decide (e.key=k)) es with
   | none=>rw [hf] at this;simp only at this;simp [this]
   | some i=>rw [hf] at this;simp only at this;simp [this]
theorem Zak_ {es:List (EntV κ α)} {k:κ} (h:YM' es k=none):delE es k=es∧(∀ sv ws,setE es k sv ws=es++[⟨k,sv,ws⟩]):=by
 unfold YM' at h
 refine ⟨?_,?_⟩
 ·unfold delE
  rw [List.eraseP_of_forall_not]
  intro x hx
  have:=List.find?_eq_none.1 h x hx
  simpa using this
 ·intro sv ws
  unfold setE
  rw [List.findIdx?_eq_none_iff.2 (fun x hx=>by have:=List.find?_eq_none.1 h x hx;simpa using this)]
def Ents (E z:Nat) (enc:α→List Value) (es:List (EntV κ α)):HP:=bun (es.map fun e=>Sl E z enc e.sv.v e.ws)
variable {E z : Nat} {enc : α → List Value}
theorem Zbu_ {L:List HP} {S:ZN'} (h:Zo' L S):Zo' (Ents E z enc ([]:List (EntV κ α))::L) S:=YB' (L:=[]) h
theorem ZeE_ {es A B:List (EntV κ α)} {e:EntV κ α} (h:es=A++e::B):∀ S,Ents E z enc es S→∃ _:Unit,Zo' [Sl E z enc e.sv.v e.ws,Ents E z enc (A++B)] S:=fun S hS=>by
 subst h
 refine ⟨(),?_⟩
 unfold Ents bun at hS
 rw [List.map_append,List.map_cons] at hS
 have h1:=Xe' hS
 refine ZU' (fun S h=>?_) h1
 show Zo' [bun ((A++B).map _)] S
 rw [List.map_append]
 exact YB' (M:=[]) (S:=S) (by simpa using h)
theorem ZgS_ {A B:List (EntV κ α)} {e:EntV κ α}:∀ S,Zo' [Sl E z enc e.sv.v e.ws,Ents E z enc (A++B)] S→Ents E z enc (A++e::B) S:=fun S hS=>by
 unfold Ents bun
 rw [List.map_append,List.map_cons]
 refine X7' ?_
 refine ZU' (fun S h=>?_) hS
 have h':Zo' (bun ((A++B).map _)::[]) S:=h
 rw [List.map_append] at h'
 have:=Yx' h'
 simpa using this
theorem QZ' (es:List (EntV κ α)) (k:κ):∀ S,Ents E z enc es S→∃ _:Unit,Zo' [Sl E z enc (svE es k).v (wsE es k),Ents E z enc (delE es k)] S:=fun S hS=>by
 cases hf:YM' es k with
 | none=>
  refine ⟨(),?_⟩
  rw [(Zak_ hf).1]
  unfold svE wsE
  rw [hf]
  exact U6' (stars_one' hS)
 | some e=>
  obtain ⟨A,B,h1,h2,_⟩:=VR' hf
  rw [h2]
  unfold svE wsE
  rw [hf]
  exact ZeE_ h1 S hS
where
 stars_one' {A:HP} {S:ZN'} (h:A S):Zo' [A] S:=⟨S,fun _=>none,fun _=>.inr rfl,le_refl _,(fun _ _ h=>by cases h),h,trivial⟩
theorem JG' (es:List (EntV κ α)) (k:κ) (sv:SV) (ws:List α):∀ S,Zo' [Sl E z enc sv.v ws,Ents E z enc (delE es k)] S→Ents E z enc (setE es k sv ws) S:=fun S hS=>by
 cases hf:YM' es k with
 | none=>
  obtain ⟨h1,h2⟩:=Zak_ hf
  rw [h2];rw [h1] at hS
  have:=ZgS_ (A:=es) (B:=[]) (e:=⟨k,sv,ws⟩) S (by simpa using hS)
  simpa using this
 | some e=>
  obtain ⟨A,B,_,h2,h3⟩:=VR' hf
  rw [h3];rw [h2] at hS
  exact ZgS_ (e:=⟨k,sv,ws⟩) S hS
theorem Kn' {es:List (EntV κ α)} {e:EntV κ α} (h:e ∈ es):RL (Ents E z enc es) z enc e.sv.v e.ws:=fun S hS=>by
 obtain ⟨A,B,rfl⟩:=List.append_of_mem h
 obtain ⟨_,S1,S2,_,h1,_,h2,_⟩:=ZeE_ (E:=E) (z:=z) (enc:=enc) rfl S hS
 rcases Zr' S1 h2 with h | ⟨b,o,c,l,t,a1,a2,a3,a4,a5⟩
 ·exact .inl h
 ·exact .inr ⟨b,o,c,l,t,a1,a2,h1 _ _ a3,a4,a5⟩
end
end Go.SL
namespace Go.SL
open Go
structure WasM where
  at_:UInt32
  val:UInt32
  gone:Bool
def WasM.c (w:WasM):List Value:=[.int .u32 w.at_.toNat,.int .u32 w.val.toNat,.bool w.gone]
theorem wasE:EncOk 3 WasM.c:=⟨fun _=>rfl,fun _=>rfl⟩
abbrev PS:=List (ByteArray × List WasM)
def YT' (ws:List WasM) (n:UInt32):UInt32 × Bool:=match ws.reverse.find? fun w=>decide (w.at_≤n) with
  | some w=>(w.val,!w.gone)
  | none=>(0,false)
def valW (ws:List WasM) (n:UInt32):Option UInt32:=if (YT' ws n).2 then some (YT' ws n).1 else none
def YX' (ws:List WasM):UInt32:=(ws.getLast?.map (·.at_)).getD 0
def YU' (ws:List WasM) (n:UInt32) (c:ChgM):List WasM:=(if ws≠[]∧YX' ws=n then ws.dropLast else ws)++[⟨n,c.val,c.gone⟩]
def putS (l:PS) (n:UInt32) (c:ChgM):PS:=setS l c.key (YU' ((getS l c.key).getD []) n c)
def KH' (n:UInt32) (r:List RowM) (p:ByteArray × List WasM):List RowM:=match valW p.2 n with
  | some v=>setR r p.1 v
  | none=>r
def ZhP_ (l:PS) (n:UInt32):List RowM:=l.foldl (KH' n) []
def JZ' (ws:List WasM) (n:UInt32):Nat→Nat
  | 0=>0
  | i+1=>match ws[i+1]? with
    | some w=>if n < w.at_ then JZ' ws n i else i+1
    | none=>0
def XH' (ws:List WasM) (n:UInt32):List WasM:=ws.drop (JZ' ws n (ws.length - 1))
def Vx' (l:PS) (n:UInt32) (s:SpanM):Bool:=l.any fun p=>decide (n < YX' p.2) && meet (one p.1) s
instance memB (k:ByteArray) (l:List ByteArray):Decidable (k ∈ l):=@List.instDecidableMemOfLawfulBEq _ instBEqOfDecidableEq _ k l
def bwdK (ws:List WasM):Nat→List (Nat × WasM)
  | 0=>[]
  | k+1=>(match ws[k]? with | some w=>[(k,w)] | none=>[])++bwdK ws k
theorem ZeF_ (ws:List WasM):∀ k,k≤ws.length→(bwdK ws k).map (·.2)=(ws.take k).reverse
  | 0,_=>by simp [bwdK]
  | k+1,h=>by
    have hx:=List.getElem?_eq_getElem (show k < ws.length by omega)
    rw [bwdK,hx,ZA' hx,List.map_append,ZeF_ ws k (by omega),List.reverse_append];rfl
theorem Zdr_ (ws:List WasM) (n:UInt32):YT' ws n=match (bwdK ws ws.length).find? (fun x=>decide (x.2.at_≤n)) with
    | some x=>(x.2.val,!x.2.gone)
    | none=>(0,false):=by
  have h:=ZeF_ ws ws.length (Nat.le_refl _)
  rw [List.take_length] at h
  unfold YT'
  rw [← h,List.find?_map]
  simp only [Function.comp_def]
  cases (bwdK ws ws.length).find? fun x=>decide (x.2.at_≤n) <;> rfl
theorem ZhQ_ {ws:List WasM} {n:UInt32} (h:Hist (fun _ (x:Nat × WasM)=>¬ x.2.at_≤n) (bwdK ws ws.length)):YT' ws n=(0,false):=by
  rw [Zdr_,List.find?_eq_none.2 (fun x hx=>by simpa using Ux' h x hx)]
theorem ZhR_ {ws:List WasM} {n:UInt32} {pre:List (Nat × WasM)} {x:Nat × WasM} (hp:∃ r,(pre++[x])++r=bwdK ws ws.length) (h:Hist (fun _ (x:Nat × WasM)=>¬ x.2.at_≤n) pre) (hx:¬ ¬ x.2.at_≤n):YT' ws n=(x.2.val,!x.2.gone):=by
  obtain ⟨r,hr⟩:=hp
  rw [Zdr_,← hr,List.append_assoc,List.find?_append,List.find?_eq_none.2 (fun y hy=>by simpa using Ux' h y hy)]
  simp only [Classical.not_not] at hx
  simp [hx]
theorem Qq' {E z:Nat} {enc:WasM→List Value} {es:List (EntV ByteArray WasM)} (k:ByteArray):RL (Ents E z enc es) z enc (svE es k).v (wsE es k):=by
  cases hf:YM' es k with
  | none=>
    unfold svE wsE
    rw [hf]
    exact X4'
  | some e=>
    have h1:=Kn' (E:=E) (z:=z) (enc:=enc) (VQ' hf).1
    unfold svE wsE
    rw [hf];exact h1
theorem ZgT_ {a b:UInt32} (h:decide (a < b)=true):a < b:=of_decide_eq_true h
theorem ZgU_ {a b:UInt32} (h:decide (a < b)=true):a < b:=of_decide_eq_true h
theorem Zk7_ {a b:UInt32} (h:decide (a < b)=false):¬ a < b:=of_decide_eq_false h
theorem ZmV_ {a b:UInt32} (h:decide ((a.toNat:Int)≤(b.toNat:Int))=true):a≤b:=by
  have:=of_decide_eq_true h;rw [UInt32.le_iff_toNat_le];omega
theorem Zk8_ {a b:UInt32} (h:decide ((a.toNat:Int)≤(b.toNat:Int))=false):¬ a≤b:=by
  have:=of_decide_eq_false h;rw [UInt32.le_iff_toNat_le];omega
theorem ZeG_ {ws:List WasM} {w:WasM} (h:ws[ws.length - 1]?=some w):YX' ws=w.at_:=by
  unfold YX';rw [List.getLast?_eq_getElem?,h];rfl
theorem Zal_ (A B:List (EntV ByteArray WasM)) (y:EntV ByteArray WasM) (n:UInt32) (s:SpanM):Vx' ((A++y::B).map stE) n s=((decide (n < YX' y.ws) && meet (one y.key) s) || Vx' ((A++B).map stE) n s):=by
  unfold Vx'
  simp only [List.map_append,List.map_cons,List.any_append,List.any_cons,stE]
  cases decide (n < YX' y.ws) && meet (one y.key) s <;> simp
theorem ZhS_ {ws:List WasM} {n:UInt32} {j:Nat} {w:WasM} (h:ws[j]?=some w) (h0:0 < j) (hw:n < w.at_):JZ' ws n j=JZ' ws n (j - 1):=by
  obtain ⟨i,rfl⟩:∃ i,j=i+1:=⟨j - 1,by omega⟩
  rw [JZ',h];simp [hw]
theorem ZhT_ {ws:List WasM} {n:UInt32} {j:Nat} {w:WasM} (h:ws[j]?=some w) (h0:0 < j) (hw:¬ n < w.at_):JZ' ws n j=j:=by
  obtain ⟨i,rfl⟩:∃ i,j=i+1:=⟨j - 1,by omega⟩
  rw [JZ',h];simp [hw]
structure TrimI (es:List (EntV ByteArray WasM)) (n:UInt32) (left st:List (EntV ByteArray WasM)):Prop where
  nl:(left.map (·.key)).Nodup
  sub:∀ y ∈ left,y ∈ st
  old:∀ y ∈ left,y ∈ es
  keys:st.map (·.key)=es.map (·.key)
  nodup:(st.map (·.key)).Nodup
  val:st.map stE=es.map fun e=>(e.key,if e.key ∈ left.map (·.key) then e.ws else XH' e.ws n)
theorem TrimI.first {es:List (EntV ByteArray WasM)} (h:(es.map (·.key)).Nodup) (n:UInt32):TrimI es n es es:=by
  refine ⟨h,fun _ h=>h,fun _ h=>h,rfl,h,List.map_congr_left fun e he=>?_⟩
  rw [if_pos (List.mem_map.2 ⟨e,he,rfl⟩)];rfl
theorem TrimI.done {es st:List (EntV ByteArray WasM)} {n:UInt32} (h:TrimI es n [] st):st.map stE=(es.map stE).map fun p=>(p.1,XH' p.2 n):=by
  rw [h.val,List.map_map];rfl
theorem TrimI.step {es left st A B:List (EntV ByteArray WasM)} {n:UInt32} {y:EntV ByteArray WasM} (h:TrimI es n left st) (hl:left=A++y::B) {j:Nat} (hj:XH' y.ws n=y.ws.drop j):TrimI es n (A++B) (setE st y.key (subS y.sv j y.ws.length 3) (y.ws.drop j)):=by
  have hy:y ∈ st:=h.sub y (by rw [hl];simp)
  have hfe:=Zai_ h.nodup hy
  obtain ⟨A2,B2,h1,_,h3⟩:=VR' hfe
  have hnl:=h.nl
  rw [hl,List.map_append,List.map_cons] at hnl
  have hno:y.key ∉ (A++B).map (·.key):=by
    rw [List.map_append]
    intro hm
    obtain ⟨a1,a2,a3⟩:=List.nodup_append.1 hnl
    rcases List.mem_append.1 hm with hm | hm
    · exact a3 _ hm _ (by simp) rfl
    · exact (List.nodup_cons.1 a2).1 hm
  have hkk:(setE st y.key (subS y.sv j y.ws.length 3) (y.ws.drop j)).map (·.key)=st.map (·.key):=by rw [h3,h1];simp
  have hsub:∀ z ∈ A++B,z ∈ left∧z.key≠y.key:=fun z hz=>⟨by rw [hl];simp only [List.mem_append,List.mem_cons] at hz ⊢;rcases hz with h | h;exact .inl h;exact .inr (.inr h),fun e=>hno (e ▸ List.mem_map.2 ⟨z,hz,rfl⟩)⟩
  refine ⟨?_,fun z hz=>?_,fun z hz=>h.old z (hsub z hz).1,by rw [hkk];exact h.keys,by rw [hkk];exact h.nodup,?_⟩
  · rw [List.map_append]
    obtain ⟨a1,a2,a3⟩:=List.nodup_append.1 hnl
    exact List.nodup_append.2 ⟨a1,(List.nodup_cons.1 a2).2,fun a ha b hb=>a3 a ha b (by simp [hb])⟩
  · obtain ⟨k1,k2⟩:=hsub z hz
    have:=h.sub z k1
    rw [h1] at this
    rw [h3]
    simp only [List.mem_append,List.mem_cons] at this ⊢
    rcases this with h | rfl | h
    · exact .inl h
    · exact absurd rfl k2
    · exact .inr (.inr h)
  · 
    have hv:=h.val
    apply List.ext_getElem?
    intro i
    have hi:=congrArg (·[i]?) hv
    simp only [List.getElem?_map] at hi ⊢
    have hyi:st[A2.length]?=some y:=by rw [h1];simp
    have hset:(setE st y.key (subS y.sv j y.ws.length 3) (y.ws.drop j))[i]?=if i=A2.length then some ⟨y.key,subS y.sv j y.ws.length 3,y.ws.drop j⟩ else st[i]?:=by
      rw [h3,h1]
      by_cases e:i=A2.length
      · subst e;simp
      · rw [if_neg e]
        rcases Nat.lt_or_ge i A2.length with hlt | hge
        · rw [List.getElem?_append_left hlt,List.getElem?_append_left hlt]
        · rw [List.getElem?_append_right hge,List.getElem?_append_right hge]
          obtain ⟨q,hq⟩:∃ q,i - A2.length=q+1:=⟨i - A2.length - 1,by omega⟩
          rw [hq];simp
    rw [hset]
    by_cases e:i=A2.length
    · subst e
      rw [if_pos rfl]
      rw [hyi] at hi
      cases hE:es[A2.length]? with
      | none=>rw [hE] at hi;simp at hi
      | some e0=>
        rw [hE] at hi
        simp only [Option.map_some,Option.some.injEq,stE,Prod.mk.injEq] at hi ⊢
        obtain ⟨hi1,hi2⟩:=hi
        rw [← hi1] at hi2 ⊢
        rw [if_pos (by rw [hl];simp)] at hi2
        rw [if_neg hno,← hi2,hj]
        exact ⟨rfl,rfl⟩
    · rw [if_neg e]
      rw [hi]
      cases hE:es[i]? with
      | none=>rfl
      | some e0=>
        simp only [Option.map_some,Option.some.injEq,Prod.mk.injEq,true_and]
        have hne:e0.key≠y.key:=fun ek=>by
          have hlt:=Yf' hE
          have k1:(es.map (·.key))[i]?=some y.key:=by rw [List.getElem?_map,hE];simp [ek]
          have k2:(es.map (·.key))[A2.length]?=some y.key:=by rw [← h.keys,List.getElem?_map,hyi];rfl
          have hnd:(es.map (·.key)).Nodup:=h.keys ▸ h.nodup
          exact e ((List.getElem?_inj (i:=i) (by simpa using hlt) hnd).1 (k1.trans k2.symm))
        have hiff:e0.key ∈ left.map (·.key)↔e0.key ∈ (A++B).map (·.key):=by
          rw [hl]
          simp only [List.map_append,List.map_cons,List.mem_append,List.mem_cons]
          constructor
          · rintro (h | h | h)
            · exact .inl h
            · exact absurd h hne
            · exact .inr h
          · rintro (h | h)
            · exact .inl h
            · exact .inr (.inr h)
        simp only [hiff]
theorem ZgV_ {c:ChgM} (h:ZR' c=true):Yz' c.key=true:=by unfold ZR' at h;simp at h;exact h.1
theorem Zk9_ {c:ChgM} (h:ZR' c=true) (g:c.gone=true):c.val=0:=by unfold ZR' at h;simp [g] at h;exact h.2
section
variable {P : Program} {g : World} {Γ : Env} {L M : List HP} {dst : Option Tmp} {t : TypeId} {pos : String} {aft : Array Edge} {gd : Option (Nat × Bool)}
theorem ZeH_ {A:HP} {m:Value} {d:TypeDesc} {kt:TypeId} {es:List (EntV ByteArray WasM)} {x i:Operand} {T e:TypeId} {k:ByteArray} (ht:P.underlying T=some (.map kt e)) (hk:KeyOk P kt d eStr) (hz:(P.info? e).bind (·.zero)=some (.slice none 0 0)) (hA:RdM A eStr m (es.map kvE)) (hx:ev Γ x=some m:=by rfl) (hi:ev Γ i=some (.string k):=by rfl) (hp:Pick L A M:=by repeat first | exact .z | apply Pick.s) :
    EO P g ⟨dst,.lookup T x i false,t,pos,aft,gd⟩ Γ L (svE es k).v:=Zbs_ es k ▸ VP' ht hk hz hA hx hi hp
end
end Go.SL
namespace Go.SL
open Go
abbrev Zmw_:=List (List ChgM)
def getR (l:List RowM) (k:ByteArray):Option UInt32:=(l.find? fun r=>decide (r.key=k)).map (·.val)
theorem Qr' {l:List RowM} (h:ZC' l) {r:RowM}:r ∈ l↔getR l r.key=some r.val:=by
 unfold getR
 constructor
 ·intro hr
  cases hf:l.find? fun x=>decide (x.key=r.key) with
  | none=>have:=List.find?_eq_none.1 hf r hr;simp at this
  | some x=>
   have h1:=List.find?_some hf
   have h2:=List.mem_of_find?_eq_some hf
   rw [ZhO_ h h2 hr (by simpa using h1)];rfl
 ·intro hg
  rw [Option.map_eq_some_iff] at hg
  obtain ⟨x,hx,hv⟩:=hg
  have h1:=List.find?_some hx
  have h2:=List.mem_of_find?_eq_some hx
  have:x=r:=by cases x;cases r;simp at h1 hv;simp [h1,hv]
  exact this ▸ h2
theorem ZeI_ {a b:List RowM} (ha:ZC' a) (hb:ZC' b) (h:∀ k,getR a k=getR b k):a=b:=Uy' ha hb fun r=>by rw [Qr' ha,Qr' hb,h]
theorem ZeJ_ {l:List RowM} {k:ByteArray} {v:UInt32} (h:getR l k=some v):(⟨k,v⟩:RowM) ∈ l:=by
 unfold getR at h
 rw [Option.map_eq_some_iff] at h
 obtain ⟨x,hx,hv⟩:=h
 have h1:=List.find?_some hx
 have h2:=List.mem_of_find?_eq_some hx
 have:x=⟨k,v⟩:=by cases x;simp at h1 hv;simp [h1,hv]
 exact this ▸ h2
theorem Zla_ {l:List RowM} (h:ZC' l) (k:ByteArray) (o:Option UInt32) (hk:∀ v,(⟨k,v⟩:RowM) ∈ l↔o=some v):getR l k=o:=by
 cases e:getR l k with
 | some v=>exact ((hk v).1 (ZeJ_ e)).symm
 | none=>
  cases o with
  | none=>rfl
  | some v=>have:=(Qr' h).1 ((hk v).2 rfl);rw [e] at this;cases this
theorem Vc' {l:List RowM} (h:ZC' l) (c:ChgM) (k:ByteArray):getR (XL' l c) k=if k=c.key then (if c.gone then none else some c.val) else getR l k:=by
 refine Zla_ (JP' h c).1 k _ fun v=>?_
 rw [K9' h]
 by_cases e:k=c.key
 ·rw [if_pos e]
  cases hg:c.gone with
  | true=>simp [e]
  | false=>
   simp only [Bool.false_eq_true,if_false,Option.some.injEq]
   constructor
   ·rintro (⟨_,h2⟩ | ⟨_,h2⟩)
    ·cases h2;rfl
    ·exact absurd e h2
   ·rintro rfl;exact .inl ⟨trivial,by rw [e]⟩
 ·rw [if_neg e]
  constructor
  ·rintro (⟨_,h2⟩ | ⟨h1,_⟩)
   ·cases h2;exact absurd rfl e
   ·exact (Qr' h).1 h1
  ·intro hv;exact .inr ⟨ZeJ_ hv,e⟩
def ZJ' (H:List (List ChgM)) (n:Nat):List RowM:=Zw' [] (H.take n).flatten
theorem YP' (H:List (List ChgM)) (n:Nat):ZC' (ZJ' H n):=(ZS' _ List.Pairwise.nil).1
theorem QH' (V:List RowM) (a b:List ChgM):Zw' V (a++b)=Zw' (Zw' V a) b:=by simp [Zw']
theorem VS' {H:List (List ChgM)} {n:Nat} (h:n≤H.length) (cs:List ChgM):ZJ' (H++[cs]) n=ZJ' H n:=by
 unfold ZJ';rw [List.take_append_of_le_length h]
theorem Zds_ (H:List (List ChgM)) (cs:List ChgM):ZJ' (H++[cs]) (H.length+1)=Zw' (ZJ' H H.length) cs:=by
 unfold ZJ'
 rw [List.take_of_length_le (by simp),List.take_of_length_le (Nat.le_refl _),List.flatten_append,QH'];simp
theorem VT' (H:List (List ChgM)) (n:Nat):(ZJ' H n).length≤H.flatten.length:=by
 have h1:=(ZS' (H.take n).flatten (l:=[]) List.Pairwise.nil).2
 have h2:(H.take n).flatten.length≤H.flatten.length:=by
  conv=>rhs;rw [← List.take_append_drop n H,List.flatten_append,List.length_append]
  omega
 unfold ZJ'
 rw [List.length_nil] at h1;omega
def valP (l:PS) (k:ByteArray) (n:UInt32):Option UInt32:=match getS l k with
 | some ws=>valW ws n
 | none=>none
def ZeK_ (H:List (List ChgM)) (k:ByteArray) (a:UInt32):Prop:=
 (∃ cs,1≤a.toNat∧H[a.toNat - 1]?=some cs∧∃ c ∈ cs,c.key=k)∧∀ j cs,a.toNat≤j→H[j]?=some cs→∀ c ∈ cs,c.key≠k
structure PastOk (l:PS) (now trim:UInt32) (H:List (List ChgM)):Prop where
 nowH:now.toNat=H.length
 trimH:trim≤now
 nodup:(l.map (·.1)).Nodup
 ne:∀ p ∈ l,p.2≠[]
 keys:∀ p ∈ l,Yz' p.1=true
 le:∀ p ∈ l,∀ w ∈ p.2,w.at_≤now
 val:∀ k n,trim≤n→n≤now→valP l k n=getR (ZJ' H n.toNat) k
 last:∀ p ∈ l,ZeK_ H p.1 (YX' p.2)
 sure:∀ cs ∈ H,∀ c ∈ cs,(getS l c.key).isSome=true
 size:l.length≤H.flatten.length
 lens:∀ p ∈ l,p.2.length≤H.length
theorem PastOk.now_eq {l:PS} {now trim:UInt32} {H:List (List ChgM)} (h:PastOk l now trim H):now=UInt32.ofNat H.length:=by rw [← h.nowH,UInt32.ofNat_toNat]
theorem Zlb_ (ws:List WasM) (w:WasM):YX' (ws++[w])=w.at_:=by simp [YX']
theorem Zcc_ (ws:List WasM) (n:UInt32) (c:ChgM):YX' (YU' ws n c)=n:=by unfold YU';rw [Zlb_]
theorem Zlc_ (ws:List WasM) (n:UInt32) (c:ChgM):YU' ws n c≠[]:=by unfold YU';simp
theorem Zam_ (ws:List WasM) (w:WasM) (n:UInt32):YT' (ws++[w]) n=if w.at_≤n then (w.val,!w.gone) else YT' ws n:=by
 unfold YT'
 rw [List.reverse_append,List.reverse_singleton,List.singleton_append,List.find?_cons]
 by_cases h:w.at_≤n <;> simp [h]
theorem ZhU_ {ws:List WasM} (h:ws≠[]):∃ w,ws=ws.dropLast++[w]∧YX' ws=w.at_:=by
 refine ⟨ws.getLast h,(List.dropLast_concat_getLast h).symm,?_⟩
 unfold YX'
 rw [List.getLast?_eq_some_getLast h];rfl
theorem Zjn_ (ws:List WasM) {n m:UInt32} (h:m < n) (c:ChgM):valW (YU' ws n c) m=valW ws m:=by
 have hn:¬ n≤m:=fun e=>UInt32.lt_irrefl _ (UInt32.lt_of_lt_of_le h e)
 have e:YT' (YU' ws n c) m=YT' ws m:=by
  unfold YU'
  rw [Zam_]
  simp only [hn,if_false]
  split
  ·rename_i hc
   obtain ⟨w,h1,h2⟩:=ZhU_ hc.1
   conv=>rhs;rw [h1]
   rw [Zam_,← h2,hc.2,if_neg hn]
  ·rfl
 unfold valW;rw [e]
theorem Zjo_ (ws:List WasM) (n:UInt32) (c:ChgM):valW (YU' ws n c) n=if c.gone then none else some c.val:=by
 have e:YT' (YU' ws n c) n=(c.val,!c.gone):=by
  unfold YU'
  rw [Zam_];simp
 unfold valW;rw [e]
 cases c.gone <;> simp
theorem Zjp_ {ws:List WasM} {n:UInt32} {c:ChgM} {w:WasM} (h:w ∈ YU' ws n c):w ∈ ws∨w.at_=n:=by
 unfold YU' at h
 rcases List.mem_append.1 h with h | h
 ·split at h
  ·exact .inl (List.dropLast_subset _ h)
  ·exact .inl h
 ·simp at h;subst h;exact .inr rfl
theorem ZhV_ {ws:List WasM} {n m:UInt32} (hn:∀ w ∈ ws,w.at_≤n) (hm:∀ w ∈ ws,w.at_≤m):YT' ws n=YT' ws m:=by
 unfold YT'
 cases h:ws.reverse with
 | nil=>rfl
 | cons w l=>
  have hw:w ∈ ws:=by rw [← List.mem_reverse,h];simp
  simp [List.find?_cons,hn w hw,hm w hw]
structure MidOk (l:PS) (now trim:UInt32) (H:List (List ChgM)) (pre:List ChgM):Prop where
 nodup:(l.map (·.1)).Nodup
 ne:∀ p ∈ l,p.2≠[]
 keys:∀ p ∈ l,Yz' p.1=true
 le:∀ p ∈ l,∀ w ∈ p.2,w.at_≤now+1
 val:∀ k n,trim≤n→n≤now→valP l k n=getR (ZJ' H n.toNat) k
 new:∀ k,valP l k (now+1)=getR (Zw' (ZJ' H H.length) pre) k
 last:∀ p ∈ l,(YX' p.2=now+1∧∃ c ∈ pre,c.key=p.1)∨(ZeK_ H p.1 (YX' p.2)∧∀ c ∈ pre,c.key≠p.1)
 sure:∀ cs ∈ H,∀ c ∈ cs,(getS l c.key).isSome=true
 pres:∀ c ∈ pre,(getS l c.key).isSome=true
 size:l.length≤H.flatten.length+pre.length
 lens:∀ p ∈ l,p.2.length≤H.length∨(YX' p.2=now+1∧p.2.length≤H.length+1)
theorem Zld_ (l:PS) (k:ByteArray) (ws:List WasM):(setS l k ws).length≤l.length+1:=by
 unfold setS;split <;> simp
theorem PastOk.start {l:PS} {now trim:UInt32} {H:List (List ChgM)} (h:PastOk l now trim H) (hb:H.length < 4294967295):MidOk l now trim H []:=by
 have hlt:now≤now+1:=by rw [UInt32.le_iff_toNat_le,UInt32.toNat_add,h.nowH];simp;omega
 refine ⟨h.nodup,h.ne,h.keys,fun p hp w hw=>UInt32.le_trans (h.le p hp w hw) hlt,h.val,fun k=>?_,fun p hp=>.inr ⟨h.last p hp,by simp⟩,h.sure,by simp,h.size,fun p hp=>.inl (h.lens p hp)⟩
 have h1:=h.val k now h.trimH (UInt32.le_refl _)
 rw [h.nowH] at h1
 show valP l k (now+1)=getR (ZJ' H H.length) k
 rw [← h1]
 unfold valP
 cases hg:getS l k with
 | none=>rfl
 | some ws=>
  have hm:=Jc' hg
  have:YT' ws (now+1)=YT' ws now:=ZhV_ (fun w hw=>UInt32.le_trans (h.le _ hm w hw) hlt) (fun w hw=>h.le _ hm w hw)
  simp only [valW,this]
theorem MidOk.step {l:PS} {now trim:UInt32} {H:List (List ChgM)} {pre:List ChgM} (h:MidOk l now trim H pre) (hnow:now.toNat=H.length) (hb:H.length < 4294967295) (c:ChgM) (hc:Yz' c.key=true):MidOk (putS l (now+1) c) now trim H (pre++[c]):=by
 have hlt:now < now+1:=by rw [UInt32.lt_iff_toNat_lt,UInt32.toNat_add,hnow];simp;omega
 have hmem:∀ p ∈ putS l (now+1) c,(p.1=c.key∧p.2=YU' ((getS l c.key).getD []) (now+1) c)∨(p.1≠c.key∧p ∈ l):=fun p hp=>by
  have h1:=Zbt_ (UA' h.nodup c.key (YU' ((getS l c.key).getD []) (now+1) c)) hp
  rw [KO'] at h1
  by_cases e:p.1=c.key
  ·rw [if_pos e] at h1;exact .inl ⟨e,(Option.some.inj h1).symm⟩
  ·rw [if_neg e] at h1;exact .inr ⟨e,Jc' h1⟩
 have hv:∀ k n,valP (putS l (now+1) c) k n=if k=c.key then valW (YU' ((getS l c.key).getD []) (now+1) c) n else valP l k n:=fun k n=>by
  unfold valP putS
  rw [KO']
  by_cases e:k=c.key <;> simp [e]
 refine ⟨UA' h.nodup _ _,fun p hp=>?_,fun p hp=>?_,fun p hp w hw=>?_,fun k n h1 h2=>?_,fun k=>?_,fun p hp=>?_,fun cs hcs c' hc'=>?_,fun c' hc'=>?_,?_,fun p hp=>?_⟩
 ·rcases hmem p hp with ⟨_,h2⟩ | ⟨_,h2⟩
  ·rw [h2];exact Zlc_ _ _ _
  ·exact h.ne p h2
 ·rcases hmem p hp with ⟨h1,_⟩ | ⟨_,h2⟩
  ·rw [h1];exact hc
  ·exact h.keys p h2
 ·rcases hmem p hp with ⟨_,h2⟩ | ⟨_,h2⟩
  ·rw [h2] at hw
   rcases Zjp_ hw with hw | hw
   ·cases hg:getS l c.key with
    | none=>rw [hg] at hw;simp at hw
    | some ws=>rw [hg] at hw;exact h.le _ (Jc' hg) w hw
   ·rw [hw];exact UInt32.le_refl _
  ·exact h.le p h2 w hw
 ·rw [hv]
  by_cases e:k=c.key
  ·rw [if_pos e,Zjn_ _ (UInt32.lt_of_le_of_lt h2 hlt),← h.val k n h1 h2,e]
   unfold valP
   cases getS l c.key <;> rfl
  ·rw [if_neg e];exact h.val k n h1 h2
 ·rw [hv,XZ',Vc' (ZS' pre (YP' H _)).1,Zjo_,h.new]
 ·rcases hmem p hp with ⟨h1,h2⟩ | ⟨h1,h2⟩
  ·left
   rw [h2]
   exact ⟨Zcc_ _ _ _,c,by simp,h1.symm⟩
  ·rcases h.last p h2 with ⟨a,c',b1,b2⟩ | ⟨a,b⟩
   ·exact .inl ⟨a,c',by simp [b1],b2⟩
   ·refine .inr ⟨a,fun c' hc'=>?_⟩
    rcases List.mem_append.1 hc' with hc' | hc'
    ·exact b c' hc'
    ·simp at hc';subst hc';exact fun e=>h1 e.symm
 ·unfold putS;rw [KO'];split
  ·rfl
  ·exact h.sure cs hcs c' hc'
 ·unfold putS;rw [KO'];split
  ·rfl
  ·rcases List.mem_append.1 hc' with hc' | hc'
   ·exact h.pres c' hc'
   ·simp at hc';subst hc';rename_i hne;exact absurd rfl hne
 ·have:=Zld_ l c.key (YU' ((getS l c.key).getD []) (now+1) c)
  have:=h.size
  unfold putS;rw [List.length_append,List.length_singleton];omega
 ·rcases hmem p hp with ⟨_,h2⟩ | ⟨_,h2⟩
  ·right
   rw [h2]
   refine ⟨Zcc_ _ _ _,?_⟩
   have hw:((getS l c.key).getD []).length≤H.length∨(YX' ((getS l c.key).getD [])=now+1∧((getS l c.key).getD []).length≤H.length+1):=by
    cases hg:getS l c.key with
    | none=>left;simp
    | some ws=>exact h.lens _ (Jc' hg)
   unfold YU'
   rw [List.length_append,List.length_singleton]
   split
   ·rename_i hc'
    rw [List.length_dropLast]
    have:=List.length_pos_iff.2 hc'.1
    rcases hw with hw | ⟨_,hw⟩ <;> omega
   ·rename_i hc'
    rcases hw with hw | ⟨hl,hw⟩
    ·omega
    ·have:(getS l c.key).getD []=[]:=by
      cases e:(getS l c.key).getD [] with
      | nil=>rfl
      | cons a b=>exact absurd ⟨by rw [e];simp,hl⟩ hc'
     rw [this];simp
  ·exact h.lens p h2
theorem MidOk.done {l l0:PS} {now trim:UInt32} {H:List (List ChgM)} (h:PastOk l0 now trim H) (hb:H.length < 4294967295) {cs:List ChgM} (hm:MidOk l now trim H cs):PastOk l (now+1) trim (H++[cs]):=by
 have hn1:(now+1).toNat=H.length+1:=by rw [UInt32.toNat_add,h.nowH];simp;omega
 have hlt:now < now+1:=by rw [UInt32.lt_iff_toNat_lt,hn1,h.nowH];omega
 refine ⟨by rw [hn1];simp,UInt32.le_trans h.trimH (UInt32.le_of_lt hlt),hm.nodup,hm.ne,hm.keys,hm.le,fun k n h1 h2=>?_,fun p hp=>?_,fun cs' hcs c' hc'=>?_,by have:=hm.size;rw [List.flatten_append,List.length_append,List.flatten_singleton];exact this,fun p hp=>by have:=hm.lens p hp;rw [List.length_append,List.length_singleton];omega⟩
 ·by_cases e:n=now+1
  ·subst e;rw [hm.new,hn1,Zds_]
  ·have hle:n≤now:=by
    rw [UInt32.le_iff_toNat_le] at h2 ⊢
    have:n.toNat≠(now+1).toNat:=fun h3=>e (UInt32.toNat_inj.1 h3)
    rw [hn1] at this h2;rw [h.nowH];omega
   rw [hm.val k n h1 hle,VS']
   rw [UInt32.le_iff_toNat_le,h.nowH] at hle;exact hle
 ·rcases hm.last p hp with ⟨h1,c,h2,h3⟩ | ⟨⟨⟨cs',h1,h2,h3⟩,h4⟩,h5⟩
  ·rw [h1]
   refine ⟨⟨cs,by omega,by rw [hn1];simp,c,h2,h3⟩,fun j cs' hj hcs=>?_⟩
   rw [hn1] at hj
   rw [List.getElem?_eq_none (by simp;omega)] at hcs;cases hcs
  ·refine ⟨⟨cs',h1,?_,h3⟩,fun j cs'' hj hcs=>?_⟩
   ·rw [List.getElem?_append_left (Yf' h2)];exact h2
   ·rcases Nat.lt_or_ge j H.length with hjl | hjl
    ·rw [List.getElem?_append_left hjl] at hcs;exact h4 j cs'' hj hcs
    ·rw [List.getElem?_append_right hjl] at hcs
     have:cs''=cs:=by
      cases hd:j - H.length with
      | zero=>rw [hd] at hcs;simpa using hcs.symm
      | succ q=>rw [hd] at hcs;simp at hcs
     subst this;exact h5
 ·rcases List.mem_append.1 hcs with hcs | hcs
  ·exact hm.sure cs' hcs c' hc'
  ·simp at hcs;subst hcs;exact hm.pres c' hc'
theorem UB' (ws:List WasM) (n:UInt32):∀ i,JZ' ws n i≤i∧(JZ' ws n i=0∨∃ w,ws[JZ' ws n i]?=some w∧w.at_≤n)
 | 0=>⟨Nat.le_refl _,.inl rfl⟩
 | i+1=>by
  have ih:=UB' ws n i
  unfold JZ'
  cases e:ws[i+1]? with
  | none=>exact ⟨Nat.zero_le _,.inl rfl⟩
  | some w=>
   simp only
   split
   ·exact ⟨by omega,ih.2⟩
   ·rename_i h;exact ⟨Nat.le_refl _,.inr ⟨w,e,UInt32.not_lt.1 h⟩⟩
theorem ZhW_ {ws:List WasM} {i:Nat} {w:WasM} {n:UInt32} (h:ws[i]?=some w) (hw:w.at_≤n):YT' (ws.drop i) n=YT' ws n:=by
 have hlt:=Yf' h
 have e:ws.drop i=w::ws.drop (i+1):=by
  rw [List.drop_eq_getElem_cons hlt];rw [List.getElem?_eq_getElem hlt] at h;cases h;rfl
 have e2:ws.reverse=(ws.drop i).reverse++(ws.take i).reverse:=by rw [← List.reverse_append,List.take_append_drop]
 unfold YT'
 rw [e2,List.find?_append]
 cases hf:(ws.drop i).reverse.find? fun w=>decide (w.at_≤n) with
 | some x=>rfl
 | none=>
  have:=List.find?_eq_none.1 hf w (by rw [List.mem_reverse,e];simp)
  simp [hw] at this
theorem Zjq_ (ws:List WasM) {n m:UInt32} (h:n≤m):valW (XH' ws n) m=valW ws m:=by
 unfold XH'
 rcases (UB' ws n (ws.length - 1)).2 with h0 | ⟨w,h1,h2⟩
 ·rw [h0,List.drop_zero]
 ·unfold valW;rw [ZhW_ h1 (UInt32.le_trans h2 h)]
theorem ZeL_ {ws:List WasM} (h:ws≠[]) (n:UInt32):XH' ws n≠[]∧YX' (XH' ws n)=YX' ws:=by
 have h1:=(UB' ws n (ws.length - 1)).1
 have h2:0 < ws.length:=List.length_pos_iff.2 h
 have h3:XH' ws n≠[]:=by
  unfold XH';intro e;have:=congrArg List.length e;rw [List.length_drop] at this;simp at this;omega
 refine ⟨h3,?_⟩
 unfold YX' XH'
 rw [List.getLast?_drop,if_neg (by omega)]
theorem ZeM_ (l:PS) (f:List WasM→List WasM) (k:ByteArray):getS (l.map fun p=>(p.1,f p.2)) k=(getS l k).map f:=by
 unfold getS
 induction l with
 | nil=>rfl
 | cons x l ih=>
  simp only [List.map_cons,List.find?_cons]
  by_cases h:x.1=k
  ·simp [h]
  ·simp only [h,decide_false];exact ih
theorem PastOk.trimmed {l:PS} {now trim:UInt32} {H:List (List ChgM)} (h:PastOk l now trim H) {n:UInt32} (h1:trim≤n) (h2:n≤now):PastOk (l.map fun p=>(p.1,XH' p.2 n)) now n H:=by
 have hm:∀ p ∈ l.map (fun p=>(p.1,XH' p.2 n)),∃ q ∈ l,p=(q.1,XH' q.2 n):=fun p hp=>by
  obtain ⟨q,hq,rfl⟩:=List.mem_map.1 hp;exact ⟨q,hq,rfl⟩
 refine ⟨h.nowH,h2,by rw [List.map_map];exact h.nodup,fun p hp=>?_,fun p hp=>?_,fun p hp w hw=>?_,fun k m h3 h4=>?_,fun p hp=>?_,fun cs hcs c hc=>?_,?_,fun p hp=>?_⟩
 ·obtain ⟨q,hq,rfl⟩:=hm p hp;exact (ZeL_ (h.ne q hq) n).1
 ·obtain ⟨q,hq,rfl⟩:=hm p hp;exact h.keys q hq
 ·obtain ⟨q,hq,rfl⟩:=hm p hp;exact h.le q hq w (List.mem_of_mem_drop hw)
 ·rw [← h.val k m (UInt32.le_trans h1 h3) h4]
  unfold valP
  rw [ZeM_ l (fun ws=>XH' ws n) k]
  cases getS l k with
  | none=>rfl
  | some ws=>exact Zjq_ ws h3
 ·obtain ⟨q,hq,rfl⟩:=hm p hp
  show ZeK_ H q.1 (YX' (XH' q.2 n))
  rw [(ZeL_ (h.ne q hq) n).2];exact h.last q hq
 ·rw [ZeM_ l (fun ws=>XH' ws n),Option.isSome_map];exact h.sure cs hcs c hc
 ·rw [List.length_map];exact h.size
 ·obtain ⟨q,hq,rfl⟩:=hm p hp
  have:=h.lens q hq
  show (XH' q.2 n).length≤_
  unfold XH';rw [List.length_drop];omega
theorem Zan_ (n:UInt32):∀ (l:PS) {r:List RowM},ZC' r→ZC' (l.foldl (KH' n) r)
 | [],_,h=>h
 | p::l,r,h=>by
  rw [List.foldl_cons]
  apply Zan_ n l
  unfold KH'
  split
  ·exact (XT' h _ _).1
  ·exact h
theorem Q0' (n:UInt32) (k:ByteArray):∀ (l:PS) {r:List RowM},(l.map (·.1)).Nodup→ZC' r→getR (l.foldl (KH' n) r) k=(valP l k n).or (getR r k)
 | [],_,_,_=>rfl
 | p::l,r,hn,h=>by
  rw [List.foldl_cons]
  rw [List.map_cons] at hn
  obtain ⟨hn1,hn2⟩:=List.nodup_cons.1 hn
  have hset:∀ v,getR (setR r p.1 v) k=if k=p.1 then some v else getR r k:=fun v=>by
   have:=Vc' h ⟨p.1,v,false⟩ k
   simpa [XL'] using this
  have hP:valP (p::l) k n=if p.1=k then valW p.2 n else valP l k n:=by
   unfold valP getS
   rw [List.find?_cons]
   by_cases e:p.1=k <;> simp [e]
  rw [hP]
  by_cases e:p.1=k
  ·rw [if_pos e]
   have hno:valP l k n=none:=by
    unfold valP
    cases hg:getS l k with
    | none=>rfl
    | some ws=>exact absurd (List.mem_map.2 ⟨_,Jc' hg,rfl⟩) (e ▸ hn1)
   cases hv:valW p.2 n with
   | none=>rw [show KH' n r p=r by unfold KH';rw [hv],Q0' n k l hn2 h,hno]
   | some v=>rw [show KH' n r p=setR r p.1 v by unfold KH';rw [hv],Q0' n k l hn2 (XT' h _ _).1,hno,hset,if_pos e.symm];rfl
  ·rw [if_neg e]
   cases hv:valW p.2 n with
   | none=>rw [show KH' n r p=r by unfold KH';rw [hv],Q0' n k l hn2 h]
   | some v=>
    rw [show KH' n r p=setR r p.1 v by unfold KH';rw [hv],Q0' n k l hn2 (XT' h _ _).1,hset,if_neg (fun h=>e h.symm)]
theorem ZeN_ (l:PS) (n:UInt32):ZC' (ZhP_ l n):=Zan_ n l List.Pairwise.nil
theorem PastOk.rows {l:PS} {now trim:UInt32} {H:List (List ChgM)} (h:PastOk l now trim H) {n:UInt32} (h1:trim≤n) (h2:n≤now):ZhP_ l n=ZJ' H n.toNat:=by
 refine ZeI_ (ZeN_ l n) (YP' H _) fun k=>?_
 rw [← h.val k n h1 h2]
 unfold ZhP_
 rw [Q0' n k l h.nodup List.Pairwise.nil]
 cases valP l k n <;> rfl
def JQ' (H:List (List ChgM)) (n:Nat) (s:SpanM):Bool:=(H.drop n).any fun cs=>cs.any fun c=>ZW' s c.key
theorem PastOk.since {l:PS} {now trim:UInt32} {H:List (List ChgM)} (h:PastOk l now trim H) (n:UInt32) (s:SpanM):Vx' l n s=JQ' H n.toNat s:=by
 rw [Bool.eq_iff_iff]
 unfold Vx' JQ'
 simp only [List.any_eq_true,Bool.and_eq_true,decide_eq_true_eq,Uz']
 constructor
 ·rintro ⟨p,hp,h1,h2⟩
  obtain ⟨⟨cs,a1,a2,c,a3,a4⟩,_⟩:=h.last p hp
  refine ⟨cs,?_,c,a3,by rw [a4];exact h2⟩
  rw [UInt32.lt_iff_toNat_lt] at h1
  exact List.mem_iff_getElem?.2 ⟨(YX' p.2).toNat - 1 - n.toNat,by rw [List.getElem?_drop,← a2];congr 1;omega⟩
 ·rintro ⟨cs,hcs,c,hc,h2⟩
  obtain ⟨j,hj⟩:=List.mem_iff_getElem?.1 hcs
  rw [List.getElem?_drop] at hj
  have hs:=h.sure cs (List.mem_of_getElem? hj) c hc
  cases hg:getS l c.key with
  | none=>rw [hg] at hs;cases hs
  | some ws=>
   have hm:=Jc' hg
   refine ⟨_,hm,?_,h2⟩
   rw [UInt32.lt_iff_toNat_lt]
   rcases Nat.lt_or_ge n.toNat (YX' ws).toNat with h3 | h3
   ·exact h3
   ·exact absurd rfl ((h.last _ hm).2 (n.toNat+j) cs (by show (YX' ws).toNat≤_;omega) hj c hc)
theorem PastOk.init:PastOk [] 0 0 []:=⟨rfl,UInt32.le_refl _,List.nodup_nil,by simp,by simp,by simp,fun k n _ _=>by simp [valP,getS,ZJ',Zw',getR],by simp,by simp,by simp,by simp⟩
structure ScanI (l:PS) (n:UInt32) (left:List ByteArray) (rows:List RowM):Prop where
 rising:ZC' rows
 nodup:left.Nodup
 val:∀ k,getR rows k=if k ∈ left then none else valP l k n
theorem ScanI.first {l:PS} {left:List ByteArray} (h:left=l.map (·.1)) (hn:(l.map (·.1)).Nodup) (n:UInt32):ScanI l n left []:=by
 refine ⟨List.Pairwise.nil,h ▸ hn,fun k=>?_⟩
 split
 ·rfl
 ·rename_i hk
  unfold valP
  cases hg:getS l k with
  | none=>rfl
  | some ws=>exact absurd (h ▸ List.mem_map.2 ⟨_,Jc' hg,rfl⟩) hk
theorem Zle_ {l:List RowM} (h:ZC' l) (k:ByteArray) (v:UInt32) (j:ByteArray):getR (setR l k v) j=if j=k then some v else getR l j:=by
 have:=Vc' h ⟨k,v,false⟩ j
 simpa [XL'] using this
theorem Zdt_ {A B:List ByteArray} {k:ByteArray} (h:(A++k::B).Nodup):(A++B).Nodup∧k ∉ A++B:=by
 obtain ⟨a1,a2,a3⟩:=List.nodup_append.1 h
 obtain ⟨b1,b2⟩:=List.nodup_cons.1 a2
 refine ⟨List.nodup_append.2 ⟨a1,b2,fun a ha b hb=>a3 a ha b (by simp [hb])⟩,fun hm=>?_⟩
 rcases List.mem_append.1 hm with hm | hm
 ·exact a3 _ hm _ (by simp) rfl
 ·exact b1 hm
theorem ScanI.put {l:PS} {n:UInt32} {left A B:List ByteArray} {rows:List RowM} {k:ByteArray} {ws:List WasM} (h:ScanI l n left rows) (hl:left=A++k::B) (hg:getS l k=some ws) (hf:(YT' ws n).2=true):ScanI l n (A++B) (setR rows k (YT' ws n).1):=by
 obtain ⟨h1,h2⟩:=Zdt_ (hl ▸ h.nodup)
 refine ⟨(XT' h.rising _ _).1,h1,fun j=>?_⟩
 rw [Zle_ h.rising]
 by_cases e:j=k
 ·subst e
  rw [if_pos rfl,if_neg h2]
  unfold valP;rw [hg];simp [valW,hf]
 ·rw [if_neg e,h.val,hl]
  have:j ∈ A++k::B↔j ∈ A++B:=by simp [e]
  simp only [this]
theorem ScanI.skip {l:PS} {n:UInt32} {left A B:List ByteArray} {rows:List RowM} {k:ByteArray} {ws:List WasM} (h:ScanI l n left rows) (hl:left=A++k::B) (hg:getS l k=some ws) (hf:(YT' ws n).2=false):ScanI l n (A++B) rows:=by
 obtain ⟨h1,h2⟩:=Zdt_ (hl ▸ h.nodup)
 refine ⟨h.rising,h1,fun j=>?_⟩
 rw [h.val,hl]
 by_cases e:j=k
 ·subst e
  rw [if_pos (by simp),if_neg h2]
  unfold valP;rw [hg];simp [valW,hf]
 ·have:j ∈ A++k::B↔j ∈ A++B:=by simp [e]
  simp only [this]
theorem ScanI.done {l:PS} {now trim n:UInt32} {H:List (List ChgM)} {rows:List RowM} (h:ScanI l n [] rows) (hP:PastOk l now trim H) (h1:trim≤n) (h2:n≤now):rows=ZJ' H n.toNat:=by
 refine ZeI_ h.rising (YP' H _) fun k=>?_
 rw [h.val,← hP.val k n h1 h2];simp
theorem Zjr_ (es:List (EntV ByteArray WasM)) (n:UInt32) (c:ChgM) (sv:SV):(setE es c.key sv (YU' (wsE es c.key) n c)).map stE=putS (es.map stE) n c:=by
 rw [ZcT_,putS,Zah_]
theorem Zjs_ (ws:List WasM) (n:UInt32) (c:ChgM):(YU' ws n c).length≤ws.length+1:=by
 unfold YU'
 rw [List.length_append,List.length_singleton]
 split
 ·rw [List.length_dropLast];omega
 ·omega
theorem MidOk.len_le {es:List (EntV ByteArray WasM)} {now trim:UInt32} {H:List (List ChgM)} {pre:List ChgM} (h:MidOk (es.map stE) now trim H pre) (k:ByteArray):(wsE es k).length≤H.length+1:=by
 rw [Zah_]
 cases hg:getS (es.map stE) k with
 | none=>simp
 | some ws=>
  have:=h.lens _ (Jc' hg)
  simp only [Option.getD_some]
  rcases this with h | ⟨_,h⟩ <;> simp only at h <;> omega
theorem ZnX_ {ws:List WasM} {w:WasM} {n:UInt32} (h:ws[ws.length - 1]?=some w):(w.at_ == n)=decide (ws≠[]∧YX' ws=n):=by
 have hne:ws≠[]:=fun e=>by rw [e] at h;simp at h
 rw [ZeG_ h,Bool.eq_iff_iff]
 simp [hne]
end Go.SL
namespace Go.SL
open Go
structure TxU (κ σ:Type) where
  id:κ
  q:Nat
  x:σ
section
variable {κ σ : Type} [DecidableEq κ]
def Zs' (ts:List (TxU κ σ)) (n:κ):Option (TxU κ σ):=ts.find? fun t=>decide (t.id=n)
def delU (ts:List (TxU κ σ)) (n:κ):List (TxU κ σ):=ts.eraseP fun t=>decide (t.id=n)
def kvU (t:TxU κ σ):κ × Value:=(t.id,.pointer (some ⟨t.q,0,none⟩))
def setU (ts:List (TxU κ σ)) (n:κ) (x:σ):List (TxU κ σ):=ts.map fun o=>if o.id=n then { o with x:=x } else o
theorem Zbv_ (ts:List (TxU κ σ)) (n:κ):mget (ts.map kvU) n=(Zs' ts n).map fun t=>.pointer (some ⟨t.q,0,none⟩):=by
  unfold mget Zs'
  induction ts with
  | nil=>rfl
  | cons t ts ih=>
    simp only [List.map_cons,List.find?_cons,kvU]
    by_cases h:t.id=n
    · simp [h]
    · simp only [h,decide_false];exact ih
theorem KP' (ts:List (TxU κ σ)) (n:κ):mdel (ts.map kvU) n=(delU ts n).map kvU:=by
  unfold mdel midx delU
  induction ts with
  | nil=>rfl
  | cons t ts ih=>
    simp only [List.map_cons,List.findIdx?_cons,List.eraseP_cons,kvU]
    by_cases h:t.id=n
    · simp [h]
    · simp only [h,decide_false,Bool.false_eq_true,if_false,cond_false]
      cases hm:List.findIdx? (fun p:κ × Value=>decide (p.1=n)) (ts.map kvU) with
      | none=>rw [hm] at ih;simp [ih,kvU]
      | some j=>rw [hm] at ih;simp only [Option.map_some,List.eraseIdx_cons_succ,List.map_cons];rw [← ih];rfl
theorem ZeO_ (ts:List (TxU κ σ)) (t:TxU κ σ) (h:Zs' ts t.id=none):mset (ts.map kvU) t.id (.pointer (some ⟨t.q,0,none⟩))=(ts++[t]).map kvU:=by
  have h1:midx (ts.map kvU) t.id=none:=by rw [KS',Zbv_,h];rfl
  simp [mset,h1,kvU]
theorem Yc' {ts:List (TxU κ σ)} {n:κ} {t:TxU κ σ} (h:Zs' ts n=some t):t.id=n∧∃ A B,ts=A++t::B∧delU ts n=A++B∧∀ x ∈ A,x.id≠n:=by
  unfold Zs' at h
  induction ts with
  | nil=>simp at h
  | cons x ts ih=>
    rw [List.find?_cons] at h
    by_cases e:x.id=n
    · simp [e] at h;subst h
      exact ⟨e,[],ts,rfl,by simp [delU,e],by simp⟩
    · simp [e] at h
      obtain ⟨h1,A,B,h2,h3,h4⟩:=ih (by simpa using h)
      refine ⟨h1,x::A,B,by simp [h2],by simp only [delU,List.eraseP_cons,e,decide_false,cond_false,List.cons_append] at h3 ⊢;rw [h3],?_⟩
      intro y hy
      rcases List.mem_cons.1 hy with rfl | hy
      · exact e
      · exact h4 y hy
theorem ZI' {ts:List (TxU κ σ)} {n:κ} {t:TxU κ σ} (h:Zs' ts n=some t):t ∈ ts:=List.mem_of_find?_eq_some h
theorem JH' {ts:List (TxU κ σ)} {n:κ} (h:Zs' ts n=none):n ∉ ts.map (·.id):=by
  intro hm
  obtain ⟨t,ht,rfl⟩:=List.mem_map.1 hm
  have:=List.find?_eq_none.1 h t ht
  simp at this
theorem UC' {A B:List (TxU κ σ)} {t:TxU κ σ} (h:((A++t::B).map (·.id)).Nodup):∀ x ∈ A++B,x.id≠t.id:=by
  rw [List.map_append,List.map_cons] at h
  obtain ⟨h1,h2,h3⟩:=List.nodup_append.1 h
  have h4:=(List.nodup_cons.1 h2).1
  intro x hx e
  rcases List.mem_append.1 hx with hx | hx
  · exact h3 x.id (List.mem_map.2 ⟨x,hx,rfl⟩) t.id (by simp) e
  · exact h4 (e ▸ List.mem_map.2 ⟨x,hx,rfl⟩)
theorem Zlf_ {ts:List (TxU κ σ)} (hn:(ts.map (·.id)).Nodup) {t:TxU κ σ} (ht:t ∈ ts):Zs' ts t.id=some t:=by
  obtain ⟨A,B,rfl⟩:=List.append_of_mem ht
  unfold Zs'
  rw [List.find?_append,List.find?_eq_none.2 (fun x hx=>by have:=UC' hn x (by simp [hx]);simpa using this)]
  simp
theorem Z8' {ts:List (TxU κ σ)} {n:κ}:(delU ts n).Sublist ts:=List.eraseP_sublist
theorem Vy' {A B:List (TxU κ σ)} {t:TxU κ σ} (h:((A++t::B).map (·.id)).Nodup) (x:σ):setU (A++t::B) t.id x=A++{ t with x:=x }::B:=by
  have hn:=UC' h
  unfold setU
  rw [List.map_append,List.map_cons,if_pos rfl]
  have e1:∀ l:List (TxU κ σ),(∀ y ∈ l,y.id≠t.id)→l.map (fun o=>if o.id=t.id then { o with x:=x } else o)=l:=fun l hl=>by
    conv=>rhs;rw [← List.map_id l]
    apply List.map_congr_left
    intro o ho
    rw [if_neg (hl o ho)];rfl
  rw [e1 A (fun x hx=>hn x (by simp [hx])),e1 B (fun x hx=>hn x (by simp [hx]))]
theorem ZaP_ (ts:List (TxU κ σ)) (n:κ) (x:σ):(setU ts n x).map kvU=ts.map kvU:=by
  unfold setU
  rw [List.map_map]
  apply List.map_congr_left
  intro o _
  simp only [Function.comp]
  split <;> rfl
theorem Qs' (ts:List (TxU κ σ)) (n:κ) (x:σ):(setU ts n x).map (·.id)=ts.map (·.id):=by
  unfold setU
  rw [List.map_map]
  apply List.map_congr_left
  intro o _
  simp only [Function.comp]
  split <;> rfl
theorem Xg' {ts:List (TxU κ σ)} {n:κ} {x:σ} {o:TxU κ σ} (h:o ∈ setU ts n x):(∃ t ∈ ts,t.id=n∧o={ t with x:=x })∨(o ∈ ts∧o.id≠n):=by
  unfold setU at h
  obtain ⟨t,ht,rfl⟩:=List.mem_map.1 h
  by_cases e:t.id=n
  · left;exact ⟨t,ht,e,by rw [if_pos e]⟩
  · right;rw [if_neg e];exact ⟨ht,e⟩
def TxsU (TP:TxU κ σ→List HP) (ts:List (TxU κ σ)):HP:=bun (ts.map fun t=>bun (TP t))
variable {TP : TxU κ σ → List HP}
theorem Vz' {L:List HP} {S:ZN'} (h:Zo' L S):Zo' (TxsU TP []::L) S:=YB' (L:=[]) h
theorem Y5' {ts A B:List (TxU κ σ)} {t:TxU κ σ} (h:ts=A++t::B):∀ S,TxsU TP ts S→∃ _:Unit,Zo' (TP t++[TxsU TP (A++B)]) S:=fun S hS=>by
  subst h
  refine ⟨(),?_⟩
  have hS:Zo' ((A++t::B).map fun t=>bun (TP t)) S:=hS
  rw [List.map_append,List.map_cons] at hS
  have h1:=Yx' (Xe' hS)
  have h2:=Jp' h1
  refine Xj' ?_
  obtain ⟨S1,S2,a,b,c,d,e⟩:=h2
  refine ⟨S1,S2,a,b,c,d,?_⟩
  rw [TxsU,List.map_append]
  exact YB' (M:=[]) (S:=S2) (by simpa using e)
theorem Yb' {A B:List (TxU κ σ)} {t:TxU κ σ}:∀ S,Zo' (TP t++[TxsU TP (A++B)]) S→TxsU TP (A++t::B) S:=fun S hS=>by
  show Zo' ((A++t::B).map fun t=>bun (TP t)) S
  rw [List.map_append,List.map_cons]
  refine X7' (YB' (L:=TP t) ?_)
  obtain ⟨S1,S2,a,b,c,d,e⟩:=Jp' hS
  refine Xj' ⟨S1,S2,a,b,c,d,?_⟩
  rw [TxsU,List.map_append] at e
  have:=Yx' (M:=[]) e
  simpa using this
end
end Go.SL
