import Derived.Test.YtdfomffmfnpfoaaGreatDoorQA7
set_option linter.unusedSimpArgs false
set_option linter.unusedVariables false
set_option linter.unusedSectionVars false
namespace Go.SL
open Go
theorem key_split {l:List RowM} (hl:Rising l) (k:ByteArray):∃ A D,l=A++D∧A.length=lowI l k∧(∀ r ∈ A,sLt r.key k=true)∧(∀ r ∈ D,sLt r.key k=false)∧Rising A∧Rising D:=by
 refine ⟨l.takeWhile fun r=>sLt r.key k,l.dropWhile fun r=>sLt r.key k,List.takeWhile_append_dropWhile.symm,rfl,fun r hr=>?_,fun r hr=>?_,hl.sublist (List.takeWhile_sublist _),hl.sublist (List.dropWhile_sublist _)⟩
 ·have:=List.all_takeWhile (p:=fun r:RowM=>sLt r.key k) (l:=l)
  exact List.all_eq_true.1 this r hr
 ·have hd:=hl.sublist (List.dropWhile_sublist (fun r=>sLt r.key k))
  have hh:∀ x y,l.dropWhile (fun r=>sLt r.key k)=x::y→sLt x.key k=false:=fun x y e=>by
   have:=List.head_dropWhile_not (fun r:RowM=>sLt r.key k) (l:=l) (by rw [e];simp)
   simpa [e] using this
  cases e:l.dropWhile (fun r=>sLt r.key k) with
  | nil=>rw [e] at hr;cases hr
  | cons x y=>
   have hx:=hh x y e
   rw [e] at hr hd
   rcases List.mem_cons.1 hr with rfl | hr
   ·exact hx
   ·have:=(List.pairwise_cons.1 hd).1 r hr
    cases e2:sLt r.key k with
    | false=>rfl
    | true=>have:=sLt_trans this e2;rw [hx] at this;cases this
theorem key_cut {l:List RowM} (hl:Rising l) (k:ByteArray):(∃ A v D,l=A++⟨k,v⟩::D∧A.length=lowI l k∧hasI l k=true∧(∀ r ∈ A,sLt r.key k=true)∧(∀ r ∈ D,sLt k r.key=true)∧Rising A∧Rising D) ∨
  (∃ A D,l=A++D∧A.length=lowI l k∧hasI l k=false∧(∀ r ∈ A,sLt r.key k=true)∧(∀ r ∈ D,sLt k r.key=true)∧Rising A∧Rising D):=by
 obtain ⟨A,D,he,ha,h1,h2,h3,h4⟩:=key_split hl k
 have hat:l[lowI l k]?=D.head?:=by
  rw [← ha];conv=>lhs;rw [he]
  rw [List.getElem?_append_right (Nat.le_refl _),Nat.sub_self,List.head?_eq_getElem?]
 cases D with
 | nil=>
  right
  exact ⟨A,[],he,ha,by simp only [hasI,hat];rfl,h1,by simp,h3,h4⟩
 | cons x D=>
  have hp:=List.pairwise_cons.1 h4
  have hx:=h2 x (by simp)
  by_cases e:x.key=k
  ·left
   subst e
   exact ⟨A,x.val,D,he,ha,by simp [hasI,hat,sEq_iff],h1,fun r hr=>hp.1 r hr,h3,hp.2⟩
  ·right
   have hxk:sLt k x.key=true:=by
    rcases sLt_tri x.key k with h | h | h
    ·rw [hx] at h;cases h
    ·exact absurd h e
    ·exact h
   refine ⟨A,x::D,he,ha,?_,h1,fun r hr=>?_,h3,h4⟩
   ·simp only [hasI,hat,List.head?_cons]
    cases e2:sEq x.key k with
    | false=>rfl
    | true=>exact absurd (sEq_iff.1 e2) e
   ·rcases List.mem_cons.1 hr with rfl | hr
    ·exact hxk
    ·exact sLt_trans hxk (hp.1 r hr)
def setR (l:List RowM) (k:ByteArray) (v:UInt32):List RowM:=if hasI l k then l.set (lowI l k) ⟨k,v⟩ else l.take (lowI l k)++⟨k,v⟩::l.drop (lowI l k)
def dropR (l:List RowM) (k:ByteArray):List RowM:=if hasI l k then l.eraseIdx (lowI l k) else l
theorem sLt_ne {a b:ByteArray} (h:sLt a b=true):a≠b:=fun e=>by subst e;rw [sLt_irrefl] at h;cases h
theorem rising_mid {A D:List RowM} {x:RowM} (h1:∀ r ∈ A,sLt r.key x.key=true) (h2:∀ r ∈ D,sLt x.key r.key=true) (hA:Rising A) (hD:Rising D):Rising (A++x::D):=by
 refine List.pairwise_append.2 ⟨hA,List.pairwise_cons.2 ⟨h2,hD⟩,fun a ha b hb=>?_⟩
 rcases List.mem_cons.1 hb with rfl | hb
 ·exact h1 a ha
 ·exact sLt_trans (h1 a ha) (h2 b hb)
theorem rising_two {A D:List RowM} {k:ByteArray} (h1:∀ r ∈ A,sLt r.key k=true) (h2:∀ r ∈ D,sLt k r.key=true) (hA:Rising A) (hD:Rising D):Rising (A++D):=
 List.pairwise_append.2 ⟨hA,hD,fun a ha b hb=>sLt_trans (h1 a ha) (h2 b hb)⟩
theorem setR_spec {l:List RowM} (hl:Rising l) (k:ByteArray) (v:UInt32):Rising (setR l k v)∧(∀ r,r ∈ setR l k v↔r=⟨k,v⟩∨(r ∈ l∧r.key≠k))∧(setR l k v).length≤l.length+1:=by
 rcases key_cut hl k with ⟨A,u,D,he,ha,hh,h1,h2,h3,h4⟩ | ⟨A,D,he,ha,hh,h1,h2,h3,h4⟩
 ·have e:setR l k v=A++⟨k,v⟩::D:=by
   unfold setR;rw [if_pos hh,← ha];conv=>lhs;rw [he]
   simp
  rw [e]
  refine ⟨rising_mid h1 h2 h3 h4,fun r=>?_,by rw [he];simp⟩
  rw [he]
  simp only [List.mem_append,List.mem_cons]
  constructor
  ·rintro (h | rfl | h)
   ·exact .inr ⟨.inl h,sLt_ne (h1 r h)⟩
   ·exact .inl rfl
   ·exact .inr ⟨.inr (.inr h),(sLt_ne (h2 r h)).symm⟩
  ·rintro (rfl | ⟨h | rfl | h,hn⟩)
   ·exact .inr (.inl rfl)
   ·exact .inl h
   ·exact absurd rfl hn
   ·exact .inr (.inr h)
 ·have e:setR l k v=A++⟨k,v⟩::D:=by
   unfold setR;rw [if_neg (by simp [hh]),← ha];conv=>lhs;rw [he]
   simp
  rw [e]
  refine ⟨rising_mid h1 h2 h3 h4,fun r=>?_,by rw [he];simp;omega⟩
  rw [he]
  simp only [List.mem_append,List.mem_cons]
  constructor
  ·rintro (h | rfl | h)
   ·exact .inr ⟨.inl h,sLt_ne (h1 r h)⟩
   ·exact .inl rfl
   ·exact .inr ⟨.inr h,(sLt_ne (h2 r h)).symm⟩
  ·rintro (rfl | ⟨h | h,hn⟩)
   ·exact .inr (.inl rfl)
   ·exact .inl h
   ·exact .inr (.inr h)
theorem dropR_spec {l:List RowM} (hl:Rising l) (k:ByteArray):Rising (dropR l k)∧(∀ r,r ∈ dropR l k↔r ∈ l∧r.key≠k)∧(dropR l k).length≤l.length:=by
 rcases key_cut hl k with ⟨A,u,D,he,ha,hh,h1,h2,h3,h4⟩ | ⟨A,D,he,ha,hh,h1,h2,h3,h4⟩
 ·have e:dropR l k=A++D:=by
   unfold dropR;rw [if_pos hh,← ha];conv=>lhs;rw [he]
   rw [List.eraseIdx_append_of_length_le (Nat.le_refl _)];simp
  rw [e]
  refine ⟨rising_two h1 h2 h3 h4,fun r=>?_,by rw [he];simp⟩
  rw [he]
  simp only [List.mem_append,List.mem_cons]
  constructor
  ·rintro (h | h)
   ·exact ⟨.inl h,sLt_ne (h1 r h)⟩
   ·exact ⟨.inr (.inr h),(sLt_ne (h2 r h)).symm⟩
  ·rintro ⟨h | rfl | h,hn⟩
   ·exact .inl h
   ·exact absurd rfl hn
   ·exact .inr h
 ·have e:dropR l k=l:=by unfold dropR;rw [if_neg (by simp [hh])]
  rw [e]
  refine ⟨hl,fun r=>⟨fun h=>⟨h,?_⟩,fun h=>h.1⟩,Nat.le_refl _⟩
  rw [he] at h
  rcases List.mem_append.1 h with h | h
  ·exact sLt_ne (h1 r h)
  ·exact (sLt_ne (h2 r h)).symm
theorem rising_ext {a b:List RowM} (ha:Rising a) (hb:Rising b) (h:∀ r,r ∈ a↔r ∈ b):a=b:=by
 induction a generalizing b with
 | nil=>
  cases b with
  | nil=>rfl
  | cons x b=>have:=(h x).2 (by simp);cases this
 | cons x a ih=>
  have hpa:=List.pairwise_cons.1 ha
  cases b with
  | nil=>have:=(h x).1 (by simp);cases this
  | cons y b=>
   have hpb:=List.pairwise_cons.1 hb
   have exy:x=y:=by
    rcases List.mem_cons.1 ((h x).1 (by simp)) with e | hx
    ·exact e
    ·rcases List.mem_cons.1 ((h y).2 (by simp)) with e | hy
     ·exact e.symm
     ·have:=sLt_trans (hpb.1 x hx) (hpa.1 y hy)
      rw [sLt_irrefl] at this;cases this
   subst exy
   congr 1
   refine ih hpa.2 hpb.2 fun r=>?_
   constructor
   ·intro hr
    rcases List.mem_cons.1 ((h r).1 (by simp [hr])) with e | h'
    ·subst e;have:=hpa.1 r hr;rw [sLt_irrefl] at this;cases this
    ·exact h'
   ·intro hr
    rcases List.mem_cons.1 ((h r).2 (by simp [hr])) with e | h'
    ·subst e;have:=hpb.1 r hr;rw [sLt_irrefl] at this;cases this
    ·exact h'
theorem rising_one {l:List RowM} (hl:Rising l) {a b:RowM} (ha:a ∈ l) (hb:b ∈ l) (h:a.key=b.key):a=b:=by
 induction l with
 | nil=>cases ha
 | cons x l ih=>
  have hp:=List.pairwise_cons.1 hl
  rcases List.mem_cons.1 ha with e1 | h1 <;> rcases List.mem_cons.1 hb with e2 | h2
  ·rw [e1,e2]
  ·subst e1;exact absurd h (sLt_ne (hp.1 b h2))
  ·subst e2;exact absurd h.symm (sLt_ne (hp.1 a h1))
  ·exact ih hp.2 h1 h2
def applyC (l:List RowM) (c:ChgM):List RowM:=if c.gone then dropR l c.key else setR l c.key c.val
def changeR (l:List RowM) (cs:List ChgM):List RowM:=cs.foldl applyC l
theorem applyC_rising {l:List RowM} (hl:Rising l) (c:ChgM):Rising (applyC l c)∧(applyC l c).length≤l.length+1:=by
 unfold applyC;split
 ·exact ⟨(dropR_spec hl _).1,Nat.le_succ_of_le (dropR_spec hl _).2.2⟩
 ·exact ⟨(setR_spec hl _ _).1,(setR_spec hl _ _).2.2⟩
theorem changeR_rising:∀ (cs:List ChgM) {l:List RowM},Rising l→Rising (changeR l cs)∧(changeR l cs).length≤l.length+cs.length
 | [],_,h=>⟨h,Nat.le_refl _⟩
 | c::cs,l,h=>by
  have h1:=applyC_rising h c
  have h2:=changeR_rising cs h1.1
  exact ⟨h2.1,by have:=h2.2;simp only [changeR,List.foldl_cons,List.length_cons] at *;omega⟩
theorem mem_applyC {l:List RowM} (hl:Rising l) (c:ChgM) (r:RowM):r ∈ applyC l c↔(c.gone=false∧r=⟨c.key,c.val⟩)∨(r ∈ l∧r.key≠c.key):=by
 unfold applyC;split
 ·rename_i h;rw [(dropR_spec hl _).2.1];simp [h]
 ·rename_i h;rw [(setR_spec hl _ _).2.1];simp [h]
def inSpan (p:SpanM) (k:ByteArray):Bool:=sIn k p.a p.b
def scanR (l:List RowM) (p:SpanM) (most:Nat):List RowM:=(l.filter fun r=>inSpan p r.key).take most
theorem sIn_iff {k a b:ByteArray}:sIn k a b=true↔(sLt k a=false∧sLt b k=false):=by
 have hle:∀ x y:ByteArray,(sLt x y || sEq x y)=true↔sLt y x=false:=fun x y=>by
  rcases sLt_tri x y with h | h | h
  ·simp [h,sLt_asymm h]
  ·subst h;simp [sLt_irrefl,sEq_iff]
  ·simp [h,sLt_asymm h]
   cases e:sEq x y with
   | false=>rfl
   | true=>rw [sEq_iff.1 e,sLt_irrefl] at h;cases h
 unfold sIn
 rw [Bool.and_eq_true,hle,hle]
theorem sMax_iff (a b:ByteArray):sMax a b=if sLt a b then b else a:=by
 rcases sLt_tri a b with h | h | h
 ·simp [sMax,h]
 ·subst h;simp [sMax,sLt_irrefl]
 ·simp [sMax,h,sLt_asymm h]
theorem sLe_trans {a b c:ByteArray} (h:sLt b a=false) (h':sLt c b=false):sLt c a=false:=by
 cases e:sLt c a with
 | false=>rfl
 | true=>
  rcases sLt_tri b c with h1 | h1 | h1
  ·rw [sLt_trans h1 e] at h;cases h
  ·subst h1;rw [h] at e;cases e
  ·rw [h1] at h';cases h'
theorem meet_iff {a b:SpanM}:meet a b=true↔∃ k,inSpan a k=true∧inSpan b k=true:=by
 unfold meet inSpan
 rw [Bool.and_eq_true,sMax_iff]
 constructor
 ·rintro ⟨h1,h2⟩;exact ⟨_,h1,h2⟩
 ·rintro ⟨k,h1,h2⟩
  rw [sIn_iff] at h1 h2
  simp only [sIn_iff]
  split
  ·rename_i h
   exact ⟨⟨sLt_asymm h,sLe_trans h2.1 h1.2⟩,sLt_irrefl _,sLe_trans h2.1 h2.2⟩
  ·rename_i h
   simp only [Bool.not_eq_true] at h
   exact ⟨⟨sLt_irrefl _,sLe_trans h1.1 h1.2⟩,h,sLe_trans h1.1 h2.2⟩
theorem meet_one {k:ByteArray} {p:SpanM}:meet (one k) p=inSpan p k:=by
 rw [Bool.eq_iff_iff,meet_iff]
 unfold inSpan one
 constructor
 ·rintro ⟨j,h1,h2⟩
  rw [sIn_iff] at h1
  have:j=k:=by
   rcases sLt_tri j k with h | h | h
   ·rw [h1.1] at h;cases h
   ·exact h
   ·rw [h1.2] at h;cases h
  subst this;exact h2
 ·intro h;exact ⟨k,by rw [sIn_iff];exact ⟨sLt_irrefl _,sLt_irrefl _⟩,h⟩
theorem set_app {A D:List RowM} {x y:RowM} {n:Nat} (h:A.length=n):(A++x::D).set n y=A++y::D:=by subst h;simp
theorem scan_eq {l:List RowM} (hl:Rising l) (s:SpanM):(l.drop (lowI l s.a)).takeWhile (fun r=>!sLt s.b r.key)=l.filter fun r=>inSpan s r.key:=by
 obtain ⟨A,D,rfl,ha,h1,h2,h3,h4⟩:=key_split hl s.a
 rw [← ha,List.drop_left,List.filter_append]
 have e1:A.filter (fun r=>inSpan s r.key)=[]:=by
  rw [List.filter_eq_nil_iff]
  intro r hr h
  rw [inSpan,sIn_iff,h1 r hr] at h;cases h.1
 rw [e1,List.nil_append]
 clear ha e1 h1 hl h3
 induction D with
 | nil=>rfl
 | cons x D ih=>
  have hp:=List.pairwise_cons.1 h4
  have hx:=h2 x (by simp)
  rw [List.takeWhile_cons,List.filter_cons]
  cases e:sLt s.b x.key with
  | false=>
   have:inSpan s x.key=true:=by rw [inSpan,sIn_iff];exact ⟨hx,e⟩
   simp [this,ih (fun r hr=>h2 r (by simp [hr])) hp.2]
  | true=>
   have hn:inSpan s x.key=false:=by
    cases e2:inSpan s x.key with
    | false=>rfl
    | true=>rw [inSpan,sIn_iff,e] at e2;cases e2.2
   have:D.filter (fun r=>inSpan s r.key)=[]:=by
    rw [List.filter_eq_nil_iff]
    intro r hr h
    rw [inSpan,sIn_iff,sLt_trans e (hp.1 r hr)] at h;cases h.2
   simp [hn,this]
theorem meet_self {s:SpanM} {l:List RowM} (h:meet s s=false):l.filter (fun r=>inSpan s r.key)=[]:=by
 rw [List.filter_eq_nil_iff]
 intro r _ hr
 have:meet s s=true:=meet_iff.2 ⟨_,hr,hr⟩
 rw [h] at this;cases this
theorem has_at {l:List RowM} {k:ByteArray} (h:hasI l k=true):∃ u,l[lowI l k]?=some ⟨k,u⟩:=by
 unfold hasI at h
 cases e:l[lowI l k]? with
 | none=>rw [e] at h;cases h
 | some r=>rw [e] at h;have:=sEq_iff.1 h;subst this;exact ⟨r.val,rfl⟩
theorem has_lt {l:List RowM} {k:ByteArray} (h:hasI l k=true):lowI l k < l.length:=by obtain ⟨u,hu⟩:=has_at h;exact idx_lt hu
theorem changeR_snoc (l:List RowM) (cs:List ChgM) (c:ChgM):changeR l (cs++[c])=applyC (changeR l cs) c:=by simp [changeR]
theorem sgt_eq (a b:ByteArray):(!(sLt a b || sEq a b))=sLt b a:=by
 rcases sLt_tri a b with h | h | h
 ·simp [h,sLt_asymm h]
 ·subst h;simp [sLt_irrefl,sEq_iff]
 ·have:sEq a b=false:=by
   cases e:sEq a b with
   | false=>rfl
   | true=>rw [sEq_iff.1 e,sLt_irrefl] at h;cases h
  simp [h,sLt_asymm h,this]
end Go.SL
namespace Go.SL
open Go
theorem ins_cells {α:Type} {z o c:Nat} {enc:α→List Value} (he:EncOk z enc) {l:List Value} {A D:List α} {x:α} (hl:o+c * z≤l.length) (hc:(A++D).length+1≤c) (hcs:(l.drop o).take ((A++D).length * z)=(A++D).flatMap enc) :
    ((splice (splice l (o+(A.length+1) * z) (D.flatMap enc)) (o+A.length * z) (enc x)).drop o).take (((A++D).length+1) * z)=(A++x::D).flatMap enc ∧
    (splice (splice l (o+(A.length+1) * z) (D.flatMap enc)) (o+A.length * z) (enc x)).length=l.length∧(splice l (o+(A.length+1) * z) (D.flatMap enc)).length=l.length∧(l.drop (o+A.length * z)).take (D.length * z)=D.flatMap enc:=by
  have hm:((A++D).length+1) * z≤c * z:=Nat.mul_le_mul_right _ hc
  have hlP:(l.take o).length=o:=by simp;omega
  have el:l=l.take o++(A++D).flatMap enc++l.drop (o+(A++D).length * z):=by
    rw [← hcs,List.append_assoc]
    conv=>lhs;rw [← List.take_append_drop o l]
    congr 1
    rw [← List.drop_drop];exact (List.take_append_drop _ _).symm
  have hQ:(l.drop (o+(A++D).length * z)).length=l.length - (o+(A++D).length * z):=by simp
  generalize hP:l.take o=P at el hlP
  generalize l.drop (o+(A++D).length * z)=Q at el hQ
  have hfA:=flat_len he A
  have hfD:=flat_len he D
  have hfx:=he.len x
  rw [List.length_append] at hm hQ
  simp only [Nat.add_mul,Nat.one_mul] at hm hQ
  have hW:(D.flatMap enc++Q).length=D.length * z+Q.length:=by simp [hfD]
  have e1:l=(P++A.flatMap enc++(D.flatMap enc++Q).take z)++((D.flatMap enc++Q).drop z).take (D.flatMap enc).length++((D.flatMap enc++Q).drop z).drop (D.flatMap enc).length:=by
    rw [List.append_assoc _ (List.take _ (List.drop _ _)),List.take_append_drop,List.append_assoc _ (List.take z _),List.take_append_drop,el];simp
  have hU:(P++A.flatMap enc++(D.flatMap enc++Q).take z).length=o+(A.length+1) * z:=by
    simp only [List.length_append,List.length_take,hfA,hlP,hfD,Nat.add_mul,Nat.one_mul];omega
  have hV:(((D.flatMap enc++Q).drop z).take (D.flatMap enc).length).length=(D.flatMap enc).length:=by
    rw [List.length_take,List.length_drop,hW,hfD];omega
  have s1:splice l (o+(A.length+1) * z) (D.flatMap enc)=(P++A.flatMap enc++(D.flatMap enc++Q).take z)++D.flatMap enc++((D.flatMap enc++Q).drop z).drop (D.flatMap enc).length:=by
    conv=>lhs;rw [e1,← hU]
    rw [splice_mid _ _ _ _ hV.symm]
  have hU2:(P++A.flatMap enc).length=o+A.length * z:=by simp [hfA,hlP]
  have hV2:(enc x).length=((D.flatMap enc++Q).take z).length:=by rw [hfx,List.length_take,hW];omega
  have s2:splice (splice l (o+(A.length+1) * z) (D.flatMap enc)) (o+A.length * z) (enc x)=(P++A.flatMap enc)++enc x++(D.flatMap enc++((D.flatMap enc++Q).drop z).drop (D.flatMap enc).length):=by
    rw [s1,← hU2,List.append_assoc _ (D.flatMap enc),splice_mid _ _ _ _ hV2]
  have hlen:l.length=P.length+(A.length * z+D.length * z)+Q.length:=by
    conv=>lhs;rw [el]
    simp only [List.length_append,List.flatMap_append,hfA,hfD]
  have hX:(((D.flatMap enc++Q).drop z).drop (D.flatMap enc).length).length=Q.length - z:=by
    rw [List.length_drop,List.length_drop,hW,hfD];omega
  have hY:((D.flatMap enc++Q).take z).length=z:=by rw [List.length_take,hW];omega
  have hzQ:z≤Q.length:=by omega
  clear e1 hV hV2 hW
  generalize ((D.flatMap enc++Q).drop z).drop (D.flatMap enc).length=T at *
  generalize (D.flatMap enc++Q).take z=Y at *
  refine ⟨?_,?_,?_,?_⟩
  · rw [s2,show P++A.flatMap enc++enc x++(D.flatMap enc++T)=P++((A++x::D).flatMap enc++T) by simp]
    rw [← hlP,List.drop_left,show ((A++D).length+1) * z=((A++x::D).flatMap enc).length by rw [flat_len he];congr 1;simp;omega,List.take_left]
  · rw [s2,hlen];simp only [List.length_append,hX,hfA,hfD,hfx];omega
  · rw [s1,hlen];simp only [List.length_append,hX,hY,hfA,hfD];omega
  · conv=>lhs;rw [el]
    rw [List.flatMap_append,← List.append_assoc,List.append_assoc _ (D.flatMap enc),← hU2,List.drop_left,← hfD,List.take_left]
theorem over_ins {α:Type} (A D:List α) (x z0:α):over (over (A++List.replicate (D.length+1) z0) A.length [x]) (A.length+1) D=A++x::D:=by
  rw [over_eq A _ [x] A.length rfl (by simp)]
  rw [over_eq (A++[x]) _ D (A.length+1) (by simp) (by simp)]
  simp
theorem flat_setF {α:Type} {z:Nat} {enc:α→List Value} (he:EncOk z enc) {xs:List α} {j f:Nat} {a a':α} {b:Value} (hx:xs[j]?=some a) (hf:f < z) (hb:enc a'=(enc a).set f b):splice (xs.flatMap enc) (j * z+f) [b]=(xs.set j a').flatMap enc:=by
  have hj:=idx_lt hx
  have hle:(j+1) * z≤xs.length * z:=Nat.mul_le_mul_right z hj
  rw [Nat.add_mul,Nat.one_mul] at hle
  rw [← flat_set he xs j a' hj]
  apply List.ext_getElem?
  intro i
  rw [splice_get _ _ _ (by rw [flat_len he];simp;omega),splice_get _ _ _ (by rw [flat_len he,he.len];omega),he.len,hb]
  simp only [List.length_cons,List.length_nil]
  by_cases h1:i < j * z
  · simp [h1,show i < j * z+f by omega]
  · simp only [h1,if_false]
    by_cases h2:i < j * z+z
    · simp only [h2,if_true]
      rw [List.getElem?_set]
      have hget:(xs.flatMap enc)[i]?=(enc a)[i - j * z]?:=by
        have:=flat_at he hx (i - j * z) (by omega)
        rwa [show j * z+(i - j * z)=i by omega] at this
      by_cases h3:f=i - j * z
      · have:i=j * z+f:=by omega
        subst this
        simp [he.len,hf]
      · simp only [h3,if_false]
        by_cases h4:i < j * z+f
        · simp [h4,hget]
        · simp [h4,show ¬ i < j * z+f+1 by omega,hget]
    · simp only [h2,if_false]
      simp [show ¬ i < j * z+f by omega,show ¬ i < j * z+f+1 by omega]
theorem tw_stop {α:Type} {p:α→Bool}:∀ {D:List α} {k:Nat} {x:α},(∀ r ∈ D.take k,p r=true)→D[k]?=some x→p x=false→D.takeWhile p=D.take k
  | [],_,_,_,hx,_=>by simp at hx
  | a::D,0,x,_,hx,hp=>by simp at hx;subst hx;simp [List.takeWhile_cons,hp]
  | a::D,k+1,x,h,hx,hp=>by
    simp only [List.take_succ_cons,List.mem_cons] at h
    simp only [List.take_succ_cons,List.takeWhile_cons,h a (.inl rfl),if_true]
    rw [tw_stop (fun r hr=>h r (.inr hr)) (by simpa using hx) hp]
theorem tw_all {α:Type} {p:α→Bool} {D:List α} (h:∀ r ∈ D,p r=true):D.takeWhile p=D:=by
  induction D with
  | nil=>rfl
  | cons a D ih=>simp [List.takeWhile_cons,h a (by simp),ih (fun r hr=>h r (by simp [hr]))]
theorem tw_more {α:Type} {p:α→Bool}:∀ {D:List α} {k:Nat} {x:α},(∀ r ∈ D.take k,p r=true)→D[k]?=some x→p x=true→D.take k++[x] <+: D.takeWhile p
  | [],_,_,_,hx,_=>by simp at hx
  | a::D,0,x,_,hx,hp=>by simp at hx;subst hx;simp [List.takeWhile_cons,hp]
  | a::D,k+1,x,h,hx,hp=>by
    simp only [List.take_succ_cons,List.mem_cons] at h
    simp only [List.take_succ_cons,List.takeWhile_cons,h a (.inl rfl),if_true,List.cons_append]
    rw [List.cons_prefix_cons]
    exact ⟨rfl,tw_more (fun r hr=>h r (.inr hr)) (by simpa using hx) hp⟩
theorem CallV.more {P:Program} {g:World} {y:Value} {args:List Value} {Pre:List HP} {A:HP} {v:Value} (h:CallV P g y args Pre fun K R=>K v R):CallV P g y args (A::Pre) fun K R=>K v (A::R):=fun R K w r hw hT=>
  h (A::R) K w r (hw.conv fun S hS=>stars_move hS) hT
end Go.SL
namespace Go.SL.Fc
open Go Go.Proofs Go.SL
theorem ov1_203:(Tryz.f203.name == "runtime.NumGoroutine")=false:=by kernel_rfl
theorem ov2_203:Tryz.f203.body.isNone=true:=by kernel_rfl
theorem ov3_203:Extern.findNext Tryz.f203=none:=by kernel_rfl
theorem ov4_203:Extern.find Tryz.f203=some (Extern.SlicesOverlaps.overlaps #[59,59] #[4]):=by kernel_rfl
end Go.SL.Fc
namespace Go.SL
open Go Go.Proofs Fc
theorem Insert_spec {g:World} {u:Value} {A D:List RowM} {x:RowM} {bv:Nat} (hn:(A++D).length≤68719476000) :
  Spec Tryz.prog g 186 [u,.int .i64 A.length,(.slice (some ⟨bv,0,none⟩) 1 1)] [Sl 78 2 RowM.c u (A++D),cl bv 78 (RowM.c x)] fun K R=>∀ a m c,K (.slice a m c) (Sl 78 2 RowM.c (.slice a m c) (A++x::D)::R):=by
 have hlen:(A++D).length=A.length+D.length:=by simp
 refine Spec.intro Tryz.func186 rfl Tryz.ntmps186 rfl fun R K hK=>?_
 refine WP.seq<|WP.reg<|WL.e e_assign<|WL.next<|WP.seq<|WP.reg<|WL.e e_move<|WL.e e_move<|WL.e (el_from (lo:=A.length) sl59 (sl_rl (xs:=A++D)) (by simp))<|WL.next<|WP.seq<|WP.reg<|WL.e e_move<|WL.e (e_len_sl sl59)<|WL.e e_assign<|WL.next<|WP.seq<|WP.seq<|WP.reg<|WL.e e_move<|WL.e e_eql<|WL.next ?_
 refine WP.cond rfl (fun h0=>?_) (fun h0=>?_)
 ·simp at h0
 ·skip
  refine WP.skip<|PO.next<|WP.seq<|WP.reg<|WL.e e_move<|WL.e (el_len sl59 (sl_rl (xs:=A++D)))<|WL.e e_assign<|WL.next<|WP.seq<|WP.seq<|WP.reg<|WL.e e_move<|WL.e e_move<|WL.e e_eql<|WL.next ?_
  refine WP.cond rfl (fun h1=>?_) (fun h1=>?_)
  ·obtain rfl:D=[]:=List.eq_nil_of_length_eq_zero (by simp at h1;omega)
   refine WP.seq<|WP.reg<|WL.e e_move<|WL.e e_move ?_
   refine WL.h (hl_append (xs:=A++[]) (ys:=[x]) sl59 rowE z78 (lit_rl (b:=bv) (E:=78) (l:=RowM.c x) rowE [x] (by simp)) (by simp at hn ⊢;omega) (fun a m c=>?_))
   rw [List.append_nil]
   refine WL.e e_assign<|WL.next<|WP.ret<|PO.past nofun ?_
   exact PO.fin Tryz.results186 (rv_tmp rv_nil) (hK a m c)
  ·have hD0:0 < D.length:=by simp at h1;omega
   refine WP.own_open (n:=(A++D).length) (by omega) (by exact .z) ?_
   rintro b o c l rfl hnc hc hl hcs
   have hcA:(l.drop o).take (A.length * 2)=A.flatMap RowM.c:=by
    have:=congrArg (List.take (A.length * 2)) hcs
    rwa [List.take_take,Nat.min_eq_left (Nat.mul_le_mul_right _ (by omega)),List.flatMap_append,List.take_left' (flat_len rowE A)] at this
   have hA0:At (subAt (.slice (some ⟨b,o,none⟩) (A++D).length c) 0 A.length c 2) b o A.length c:=by have:=(At.lit (b:=b) (o:=o) hnc).sub (lo:=0) (hi:=A.length) (m:=c) (z:=2) (by omega) (by omega) (Nat.le_refl _);simpa using this
   have hAD:At (subAt (.slice (some ⟨b,o,none⟩) (A++D).length c) A.length (A++D).length c 2) b (o+A.length * 2) D.length (c - A.length):=by have:=(At.lit (b:=b) (o:=o) hnc).sub (lo:=A.length) (hi:=(A++D).length) (m:=c) (z:=2) (by omega) (by omega) (Nat.le_refl _);rwa [show (A++D).length - A.length=D.length by omega] at this
   refine WP.skip<|PO.next<|WP.seq<|WP.seq<|WP.reg<|WL.e e_move<|WL.e e_move<|WL.e (e_add (c:=(((A++D).length+1:Nat):Int)) rfl rfl (by rw [w_i64 (by omega) (by omega)];omega))<|WL.e e_move<|WL.e (e_cap sl59 rfl (At.lit hnc))<|WL.e e_gtr<|WL.next ?_
   refine WP.cond rfl (fun h2=>?_) (fun h2=>?_)
   ·replace h2:c < (A++D).length+1:=by simp at h2;omega
    have hgro:∀ u,Own 78 2 u (A.length+(D.length+1)) ((l.drop o).take (A.length * 2)++(List.replicate (D.length+1) [.string .empty,.int .u32 0]).flatten)=Sl 78 2 RowM.c u (A++List.replicate (D.length+1) ⟨.empty,0⟩):=fun u=>by
     unfold Sl
     rw [hcA,List.flatMap_append,show (List.replicate (D.length+1) (⟨.empty,0⟩:RowM)).flatMap RowM.c=(List.replicate (D.length+1) [.string .empty,.int .u32 0]).flatten by simp [List.flatMap_replicate];rfl,List.length_append,List.length_replicate]
    refine WP.seq<|WP.reg<|WL.e e_move<|WL.e e_move<|WL.e (e_slice_at (lo:=0) (hi:=A.length) (m:=c) (c:=c) (n:=(A++D).length) sl59 rfl (At.lit hnc) (.inl ⟨rfl,rfl⟩) (.inr ⟨_,_,rfl,rfl⟩) (.inl ⟨rfl,rfl⟩) (by omega) (by omega) (Nat.le_refl _))<|WL.e e_move<|WL.e e_move<|WL.e (e_add (c:=(((A++D).length+1:Nat):Int)) rfl rfl (by rw [w_i64 (by omega) (by omega)];omega))<|WL.e e_move<|WL.e (e_sub (c:=((D.length+1:Nat):Int)) rfl rfl (by rw [w_i64 (by omega) (by omega)];omega)) ?_
    refine WL.h (h_grow (n:=A.length) (c:=c) (k:=D.length+1) (b:=b) (o:=o) sl59 Tryz.underlying3 z78 rfl hA0 hl (by omega) (by omega) (by decide) (by decide) (fun a3 n3 c3=>?_))
    rw [hgro]
    refine WL.e e_assign<|WL.next<|WP.seq<|WP.reg<|WL.e e_move<|WL.e e_move<|WL.e (el_from (lo:=A.length) sl59 (sl_rl (xs:=(A++List.replicate (D.length+1) ⟨.empty,0⟩))) (by simp))<|WL.e e_move ?_
    refine WL.h (hl_copy (lo:=A.length) (xs:=(A++List.replicate (D.length+1) ⟨.empty,0⟩)) (ys:=[x]) sl59 rowE (by simp) (lit_rl (b:=bv) (E:=78) (l:=RowM.c x) rowE [x] (by simp)) ?_)
    refine WL.next<|WP.seq<|WP.draws mixedOk 9<|RW.e 0 rfl e_move<|RW.e 1 rfl e_move<|RW.e 2 rfl e_move<|RW.e 3 rfl (e_add (c:=((A.length+1:Nat):Int)) rfl rfl (by rw [w_i64 (by omega) (by omega)];omega))<|RW.e 4 rfl (el_from (lo:=A.length+1) sl59 (sl_rl (xs:=over (A++List.replicate (D.length+1) ⟨.empty,0⟩) A.length [x])) (by rw [over_len _ _ _ (by simp)];simp))<|RW.e 5 rfl e_move<|RW.e 6 rfl e_move<|RW.e 7 rfl (e_slice_at (lo:=A.length) (hi:=(A++D).length) (m:=c) (c:=c) (n:=(A++D).length) sl59 rfl (At.lit hnc) (.inr ⟨_,_,rfl,rfl⟩) (.inl ⟨rfl,rfl,rfl⟩) (.inl ⟨rfl,rfl⟩) (by omega) (by omega) (Nat.le_refl _)) ?_
    refine RW.any (is:=[8]) rfl ⟨?_,trivial⟩
    refine RWat.h rfl rfl rfl ?_
    refine (hl_copy (lo:=A.length+1) (xs:=over (A++List.replicate (D.length+1) ⟨.empty,0⟩) A.length [x]) (ys:=D) (B:=cl b 78 l) sl59 rowE (by rw [over_len _ _ _ (by simp)];simp) (rd_part rowE hAD (by have:(c - A.length) * 2=c * 2 - A.length * 2:=Nat.sub_mul _ _ _;have:=Nat.mul_le_mul_right 2 (show A.length≤c by omega);omega) rfl (by have:=congrArg (List.drop (A.length * 2)) hcs;rw [List.drop_take,flat_drop rowE,List.drop_drop,← Nat.sub_mul,List.drop_left] at this;rwa [show (A++D).length - A.length=D.length by omega] at this)) ?_)
    refine ⟨trivial,?_⟩
    refine RW.done<|PO.next<|WP.seq<|WP.reg<|WL.e e_move<|WL.e e_assign<|WL.next<|WP.ret<|PO.past nofun ?_
    rw [over_ins]
    exact PO.fin Tryz.results186 (rv_tmp rv_nil) (hK a3 n3 c3)
   ·replace h2:(A++D).length+1≤c:=by simp at h2;omega
    obtain ⟨ic1,ic2,ic3,ic4⟩:=ins_cells (x:=x) rowE hl h2 hcs
    have hones:ones (((l.drop (o+A.length * 2)).take ((D.length+1) * 2)).take (Nat.min (D.length+1) D.length * 2))=true:=by rw [show Nat.min (D.length+1) D.length=D.length from Nat.min_eq_right (by omega),List.take_take,Nat.min_eq_left (Nat.mul_le_mul_right 2 (show D.length≤D.length+1 by omega)),ic4];exact ones_flat rowE D
    have hmz:((A++D).length+1) * 2≤c * 2:=Nat.mul_le_mul_right _ h2
    have hA2:At (subAt (.slice (some ⟨b,o,none⟩) (A++D).length c) 0 ((A++D).length+1) c 2) b o ((A++D).length+1) c:=by have:=(At.lit (b:=b) (o:=o) hnc).sub (lo:=0) (hi:=(A++D).length+1) (m:=c) (z:=2) (by omega) h2 (Nat.le_refl _);simpa using this
    have hA3:At (subAt (subAt (.slice (some ⟨b,o,none⟩) (A++D).length c) 0 ((A++D).length+1) c 2) (A.length+1) ((A++D).length+1) c 2) b (o+(A.length+1) * 2) D.length (c - (A.length+1)):=by have:=hA2.sub (lo:=A.length+1) (hi:=(A++D).length+1) (m:=c) (z:=2) (by omega) h2 (Nat.le_refl _);rwa [show (A++D).length+1 - (A.length+1)=D.length by omega] at this
    have hOv:∃ o2,subAt (subAt (.slice (some ⟨b,o,none⟩) (A++D).length c) 0 ((A++D).length+1) c 2) (A.length+1) ((A++D).length+1) c 2=.slice (some ⟨b,o2,none⟩) D.length (c - (A.length+1)):=⟨_,by obtain ⟨y,hy,_,rfl | h⟩:=hA3;exact hy;omega⟩
    have hA4:At (subAt (subAt (.slice (some ⟨b,o,none⟩) (A++D).length c) 0 ((A++D).length+1) c 2) A.length ((A++D).length+1) c 2) b (o+A.length * 2) (D.length+1) (c - A.length):=by have:=hA2.sub (lo:=A.length) (hi:=(A++D).length+1) (m:=c) (z:=2) (by omega) h2 (Nat.le_refl _);rwa [show (A++D).length+1 - A.length=D.length+1 by omega] at this
    refine WP.skip<|PO.next<|WP.seq<|WP.reg<|WL.e e_move<|WL.e e_move<|WL.e e_move<|WL.e (e_add (c:=(((A++D).length+1:Nat):Int)) rfl rfl (by rw [w_i64 (by omega) (by omega)];omega))<|WL.e (e_slice_at (lo:=0) (hi:=(A++D).length+1) (m:=c) (c:=c) (n:=(A++D).length) sl59 rfl (At.lit hnc) (.inl ⟨rfl,rfl⟩) (.inr ⟨_,_,rfl,rfl⟩) (.inl ⟨rfl,rfl⟩) (by omega) h2 (Nat.le_refl _))<|WL.e e_assign<|WL.next<|WP.seq<|WP.seq<|WP.reg<|WL.e e_move<|WL.e e_move<|WL.e e_move<|WL.e e_move<|WL.e (e_add (c:=((A.length+1:Nat):Int)) rfl rfl (by rw [w_i64 (by omega) (by omega)];omega))<|WL.e (e_slice_at (lo:=A.length+1) (hi:=(A++D).length+1) (m:=c) (c:=c) (n:=(A++D).length+1) sl59 rfl hA2 (.inr ⟨_,_,rfl,rfl⟩) (.inl ⟨rfl,rfl,rfl⟩) (.inl ⟨rfl,rfl⟩) (by omega) h2 (Nat.le_refl _)) ?_
    refine WL.h (h_overlaps (U:=78) (l1:=RowM.c x) (l2:=l) (b1:=bv) (b2:=b) (n2:=D.length) (c2:=c - (A.length+1)) (n1:=1) (c1:=1) (o1:=0) Tryz.func203 ov1_203 ov2_203 ov3_203 ov4_203 sl59 rfl hOv (by repeat first | exact .z | apply Pick.s) (by repeat first | exact .z | apply Pick.s) (by omega) ?_)
    refine WL.e e_not<|WL.next<|WP.cond_t rfl<|WP.seq<|WP.draws mixedOk 9<|RW.e 0 rfl e_move<|RW.e 1 rfl e_move<|RW.e 2 rfl e_move<|RW.e 3 rfl (e_add (c:=((A.length+1:Nat):Int)) rfl rfl (by rw [w_i64 (by omega) (by omega)];omega))<|RW.e 4 rfl (e_slice_at (lo:=A.length+1) (hi:=(A++D).length+1) (m:=c) (c:=c) (n:=(A++D).length+1) sl59 rfl hA2 (.inr ⟨_,_,rfl,rfl⟩) (.inl ⟨rfl,rfl,rfl⟩) (.inl ⟨rfl,rfl⟩) (by omega) h2 (Nat.le_refl _))<|RW.e 5 rfl e_move<|RW.e 6 rfl e_move<|RW.e 7 rfl (e_slice_at (lo:=A.length) (hi:=(A++D).length+1) (m:=c) (c:=c) (n:=(A++D).length+1) sl59 rfl hA2 (.inr ⟨_,_,rfl,rfl⟩) (.inl ⟨rfl,rfl,rfl⟩) (.inl ⟨rfl,rfl⟩) (by omega) h2 (Nat.le_refl _)) ?_
    refine RW.any (is:=[8]) rfl ⟨?_,trivial⟩
    refine RWat.h rfl rfl rfl ?_
    refine (h_copy (n:=D.length) (c:=c - (A.length+1)) (k:=D.length+1) (o:=o+(A.length+1) * 2) (U:=78) (l:=l) (ds:=(l.drop (o+A.length * 2)).take ((D.length+1) * 2)) (B:=cl b 78 l) sl59 hA3 (by have:(c - (A.length+1)) * 2=c * 2 - (A.length+1) * 2:=Nat.sub_mul _ _ _;have:=Nat.mul_le_mul_right 2 (show A.length+1≤c by omega);omega) (hA4.rd (by have:(c - A.length) * 2=c * 2 - A.length * 2:=Nat.sub_mul _ _ _;have:=Nat.mul_le_mul_right 2 (show A.length≤c by omega);omega)) hones ?_)
    rw [show Nat.min (D.length+1) D.length=D.length from Nat.min_eq_right (by omega),List.take_take,Nat.min_eq_left (Nat.mul_le_mul_right 2 (show D.length≤D.length+1 by omega)),ic4]
    refine ⟨trivial,?_⟩
    refine RW.done<|PO.next<|WP.seq<|WP.reg<|WL.e e_move<|WL.e e_move<|WL.e (e_slice_at (lo:=A.length) (hi:=(A++D).length+1) (m:=c) (c:=c) (n:=(A++D).length+1) sl59 rfl hA2 (.inr ⟨_,_,rfl,rfl⟩) (.inl ⟨rfl,rfl,rfl⟩) (.inl ⟨rfl,rfl⟩) (by omega) h2 (Nat.le_refl _))<|WL.e e_move ?_
    refine WL.h (h_copy (n:=D.length+1) (c:=c - A.length) (k:=1) (o:=o+A.length * 2) (U:=78) (l:=splice l (o+(A.length+1) * 2) (D.flatMap RowM.c)) (ds:=RowM.c x) (B:=cl bv 78 (RowM.c x)) sl59 hA4 (by rw [ic3];have:(c - A.length) * 2=c * 2 - A.length * 2:=Nat.sub_mul _ _ _;have:=Nat.mul_le_mul_right 2 (show A.length≤c by omega);omega) (cl_rd (b:=bv) (n:=1) (c:=1) (o:=0) (z:=2) (Nat.le_refl 1) (by rw [rowE.len];omega) (by rw [List.drop_zero,List.take_of_length_le (by rw [rowE.len];omega)])) (ones_take _ (rowE.one x)) ?_)
    rw [show Nat.min 1 (D.length+1)=1 from Nat.min_eq_left (by omega),List.take_of_length_le (show (RowM.c x).length≤1 * 2 by rw [rowE.len];omega)]
    refine WL.next<|WP.seq<|WP.reg<|WL.e e_move<|WL.e e_assign<|WL.next<|WP.ret<|PO.past nofun ?_
    refine PO.cls (A:=Sl 78 2 RowM.c (subAt (.slice (some ⟨b,o,none⟩) (A++D).length c) 0 ((A++D).length+1) c 2) (A++x::D)) (B:=[cl b 78 _]) (fun S h=>?_) ?_
    ·have h:=stars_one h
     unfold Sl
     rw [show (A++x::D).length=(A++D).length+1 by simp;omega]
     refine at_own hA2 hc ?_ ?_ S h
     ·rw [ic2];exact hl
     ·exact ic1
    exact PO.fin Tryz.results186 (rv_tmp rv_nil) (hK _ _ _)
end Go.SL
namespace Go.SL.Fc
open Go Go.Proofs Go.SL
theorem a87:aggOf Tryz.prog 87=some none:=by kernel_rfl
theorem f78_1:fldOf Tryz.prog 78 1=some 1:=by kernel_rfl
theorem k117:callable Tryz.prog 117=true:=by kernel_rfl
theorem k118:callable Tryz.prog 118=true:=by kernel_rfl
theorem k120:callable Tryz.prog 120=true:=by kernel_rfl
theorem k121:callable Tryz.prog 121=true:=by kernel_rfl
theorem k135:callable Tryz.prog 135=true:=by kernel_rfl
theorem k141:callable Tryz.prog 141=true:=by kernel_rfl
theorem k184:callable Tryz.prog 184=true:=by kernel_rfl
theorem k185:callable Tryz.prog 185=true:=by kernel_rfl
theorem k186:callable Tryz.prog 186=true:=by kernel_rfl
theorem k194:callable Tryz.prog 194=true:=by kernel_rfl
theorem p78:placesOf Tryz.prog 78=some [(0,1),(1,1)]:=by kernel_rfl
theorem s59:szOf Tryz.prog 59=some 1:=by kernel_rfl
theorem s78:szOf Tryz.prog 78=some 2:=by kernel_rfl
theorem z59:zeroOf Tryz.prog 59=some [.slice none 0 0]:=by kernel_rfl
end Go.SL.Fc
namespace Go.SL
open Go Go.Proofs Fc
theorem Insert_at {g:World} {u:Value} {xs:List RowM} {i:Nat} {x:RowM} {bv:Nat} (hi:i≤xs.length) (hn:xs.length≤68719476000) :
  Spec Tryz.prog g 186 [u,.int .i64 i,.slice (some ⟨bv,0,none⟩) 1 1] [Sl 78 2 RowM.c u xs,cl bv 78 (RowM.c x)] fun K R=>∀ a m c,K (.slice a m c) (Sl 78 2 RowM.c (.slice a m c) (xs.take i++x::xs.drop i)::R):=by
 have h:=Insert_spec (g:=g) (u:=u) (A:=xs.take i) (D:=xs.drop i) (x:=x) (bv:=bv) (by rw [List.take_append_drop];exact hn)
 rw [List.take_append_drop,List.length_take_of_le hi] at h
 exact h
theorem set_spec {g:World} {p:Nat} {l:List RowM} (k:ByteArray) (v:UInt32) (hl:Rising l) (hn:l.length≤68719476000):Spec Tryz.prog g 121 [.pointer (some ⟨p,0,none⟩),.string k,.int .u32 v.toNat] [Mm p l] fun K R=>K (.tuple #[]) (Mm p (setR l k v)::R):=by
 refine Spec.intro Tryz.func121 rfl Tryz.ntmps121 rfl fun R K hK=>?_
 refine WP.seq<|WP.reg<|WL.e e_move<|WL.e e_move ?_
 refine WL.h (h_call (find_spec k hl (by omega)) k184 ?_)
 refine WL.e e_move<|WL.e e_extract<|WL.e e_extract<|WL.e e_assign<|WL.e e_assign<|WL.next<|WP.seq<|WP.seq<|WP.reg<|WL.e e_move<|WL.e e_not<|WL.next ?_
 refine WP.cond rfl (fun h1=>?_) (fun h1=>?_)
 ·replace h1:hasI l k=false:=by simpa using h1
  have hle:=lowI_le l k
  refine WP.opn (Mm_op (p:=p) (l:=l)) fun s=>?_
  refine WP.reg<|WL.e e_move<|WL.e e_move<|WL.e e_nil<|WL.e (e_fa f162_0)<|WL.e (e_load a59)<|WL.e e_move<|WL.e e_move<|WL.e (e_build z78 p78 (.o (.tmp 22) rfl<|.z (.int .u32 0)<|.n)) ?_
  refine WL.h (h_bs sl59 z78 (.a2 (.tmp 23) rfl<|.n) fun b1=>?_)
  refine WL.h (h_call (Insert_at (i:=lowI l k) (xs:=l) (x:=⟨k,0⟩) hle hn) k186 ?_)
  intro a m c
  refine WL.e e_nil<|WL.e (e_fa f162_0) ?_
  refine WL.h' (h_store s59 ?_)
  refine WL.next<|WP.reg<|WL.e e_move<|WL.e e_nil<|WL.e (e_fa f162_0)<|WL.e (e_load a59)<|WL.e e_move<|WL.e e_move<|WL.e (el_ia (j:=lowI l k) (xs:=l.take (lowI l k)++⟨k,0⟩::l.drop (lowI l k)) sl59 sl_rl (by simp;omega))<|WL.e (el_fa (z:=2) (j:=lowI l k) (xs:=l.take (lowI l k)++⟨k,0⟩::l.drop (lowI l k)) f78_1 sl_rl (by simp;omega)) ?_
  refine WL.h' (hl_set (y:=0) (j:=0) (f:=lowI l k * 2+1) (n:=(l.take (lowI l k)++⟨k,0⟩::l.drop (lowI l k)).length) (z:=2) (E:=78) (cs:=(l.take (lowI l k)++⟨k,0⟩::l.drop (lowI l k)).flatMap RowM.c) s48 (by simp;omega) ?_ rfl)
  rw [flat_setF (xs:=l.take (lowI l k)++⟨k,0⟩::l.drop (lowI l k)) (a:=⟨k,0⟩) (a':=⟨k,v⟩) rowE (by rw [List.getElem?_append_right (by simp;omega)];simp [Nat.min_eq_left hle]) (by decide) rfl]
  refine WL.nil ?_
  rw [set_app (by simp;omega),show l.take (lowI l k)++⟨k,v⟩::l.drop (lowI l k)=setR l k v by rw [setR,if_neg (by simp [h1])]]
  refine PO.cls (A:=Mm p (setR l k v)) (B:=[cl p 162 [.slice a m c,.bool true],Own 78 2 (.slice a m c) _ _]) (fun S h=>⟨⟨a,m,c⟩,by unfold Sl;rwa [show (setR l k v).length=(l.take (lowI l k)++⟨k,0⟩::l.drop (lowI l k)).length by rw [setR,if_neg (by simp [h1])];simp]⟩) ?_
  exact PO.fin Tryz.results121 rv_nil hK
 ·replace h1:hasI l k=true:=by simpa using h1
  refine WP.opn (Mm_op (p:=p) (l:=l)) fun s=>?_
  refine WP.skip<|PO.next<|WP.reg<|WL.e e_move<|WL.e e_nil<|WL.e (e_fa f162_0)<|WL.e (e_load a59)<|WL.e e_move<|WL.e e_move<|WL.e (el_ia (j:=lowI l k) (xs:=l) sl59 sl_rl (has_lt h1))<|WL.e (el_fa (z:=2) (j:=lowI l k) (xs:=l) f78_1 sl_rl (has_lt h1)) ?_
  obtain ⟨u,hu⟩:=has_at h1
  refine WL.h' (hl_set (y:=0) (j:=0) (f:=lowI l k * 2+1) (n:=l.length) (z:=2) (E:=78) (cs:=l.flatMap RowM.c) s48 (by have:=has_lt h1;omega) ?_ rfl)
  rw [flat_setF (xs:=l) (a:=⟨k,u⟩) (a':=⟨k,v⟩) rowE hu (by decide) rfl]
  refine WL.nil ?_
  rw [show l.set (lowI l k) ⟨k,v⟩=setR l k v by rw [setR,if_pos h1]]
  refine PO.cls (A:=Mm p (setR l k v)) (B:=[cl p 162 [s.v,.bool true],Own 78 2 s.v _ _]) (fun S h=>⟨s,by unfold Sl;rwa [show (setR l k v).length=l.length by rw [setR,if_pos h1];simp]⟩) ?_
  exact PO.fin Tryz.results121 rv_nil hK
theorem drop_spec {g:World} {p:Nat} {l:List RowM} (k:ByteArray) (hl:Rising l) (hn:l.length≤68719476000):Spec Tryz.prog g 120 [.pointer (some ⟨p,0,none⟩),.string k] [Mm p l] fun K R=>K (.bool (hasI l k)) (Mm p (dropR l k)::R):=by
 refine Spec.intro Tryz.func120 rfl Tryz.ntmps120 rfl fun R K hK=>?_
 refine WP.seq<|WP.reg<|WL.e e_assign<|WL.next<|WP.seq<|WP.reg<|WL.e e_move<|WL.e e_move ?_
 refine WL.h (h_call (find_spec k hl (by omega)) k184 ?_)
 refine WL.e e_move<|WL.e e_extract<|WL.e e_extract<|WL.e e_assign<|WL.e e_assign<|WL.next<|WP.seq<|WP.seq<|WP.reg<|WL.e e_move<|WL.next ?_
 refine WP.cond rfl (fun h1=>?_) (fun h1=>?_)
 ·obtain ⟨u,hu⟩:=has_at h1
  refine WP.opn (Mm_op (p:=p) (l:=l)) fun s=>?_
  refine WP.reg<|WL.e e_move<|WL.e e_move<|WL.e e_nil<|WL.e (e_fa f162_0)<|WL.e (e_load a59)<|WL.e e_move<|WL.e e_move<|WL.e (e_add (c:=((lowI l k+1:Nat):Int)) rfl rfl (by have:=has_lt h1;rw [w_i64 (by omega) (by omega)];omega)) ?_
  refine WL.h (h_call (Delete_spec (i:=lowI l k) (xs:=l) hu (by omega)) k185 ?_)
  intro a m c
  refine WL.e e_nil<|WL.e (e_fa f162_0) ?_
  refine WL.h' (h_store s59 ?_)
  refine WL.next<|WP.seq<|WP.reg<|WL.e e_move<|WL.e e_assign<|WL.next<|WP.ret ?_
  rw [show l.eraseIdx (lowI l k)=dropR l k by rw [dropR,if_pos h1]]
  refine PO.cls (A:=Mm p (dropR l k)) (B:=[cl p 162 [.slice a m c,.bool true],Sl 78 2 RowM.c (.slice a m c) (dropR l k)]) (fun S h=>⟨⟨a,m,c⟩,h⟩) ?_
  exact PO.fin Tryz.results120 (rv_tmp rv_nil) hK
 ·rw [dropR,if_neg (by simp [h1])] at hK
  refine WP.skip<|PO.next<|WP.seq<|WP.reg<|WL.e e_move<|WL.e e_assign<|WL.next<|WP.ret ?_
  exact PO.fin Tryz.results120 (rv_tmp rv_nil) hK
theorem Change_spec {g:World} {A:HP} {u:Value} {p:Nat} {l:List RowM} {cs:List ChgM} (hA:RL A 3 ChgM.c u cs) (hl:Rising l) (hn:l.length+cs.length≤68719476000):Spec Tryz.prog g 36 [.pointer (some ⟨p,0,none⟩),u] [Mm p l,A] fun K R=>(cs.any (fun c=>!chgOk c)=true→K (.int .i64 1) (Mm p l::A::R))∧(cs.any (fun c=>!chgOk c)=false→K (.int .i64 0) (Mm p (changeR l cs)::A::R)):=by
 refine Spec.intro Tryz.func36 rfl Tryz.ntmps36 rfl fun R K hK=>?_
 refine WP.seq<|WP.reg<|WL.e e_assign<|WL.next<|WP.seq<|WP.seq<|WP.reg<|WL.e e_move ?_
 refine WL.h (h_call (Mthere_spec) k116 ?_)
 refine WL.e e_not<|WL.next<|WP.cond_f rfl<|WP.skip<|PO.next<|WP.seq<|WP.seq<|WP.reg<|WL.e e_move<|WL.conv (fun S h=>pu_stars trivial h) ?_
 refine WL.h (h_call (ContainsC_spec (B:=pu True) hA (by omega) (fun x=>CallV.more (CallV.of_spec (fs:=[]) (cs:=[]) (bad_spec x) k118))) k117 ?_)
 refine WL.next ?_
 refine WP.cond rfl (fun h1=>?_) (fun h1=>?_)
 ·skip
  refine WP.seq<|WP.reg<|WL.e e_assign<|WL.next<|WP.ret<|PO.past nofun ?_
  exact PO.fin Tryz.results36 (rv_tmp rv_nil) (hK.1 h1)
 ·skip
  refine WP.skip<|PO.next<|WP.seq<|WP.seq<|WP.reg<|WL.e e_move<|WL.e (el_len sl96 hA)<|WL.e e_move<|WL.next<|WP.block<|WP.loopK (fun (i:Nat)=>[(14,.int .i64 i)]) (fun (i:Nat)=>Mm p (changeR l (cs.take i))::A::R) [(0,_),(4,_),(12,_),(13,_)] (fun (i:Nat)=>i≤cs.length) (fun (i:Nat)=>cs.length - i) 0 (Nat.zero_le _) ?_
  intro i hi
  refine WP.seq<|WP.reg<|WL.e e_lss<|WL.next<|WP.seq ?_
  refine WP.cond rfl (fun h2=>?_) (fun h2=>?_)
  ·have hlt:i < cs.length:=by rw [decide_eq_true_eq] at h2;omega
   obtain ⟨c,hc⟩:∃ c,cs[i]?=some c:=⟨_,List.getElem?_eq_getElem hlt⟩
   obtain ⟨hr1,hr2⟩:=changeR_rising (cs.take i) hl
   rw [List.length_take] at hr2
   refine WP.skip<|PO.next<|WP.seq<|WP.block<|WP.seq<|WP.reg<|WL.e (el_ia sl96 hA hlt)<|WL.e (el_loadN (a:=c) a123 chgE hA hc) ?_
   refine WL.h (h_alloc z123 fun b1=>?_)
   refine WL.h' (h_store s123 ?_)
   refine WL.next<|WP.seq<|WP.reg<|WL.e (e_fa f123_2)<|WL.e (e_load a4)<|WL.next ?_
   refine WP.cond rfl (fun h3=>?_) (fun h3=>?_)
   ·skip
    refine WP.reg<|WL.e e_move<|WL.e (e_fa f123_0)<|WL.e (e_load a9) ?_
    refine WL.h (h_call (drop_spec c.key hr1 (by omega)) k120 ?_)
    refine WL.nil<|PO.blockN<|PO.next<|WP.reg<|WL.e (e_add rfl rfl (w_i64 (by omega) (by omega)))<|WL.e e_move<|WL.nil ?_
    rw [show dropR (changeR l (cs.take i)) c.key=changeR l (cs.take (i+1)) by rw [take_snoc hc,changeR_snoc,applyC,if_pos h3]]
    exact PO.againK (i+1) (by omega) (by omega)
   ·skip
    refine WP.reg<|WL.e e_move<|WL.e (e_fa f123_0)<|WL.e (e_load a9)<|WL.e (e_fa f123_1)<|WL.e (e_load a48) ?_
    refine WL.h (h_call (set_spec c.key c.val hr1 (by omega)) k121 ?_)
    refine WL.nil<|PO.blockN<|PO.next<|WP.reg<|WL.e (e_add rfl rfl (w_i64 (by omega) (by omega)))<|WL.e e_move<|WL.nil ?_
    rw [show setR (changeR l (cs.take i)) c.key c.val=changeR l (cs.take (i+1)) by rw [take_snoc hc,changeR_snoc,applyC,if_neg (by simp [h3])]]
    exact PO.againK (i+1) (by omega) (by omega)
  ·rw [List.take_of_length_le (show cs.length≤i by rw [decide_eq_false_iff_not] at h2;omega)]
   refine WP.exit<|PO.past nofun<|PO.round nofun<|PO.blockX<|PO.next<|WP.seq<|WP.reg<|WL.e e_assign<|WL.next<|WP.ret ?_
   exact PO.fin Tryz.results36 (rv_tmp rv_nil) (hK.2 h1)
def rowV (r:RowM):List Value:=[r.v]
theorem in_iter {g:World} {c1 c2 p:Nat} {s:SpanM} {l:List RowM} (hl:Rising l) (hn:l.length≤68719476000) :
  Iter Tryz.prog g 194 (fun y=>[]++[y]++[.pointer (some ⟨c1,0,none⟩),.pointer (some ⟨c2,0,none⟩)]) [cl c1 87 [.pointer (some ⟨p,0,none⟩)],cl c2 132 [.string s.a,.string s.b],Mm p l] rowV (fun _=>pu True) (fun xs=>xs=(l.filter fun r=>inSpan s r.key)) (fun pre=>pre <+: (l.filter fun r=>inSpan s r.key)) [Mm p l]:=by
 intro y J X cont hy
 refine Spec.intro Tryz.func194 rfl Tryz.ntmps194 rfl fun R K hK=>?_
 refine WP.seq<|WP.seq<|WP.reg<|WL.e (e_load a87) ?_
 refine WL.h (h_call (Mthere_spec) k116 ?_)
 refine WL.e e_not<|WL.e e_move ?_
 refine WL.bool 11 rfl (fun h=>?_) (fun h=>?_)
 ·cases h 
 ·skip
  refine WL.e (e_loadN a132)<|WL.e (e_loadN a132) ?_
  refine WL.h (h_call (Meet_spec ⟨_,_⟩ ⟨_,_⟩) k135 ?_)
  refine WL.e e_not<|WL.e e_pick_f<|WL.next ?_
  refine WP.cond rfl (fun h1=>?_) (fun h1=>?_)
  ·replace h1:meet s s=false:=by simpa using h1
   refine WP.ret<|PO.past nofun ?_
   exact PO.fin Tryz.results194 rv_nil (hK.1 [] (meet_self h1).symm Hist.nil)
  ·replace h1:meet s s=true:=by simpa using h1
   refine WP.skip<|PO.next<|WP.seq<|WP.reg<|WL.e (e_load a87)<|WL.e (e_fa f132_0)<|WL.e (e_load a9) ?_
   refine WL.h (h_call (find_spec s.a hl (by omega)) k184 ?_)
   refine WL.opn (Mm_op (p:=p) (l:=l)) fun sv=>?_
   have hD:RL (Sl 78 2 RowM.c sv.v l) 2 RowM.c (subV sv.v (lowI l s.a) l.length none 2) (l.drop (lowI l s.a)):=RL.from_ rowE sl_rl (lowI_le l s.a)
   have hDl:(l.drop (lowI l s.a)).length≤l.length:=by simp
   refine WL.e e_move<|WL.e e_extract<|WL.e e_extract<|WL.e e_assign<|WL.e e_assign<|WL.next<|WP.seq<|WP.reg<|WL.e (e_load a87)<|WL.e e_nil<|WL.e (e_fa f162_0)<|WL.e (e_load a59)<|WL.e e_move<|WL.e (el_from (lo:=lowI l s.a) (xs:=l) sl59 sl_rl (lowI_le l s.a))<|WL.e (el_len (xs:=(l.drop (lowI l s.a))) sl59 hD)<|WL.e e_move<|WL.next<|WP.block<|WP.loopK (fun (k:Nat)=>[(31,.int .i64 k)]) (fun (k:Nat)=>J ((l.drop (lowI l s.a)).take k)::cl p 162 [sv.v,.bool true]::Sl 78 2 RowM.c sv.v l::cl c1 87 [.pointer (some ⟨p,0,none⟩)]::cl c2 132 [.string s.a,.string s.b]::R) [(0,_),(2,_),(29,_),(30,_)] (fun (k:Nat)=>k≤(l.drop (lowI l s.a)).length∧(∀ r ∈ (l.drop (lowI l s.a)).take k,(!sLt s.b r.key)=true)∧Hist cont ((l.drop (lowI l s.a)).take k)) (fun (k:Nat)=>(l.drop (lowI l s.a)).length - k) 0 (⟨Nat.zero_le _,by simp,by simpa using Hist.nil⟩) ?_
   rintro k ⟨hk1,hk2,hk3⟩
   refine WP.seq<|WP.reg<|WL.e e_lss<|WL.next<|WP.seq ?_
   refine WP.cond rfl (fun h2=>?_) (fun h2=>?_)
   ·have hlt:k < (l.drop (lowI l s.a)).length:=by rw [decide_eq_true_eq] at h2;omega
    obtain ⟨x,hx⟩:∃ x,(l.drop (lowI l s.a))[k]?=some x:=⟨_,List.getElem?_eq_getElem hlt⟩
    refine WP.skip<|PO.next<|WP.seq<|WP.block<|WP.seq<|WP.reg<|WL.e (el_ia (j:=k) (xs:=(l.drop (lowI l s.a))) sl59 hD hlt)<|WL.e (el_loadN (a:=x) a78 rowE hD hx) ?_
    refine WL.h (h_alloc z78 fun b1=>?_)
    refine WL.h' (h_store s78 ?_)
    refine WL.next<|WP.seq<|WP.reg<|WL.e (e_fa f78_0)<|WL.e (e_load a9)<|WL.e (e_fa f132_1)<|WL.e (e_load a9)<|WL.e e_sgt<|WL.e e_move ?_
    refine WL.bool 40 rfl (fun h3=>?_) (fun h3=>?_)
    ·rw [sgt_eq] at h3
     refine WL.skip<|WL.skip<|WL.skip<|WL.skip<|WL.e e_pick_t<|WL.next<|WP.cond_t rfl<|WP.ret<|PO.blockR<|PO.past nofun<|PO.round nofun<|PO.blockR<|PO.cls (A:=Mm p l) (B:=[cl p 162 [sv.v,.bool true],Sl 78 2 RowM.c (sv.v) l]) (fun S h=>⟨sv,h⟩) ?_
     exact PO.fin Tryz.results194 rv_nil (hK.1 _ (by rw [← scan_eq hl];exact (tw_stop hk2 hx (by simp [h3])).symm) hk3)
    ·rw [sgt_eq] at h3
     have hpf:(l.drop (lowI l s.a)).take k++[x] <+: (l.filter fun r=>inSpan s r.key):=by rw [← scan_eq hl];exact tw_more hk2 hx (by simp [h3])
     refine WL.e e_move<|WL.e (e_loadN a78) ?_
     refine WL.h (HO.conv (fun S h=>pu_stars trivial h) (h_cally (hy ((l.drop (lowI l s.a)).take k) x hpf hk3) ?_))
     refine ⟨fun hc=>?_,fun hc=>?_⟩
     ·skip
      refine WL.e e_not<|WL.e e_pick_f<|WL.next<|WP.cond_f rfl<|WP.skip<|PO.blockN<|PO.next<|WP.reg<|WL.e (e_add rfl rfl (w_i64 (by omega) (by omega)))<|WL.e e_move<|WL.nil ?_
      rw [← take_snoc hx]
      exact PO.againK (k+1) ⟨by omega,by rw [take_snoc hx];intro r hr;rcases List.mem_append.1 hr with h | h;exact hk2 r h;simp at h;subst h;simpa using h3,by rw [take_snoc hx];exact hk3.snoc hc⟩ (by omega)
     ·skip
      refine WL.e e_not<|WL.e e_pick_f<|WL.next<|WP.cond_t rfl<|WP.ret<|PO.blockR<|PO.past nofun<|PO.round nofun<|PO.blockR<|PO.cls (A:=Mm p l) (B:=[cl p 162 [sv.v,.bool true],Sl 78 2 RowM.c (sv.v) l]) (fun S h=>⟨sv,h⟩) ?_
      exact PO.fin Tryz.results194 rv_nil (hK.2 _ x hpf hk3 hc)
   ·have hall:(l.drop (lowI l s.a)).take k=(l.filter fun r=>inSpan s r.key):=by rw [← scan_eq hl,List.take_of_length_le (by rw [decide_eq_false_iff_not] at h2;omega),tw_all];intro r hr;exact hk2 r (by rw [List.take_of_length_le (by rw [decide_eq_false_iff_not] at h2;omega)];exact hr)
    refine WP.exit<|PO.past nofun<|PO.round nofun<|PO.blockX<|PO.cls (A:=Mm p l) (B:=[cl p 162 [sv.v,.bool true],Sl 78 2 RowM.c (sv.v) l]) (fun S h=>⟨sv,h⟩) ?_
    exact PO.fin Tryz.results194 rv_nil (hK.1 _ hall hk3)
theorem in_spec {g:World} {p:Nat} (s:SpanM):Spec Tryz.prog g 141 [.pointer (some ⟨p,0,none⟩),s.v] [] fun K R=>∀ c1 c2,K (.func (.func 194) #[] #[.pointer (some ⟨c1,0,none⟩),.pointer (some ⟨c2,0,none⟩)]) (cl c1 87 [.pointer (some ⟨p,0,none⟩)]::cl c2 132 [.string s.a,.string s.b]::R):=by
 refine Spec.intro Tryz.func141 rfl Tryz.ntmps141 rfl fun R K hK=>?_
 refine WP.seq<|WP.reg ?_
 refine WL.h (h_box fun b1=>?_)
 refine WL.h (h_box fun b2=>?_)
 refine WL.e e_assign<|WL.next<|WP.seq<|WP.reg<|WL.e e_makeFunc<|WL.e e_assign<|WL.next<|WP.ret ?_
 exact PO.fin Tryz.results141 (rv_tmp rv_nil) (hK b1 b2)
def ScJ (b b2 most:Nat) (pre:List RowM):HP:=fun S=>∃ sv:SV,stars [cl b2 3 [.int .i64 most],cl b 59 [sv.v],Sl 78 2 RowM.c sv.v pre] S
def ScX (b b2 most:Nat) (pre:List RowM) (x:RowM) (j:Code):HP:=fun S=>∃ sv:{ sv:SV // j=.exit 0 },stars [cl b2 3 [.int .i64 most],cl b 59 [sv.1.v],Sl 78 2 RowM.c sv.1.v pre] S
theorem hist_len {α:Type} {most:Nat} {xs:List α} (h:Hist (fun (pre:List α) _=>pre.length < most) xs):xs.length≤most:=by
 rcases List.eq_nil_or_concat xs with rfl | ⟨l,x,rfl⟩
 ·simp
 ·have:=h l x [] (by simp);simp;omega
theorem Scan_spec {g:World} {p:Nat} {l:List RowM} (s:SpanM) (most:Nat) (hl:Rising l) (hn:l.length≤68719476000) (hm:most≤68719476000):Spec Tryz.prog g 57 [.pointer (some ⟨p,0,none⟩),s.v,.int .i64 most] [Mm p l] fun K R=>∀ a m c,K (.slice a m c) (Sl 78 2 RowM.c (.slice a m c) (scanR l s most)::Mm p l::R):=by
 refine Spec.intro Tryz.func57 rfl Tryz.ntmps57 rfl fun R K hK=>?_
 refine WP.seq<|WP.reg ?_
 refine WL.h (h_box fun b1=>?_)
 refine WL.h (h_box fun b2=>?_)
 refine WL.h (h_alloc z59 fun b3=>?_)
 refine WL.next<|WP.seq<|WP.seq<|WP.reg<|WL.e e_move<|WL.e (e_loadN a132) ?_
 refine WL.h (h_call (in_spec ⟨_,_⟩) k141 ?_)
 intro c1 c2
 refine WL.next<|WP.block<|WP.nils 78 2 RowM.c none ?_
 refine WP.cls (A:=ScJ b3 b2 most []) (B:=[cl b2 3 [.int .i64 most],cl b3 59 [.slice none 0 0],Sl 78 2 RowM.c (.slice none 0 0) ([])]) (fun S h=>⟨⟨none,0,0⟩,h⟩) ?_
 refine WP.range (R:=?RR) (f:=194) (fs:=[]) (cs:=[.pointer (some ⟨c1,0,none⟩),.pointer (some ⟨c2,0,none⟩)]) (ScJ b3 b2 most) (ScX b3 b2 most) (fun pre _=>pre.length < most) (in_iter (c1:=c1) (c2:=c2) (p:=p) (s:=s) hl hn) k194 ?hLL ?_ ?_ ?_ (fun _=>rfl)
 case hLL=>repeat first | exact .nil | exact Pick.z | apply Pick.s | apply Split.cons
 ·rintro lb db fn tmps pre x R2 hp hh
  have hlen:=hist_len hh
  refine WP.opn (B:=fun sv:SV=>[cl b2 3 [.int .i64 most],cl b3 59 [sv.v],Sl 78 2 RowM.c (sv.v) (pre)]) (fun _ h=>h) fun sv=>?_
  refine WP.reg ?_
  refine WL.h (h_alloc z78 fun b4=>?_)
  refine WL.h' (h_store s78 ?_)
  refine WL.nil<|PO.asg rfl (by repeat first | exact .z | apply Put.s)<|WP.block<|WP.seq<|WP.seq<|WP.reg<|WL.e (e_load a59)<|WL.e (el_len (xs:=pre) sl59 sl_rl)<|WL.e (e_load a3)<|WL.e e_geq<|WL.next ?_
  refine WP.cond rfl (fun h1=>?_) (fun h1=>?_)
  ·skip
   refine WP.exit<|PO.past nofun<|PO.blockY rfl<|PO.cls (A:=ScX b3 b2 most pre x (.exit 0)) (B:=[cl b2 3 [.int .i64 most],cl b3 59 [sv.v],Sl 78 2 RowM.c (sv.v) (pre)]) (fun S h=>⟨⟨sv,rfl⟩,h⟩) ?_
   exact PO.rnd_exit (by rw [decide_eq_true_eq] at h1;omega) (by repeat first | exact .refl | exact Pick.z | apply Pick.s | apply Sub.cons | apply Sub.drop)
  ·skip
   refine WP.skip<|PO.next<|WP.reg<|WL.e (e_load a59)<|WL.e (e_loadN a78) ?_
   refine WL.h (h_bs sl59 z78 (.a2 (.tmp 17) rfl<|.n) fun b5=>?_)
   refine WL.h (hl_append (xs:=pre) (ys:=[x]) sl59 rowE z78 (lit_rl rowE [x] rfl) (by simp;omega) (fun a2 n2 m2=>?_))
   refine WL.h' (h_store s59 ?_)
   refine WL.nil<|PO.blockN<|PO.cls (A:=ScJ b3 b2 most (pre++[x])) (B:=[cl b2 3 [.int .i64 most],cl b3 59 [.slice a2 n2 m2],Sl 78 2 RowM.c (.slice a2 n2 m2) (pre++[x])]) (fun S h=>⟨⟨a2,n2,m2⟩,h⟩) ?_
   exact PO.rnd (by rw [decide_eq_false_iff_not] at h1;omega) (by repeat first | exact .refl | exact Pick.z | apply Pick.s | apply Sub.cons | apply Sub.drop)
 ·intro db xs hx hh
  subst hx
  have hlen:=hist_len hh
  rw [← show scanR l s most=l.filter fun r=>inSpan s r.key from List.take_of_length_le hlen]
  refine PO.opn (B:=fun sv:SV=>[cl b2 3 [.int .i64 most],cl b3 59 [sv.v],Sl 78 2 RowM.c (sv.v) (scanR l s most)]) (fun _ h=>h) fun sv=>?_
  refine PO.blockN<|PO.next<|WP.seq<|WP.reg<|WL.e (e_load a59) ?_
  refine WL.h' (h_store s59 ?_)
  refine WL.next<|WP.ret<|PO.sh (u:=sv.v) ?_
  intro a n c he
  rw [he]
  exact PO.finM (by repeat first | exact .z | apply Put.s) Tryz.results57 (rv_cell a59 rv_nil) (hK a n c)
 ·intro db pre x j hp hh hc
  have hlen:=hist_len hh
  refine WP.opn (B:=fun sv:{ sv:SV // j=.exit 0 }=>[cl b2 3 [.int .i64 most],cl b3 59 [sv.1.v],Sl 78 2 RowM.c (sv.1.v) (pre)]) (fun _ h=>h) fun sv=>?_
  obtain ⟨sv,rfl⟩:=sv
  obtain rfl:pre=scanR l s most:=by
   obtain ⟨t,ht⟩:=hp
   rw [scanR,← ht,show most=pre.length by omega];simp
  refine WP.exit<|PO.blockX<|PO.next<|WP.seq<|WP.reg<|WL.e (e_load a59) ?_
  refine WL.h' (h_store s59 ?_)
  refine WL.next<|WP.ret<|PO.sh (u:=sv.v) ?_
  intro a n c he
  rw [he]
  exact PO.finM (by repeat first | exact .z | apply Put.s) Tryz.results57 (rv_cell a59 rv_nil) (hK a n c)
end Go.SL
namespace Go.SL
open Go
def IterL {α:Type} (Lend:HP) (P:Program) (g:World) (f:FuncId) (args:Value→List Value) (Pre:List HP) (enc:α→List Value) (Res:α→HP) (All Pfx:List α→Prop) (Out:List HP):Prop:=
  ∀ (y:Value) (J:List α→HP) (X:List α→α→HP) (cont:List α→α→Prop),
    (∀ pre x,Pfx (pre++[x])→Hist cont pre→CallV P g y (enc x) [J pre,Res x,Lend] fun K R=>(cont pre x→K (.bool true) (J (pre++[x])::Lend::R))∧(¬ cont pre x→K (.bool false) (X pre x::Lend::R))) →
    Spec P g f (args y) (J []::Pre) fun K R=>(∀ xs,All xs→Hist cont xs→K (.tuple #[]) (J xs::(Out++R))) ∧
      (∀ pre x,Pfx (pre++[x])→Hist cont pre→¬ cont pre x→K (.tuple #[]) (X pre x::(Out++R)))
section
variable {P : Program} {r : Option Nat} {g : World} {Γ : Env} {L M : List HP}
theorem WP.rangeL {α:Type} {enc:α→List Value} {gop:Operand} {ps:List Tmp} {assign body:Code} {fs cs:List Value} {f:FuncId} {n:Nat} {D:List Deferred} {l:List (Nat × Value)} {Pre Out R:List HP} {All Pfx:List α→Prop} {Q:Post} {Lend:HP}
    (J:List α→HP) (X:List α→α→Code→HP) (cont:List α→α→Prop) {Res:α→HP} (hit:IterL Lend P g f (fun y=>fs++[y]++cs) Pre enc Res All Pfx Out) (hf:callable P f=true)
    (hL:Split L (J []::Pre) R)
    (hbody:∀ lb db fn tmps pre x R',Pfx (pre++[x])→Hist cont pre→WP P (some lb) g assign (AsgP P g lb body (RndP P g lb ⟨.busy,none,fn,tmps,ps.toArray,assign,body,db⟩ (J (pre++[x])) (X pre x) (cont pre x) (Lend::R'))) ⟨n,[],setParams ps (enc x) l⟩ (Lp lb ⟨.ready,none,fn,tmps,ps.toArray,assign,body,db⟩::J pre::Res x::Lend::R'))
    (hdone:∀ db xs,All xs→Hist cont xs→PO g Q .normal ⟨n,⟨.collected db,#[]⟩::D,l⟩ (J xs::pt db (.deferred (some []))::(Out++R)))
    (hstop:∀ db pre x j,Pfx (pre++[x])→Hist cont pre→¬ cont pre x→WP P none g j Q ⟨n,⟨.collected db,#[]⟩::D,l⟩ (X pre x j::pt db (.deferred (some []))::(Out++R)))
    (hpl:∀ x,(enc x).length=ps.length) (hg:ev ⟨n,D,l⟩ gop=some (.func (.func f) fs.toArray cs.toArray):=by rfl) (hps:ps.all (Nat.blt · n)=true:=by rfl):WP P none g (.rangeFunc gop ps.toArray assign body) Q ⟨n,D,l⟩ L:=by
  intro a w ha hw
  refine wpIn_rangeFunc fun fn _=>?_
  let db:=w.heap.size
  let lb:=w.heap.size+1
  let rec0:Loop:=⟨.ready,none,fn,a.tmps,ps.toArray,assign,body,db⟩
  let w1:World:=(w.alloc (.deferred (some []))).alloc (.loop rec0)
  have hent:(Instr.enterLoop fn a.tmps ps.toArray assign body (FR none).round).run P w=.ok (lb,[⟨.collected db,#[]⟩]) w1:=by
    unfold Instr.enterLoop
    simp [FR,Fence.wide,w1,lb,db,rec0]
  refine ⟨lb,[⟨.collected db,#[]⟩],w1,{ target:=.fn (.func f) cs.toArray,args:=fs.toArray++#[Value.func (.yield lb) #[] #[]] },w1,f,(fs++[Value.func (.yield lb) #[] #[]]++cs).toArray,w1,hent,?_,fun _ _=>trivial,?_,depth_FR none 0,?_⟩
  · simp only [resolve,ev_ok hg ha]
    simp [Deferred.ofValue,Act.eval]
  · simp only [invoke];rw [callFunc_enter hf];simp
  · 
    let J':List α→HP:=fun pre=>bun [Lp lb rec0,J pre]
    let X':List α→α→HP:=fun pre x=>ex fun j:Code=>bun [Lp lb { rec0 with state:=.done,pending:=some j },X pre x j]
    have hy:∀ pre x,Pfx (pre++[x])→Hist cont pre→CallV P g (.func (.yield lb) #[] #[]) (enc x) [J' pre,Res x,Lend] fun K R=>(cont pre x→K (.bool true) (J' (pre++[x])::Lend::R))∧(¬ cont pre x→K (.bool false) (X' pre x::Lend::R)):=by
      intro pre x hp hh R' K w2 r2 hw2 ⟨hT1,hT2⟩
      have hw3:Sat g (Lp lb rec0::J pre::Res x::Lend::R') w2:=hw2.conv fun _=>stars_bun
      refine ⟨{ target:=.fn (.yield lb) #[],args:=(enc x).toArray },_,w2,fun w=>by simp [Deferred.ofValue],yield_run (rec:=rec0) (hw3.get .z) (by simp [rec0,hpl]),?_⟩
      show RoundIn (FR r2) 0 P lb fn ((ps.toArray.zip (enc x).toArray).foldl (fun tmps (t,a)=>tmps.setIfInBounds t a) a.tmps) assign body w2 (RetK g K)
      refine roundIn_of_wpIn trivial ?_
      have hΓ:Env.ok ⟨n,[],setParams ps (enc x) l⟩ ⟨(ps.toArray.zip (enc x).toArray).foldl (fun tmps (t,a)=>tmps.setIfInBounds t a) a.tmps,[]⟩:=setParams_ok hps ⟨ha.size,rfl,ha.at_⟩
      refine wpIn_mono (hbody lb db fn a.tmps pre x R' hp hh _ w2 hΓ hw3) ?_
      intro e a₁ w₁ hq
      cases e <;> first | exact hq.elim | skip
      obtain ⟨w₂,hb,hq⟩:=hq
      refine ⟨w₂,hb,wpIn_mono hq ?_⟩
      intro e a₂ w₃ hq
      have fin:∀ v w₄,((cont pre x∧Ending.returned v=.returned (.bool true)∧Sat g (Lp lb { rec0 with state:=.ready,pending:=none }::J (pre++[x])::Lend::R') w₄)∨(¬ cont pre x∧Ending.returned v=.returned (.bool false)∧∃ j,Sat g (Lp lb { rec0 with state:=.done,pending:=some j }::X pre x j::Lend::R') w₄))→RetK g K (.returned v) w₄:=by
        rintro v w₄ (⟨hc,e1,h1⟩ | ⟨hc,e1,j,h1⟩)
        · cases e1
          exact ⟨_,_,rfl,hT1 hc,h1.conv fun _=>bun_stars (L:=[_,_])⟩
        · cases e1
          exact ⟨_,_,rfl,hT2 hc,h1.conv fun _ h=>ex_stars j (bun_stars (L:=[_,_]) h)⟩
      cases e <;> first | exact hq.elim | skip
      all_goals
        obtain ⟨v,w₄,h1,h2⟩:=hq
        exact ⟨v,w₄,h1,fin v w₄ h2⟩
    have hw1:Sat g (J' []::Pre++(pt db (.deferred (some []))::R)) w1:=by
      have h1:=hw.push (.deferred (some []))
      have h2:=h1.push (.loop rec0)
      refine h2.conv fun S hS=>?_
      have h3:(w.alloc (.deferred (some []))).heap.size=lb:=by simp [lb]
      have hS':stars (Lp lb rec0::pt db (.deferred (some []))::L) S:=by
        have:=hS;simp only [World.alloc] at h3;rw [h3] at this;exact this
      have h4:stars (Lp lb rec0::pt db (.deferred (some []))::(J []::Pre++R)) S:=stars_cons (fun _=>stars_cons (fun _=>hL.to)) hS'
      refine bun_stars (L:=[Lp lb rec0,J []]) ?_
      refine stars_cons (fun S h=>?_) h4
      have h5:stars (J []::pt db (.deferred (some []))::(Pre++R)) S:=stars_swap h
      exact stars_cons (fun S h=>stars_move h) h5
    have hcall:=hit (.func (.yield lb) #[] #[]) J' X' cont hy (pt db (.deferred (some []))::R) (fun v M=>∀ w3,Sat g M w3→rangePost (FR none) 0 P lb Q { a with defers:=[⟨.collected db,#[]⟩]++a.defers } (.returned v) w3) w1 hw1 ?_
    · refine HO.enter.callsIn_fr (hcall.mono ?_)
      rintro e w3 ⟨v,M,rfl,hk,hw3⟩
      exact hk w3 hw3
    · have haD:Env.ok ⟨n,⟨.collected db,#[]⟩::D,l⟩ { a with defers:=[⟨.collected db,#[]⟩]++a.defers }:=⟨ha.size,by simp [show a.defers=D from ha.defers],ha.at_⟩
      refine ⟨fun xs hx hh w3 hw3=>?_,fun pre x hp hh hc w3 hw3=>?_⟩
      · have h1:Sat g (Lp lb rec0::J xs::(Out++pt db (.deferred (some []))::R)) w3:=hw3.conv fun _=>stars_bun
        refine ⟨none,_,run_endLoop (h1.get .z) rfl,?_⟩
        have h2:=lp_set (rec':={ rec0 with state:=.exhausted }) h1
        exact hdone db xs hx hh _ _ haD (h2.conv fun _ h=>stars_cons (fun _=>stars_unmove) (stars_tail h))
      · obtain ⟨j,h1⟩:∃ j,Sat g (Lp lb { rec0 with state:=.done,pending:=some j }::X pre x j::(Out++pt db (.deferred (some []))::R)) w3:=by
          obtain ⟨j,hj⟩:=stars_ex hw3.heap
          exact ⟨j,hw3.os,hw3.tape,hw3.output,hw3.size,stars_bun hj⟩
        refine ⟨some j,_,run_endLoop (h1.get .z) rfl,?_⟩
        have h2:=lp_set (rec':={ rec0 with state:=.exhausted,pending:=some j }) h1
        exact hstop db pre x j hp hh hc _ _ haD (h2.conv fun _ h=>stars_cons (fun _=>stars_unmove) (stars_tail h))
theorem own_to {S:Piece} {E z n i:Nat} {u:Value} {cs:List Value} (h:Own E z u n cs S) (hi:i≤n):Own E z (subV u 0 i none z) i (cs.take (i * z)) S:=by
  rcases h with ⟨rfl,h2,a,h3⟩ | ⟨b,o,c,l,rfl,h2,h3,h4,h5,h6⟩
  · have:i=0:=by omega
    subst this;subst h2;subst h3
    exact .inl ⟨rfl,by simp,a,by simp [subV]⟩
  · refine .inr ⟨b,o,c,l,?_,by omega,h3,h4,h5,?_⟩
    · simp [subV,add_none]
    · rw [h6,List.take_take,Nat.min_eq_left (Nat.mul_le_mul_right _ hi)]
theorem sl_to {α:Type} {S:Piece} {E z i:Nat} {u:Value} {enc:α→List Value} {xs:List α} (he:EncOk z enc) (h:Sl E z enc u xs S) (hi:i≤xs.length):Sl E z enc (subV u 0 i none z) (xs.take i) S:=by
  have:=own_to h hi
  unfold Sl
  rw [List.length_take,Nat.min_eq_left hi,← flat_take he];exact this
theorem hl_clear {α:Type} {T E z y lo:Nat} {x:Operand} {enc:α→List Value} {u w':Value} {zs:List Value} {xs:List α} {N:List HP} {K:Value→List HP→Prop} (z0:α) (hs:slOf P T=some (E,z,y)) (hz:zeroOf P E=some zs) (he:EncOk z enc) (hz0:enc z0=zs) (hlo:lo≤xs.length) (h0:0 < xs.length)
    (hK:K (.tuple #[]) N) (hu:w'=subV u lo xs.length none z:=by rfl) (hx:ev Γ x=some w':=by rfl) (hp:Put L (Sl E z enc u xs) (Sl E z enc u (xs.take lo++List.replicate (xs.length - lo) z0)) N:=by repeat first | exact .z | apply Put.s) {dst:Option Tmp} {t:TypeId} {pos:String} {aft:Array Edge} {gd:Option (Nat × Bool)}:HO P r g ⟨dst,.call ⟨.builtin .clear,#[x],#[T]⟩,t,pos,aft,gd⟩ Γ L K:=by
  intro a w Q next ha hw hn
  obtain ⟨R,p1,p2⟩:=hp.picks
  obtain ⟨S1,S2,hd,l1,l2,h1,h2⟩:=p1.to hw.heap
  obtain ⟨b,o,c,l,e1,e2,e3,e4,e5,e6⟩:=own_at h1 h0
  have hw':Sat g (cl b E l::R) w:=⟨hw.os,hw.tape,hw.output,hw.size,S1,S2,hd,l1,l2,e6,h2⟩
  have hA:At w' b (o+lo * z) (xs.length - lo) (c - lo):=by
    rw [hu,e1]
    exact (At.lit (b:=b) (o:=o) e2).sub (lo:=lo) (hi:=xs.length) (m:=c) (z:=z) hlo e2 (Nat.le_refl _)
  have hcz:(c - lo) * z=c * z - lo * z:=Nat.sub_mul _ _ _
  have hlz:lo * z≤c * z:=Nat.mul_le_mul_right _ (by omega)
  have hnz:xs.length * z≤c * z:=Nat.mul_le_mul_right _ e2
  have hnz2:lo * z≤xs.length * z:=Nat.mul_le_mul_right _ hlo
  have hnz3:(xs.length - lo) * z=xs.length * z - lo * z:=Nat.sub_mul _ _ _
  have hrl:((List.replicate (xs.length - lo) zs).flatten).length=(xs.length - lo) * z:=by simp [← hz0,he.len]
  refine h_clear (K:=fun v M=>K v N∧M=cl b E (splice l (o+lo * z) (List.replicate (xs.length - lo) zs).flatten)::R) (L:=cl b E l::R) (l:=l) (b:=b) (U:=E) (N:=_::R) hs hz hA (by omega) ?_ (by rw [← hz0];exact he.len z0) (by rw [← hz0];exact he.one z0) hx .z a w Q next ha hw' ?_
  · exact ⟨hK,rfl⟩
  · rintro v M w2 ⟨hk,rfl⟩ hw2
    refine hn v N w2 hk (hw2.conv fun S hS=>p2.back (stars_one_cons (fun S h=>?_) hS))
    unfold Sl
    have hlen:(xs.take lo++List.replicate (xs.length - lo) z0).length=xs.length:=by simp;omega
    rw [hlen,e1]
    refine at_own (At.lit e2) e3 ?_ ?_ S h
    · rw [splice_len _ _ _ (by rw [hrl];omega)];exact e4
    · apply List.ext_getElem?
      intro i
      rw [td_get,splice_get _ _ _ (by rw [hrl];omega),hrl,List.flatMap_append,List.getElem?_append,flat_len he,List.length_take,Nat.min_eq_left hlo]
      have hi5:∀ i,i < xs.length * z→l[o+i]?=(xs.flatMap enc)[i]?:=fun i hi=>by rw [← e5,td_get,if_pos hi]
      by_cases h1:i < lo * z
      · rw [if_pos (by omega),if_pos (by omega),if_pos h1,hi5 i (by omega),← flat_take he,List.getElem?_take,if_pos h1]
      · rw [if_neg h1]
        by_cases h2:i < xs.length * z
        · rw [if_pos h2,if_neg (by omega),if_pos (by omega),show o+i - (o+lo * z)=i - lo * z by omega,List.flatMap_replicate,hz0]
        · rw [if_neg h2]
          symm;apply List.getElem?_eq_none
          rw [List.flatMap_replicate,hz0,hrl];omega
where
  stars_one_cons {A B:HP} {R:List HP} {S:Piece} (h:∀ S,A S→B S) (hs:stars (A::R) S):stars (B::R) S:=by
    obtain ⟨S1,S2,a,b,c,d,e⟩:=hs;exact ⟨S1,S2,a,b,c,h _ d,e⟩
theorem e_min32 {dst:Option Tmp} {t:TypeId} {pos:String} {aft:Array Edge} {gd:Option (Nat × Bool)} {x y:Operand} {T U:TypeId} {a b:UInt32} (hx:ev Γ x=some (.int .u32 a.toNat):=by rfl) (hy:ev Γ y=some (.int .u32 b.toNat):=by rfl):EO P g ⟨dst,.call ⟨.builtin .min,#[x,y],#[T,U]⟩,t,pos,aft,gd⟩ Γ L (.int .u32 (if b < a then b else a).toNat):=by
  have h:=e_minI (P:=P) (g:=g) (L:=L) (dst:=dst) (t:=t) (pos:=pos) (aft:=aft) (gd:=gd) (T:=T) (U:=U) hx hy
  have e:(if (b.toNat:Int) < a.toNat then (b.toNat:Int) else a.toNat)=((if b < a then b else a).toNat:Nat):=by
    by_cases h:b < a
    · rw [if_pos h,if_pos (by have:=UInt32.lt_iff_toNat_lt.1 h;omega)]
    · rw [if_neg h,if_neg (by intro h';exact h (UInt32.lt_iff_toNat_lt.2 (by omega)))]
  rw [← e];exact h
theorem CallV.bun {y v:Value} {args:List Value} {L:List HP} (h:CallV P g y args L fun K R=>K v (L++R)):CallV P g y args [SL.bun L] fun K R=>K v (SL.bun L::R):=by
  intro R K w r hw hT
  obtain ⟨d,nx,w',h1,h2,h3⟩:=h R (fun u M=>u=v∧M=L++R) w r (hw.conv fun _=>stars_bun) ⟨rfl,rfl⟩
  have hm:∀ e w,RetK g (fun u M=>u=v∧M=L++R) e w→RetK g K e w:=by
    rintro e w ⟨u,M,rfl,⟨rfl,rfl⟩,hs⟩
    exact ⟨_,_,rfl,hT,hs.conv fun _=>bun_stars⟩
  refine ⟨d,nx,w',h1,h2,?_⟩
  cases nx <;> simp only at h3 ⊢ <;> first | exact h3.elim | exact h3.mono hm | exact RoundIn.mono h3 hm
theorem e_mne {κ:Type} [DecidableEq κ] {ek:κ→Value} {kvs:List (κ × Value)} {m:Value} {dst:Option Tmp} {t:TypeId} {pos:String} {aft:Array Edge} {gd:Option (Nat × Bool)} {xt yt kt e:TypeId} {x y:Operand} (hT:P.underlying xt=some (.map kt e)) (hx:ev Γ x=some m:=by rfl) (hy:ev Γ y=some (.map none):=by rfl) (hp:Pick L (Mp ek m kvs) M:=by repeat first | exact .z | apply Pick.s) :
    EO P g ⟨dst,.binOp .neq xt x y yt,t,pos,aft,gd⟩ Γ L (.bool true):=
  .of (by simp) fun ρ hρ w hw=>by
    have h1:=hρ x m (by simp [Op.operands]) hx
    have h2:=hρ y _ (by simp [Op.operands]) hy
    obtain ⟨b,es,clock,rfl,_⟩:=hw.mp hp
    show ((do pure (Next.value (← (do eqGuard .neq xt x y (ρ x) (ρ y);binOp .neq xt (ρ x) (ρ y):Sem Value))):Sem Next)).run P w=_
    rw [h1,h2,eqGuard_at_map]
    show ((do pure (Next.value (← (do pure (.bool (!(← Op.equal xt (.map (some b)) (.map none)))):Sem Value))):Sem Next)).run P w=_
    have he:(Op.equal xt (.map (some b)) (.map none)).run P w=.ok false w:=by
      unfold Op.equal;rw [show Op.maxDepth=9999+1 from rfl];unfold Op.equalIn;simp only [Sem.run_bind,run_underlying hT,Result.andThen_ok];rfl
    simp only [Sem.run_bind,he,Result.andThen_ok,Sem.run_pure];rfl
theorem MpIt_Mp {κ:Type} {ek:κ→Value} {m it:Value} {kvs left:List (κ × Value)} {cur:Option (κ × Value)}:∀ S,MpIt ek m it kvs left cur S→Mp ek m kvs S:=fun S h=>by
  obtain ⟨b,i,es,clock,seen,rfl,_,_,hb,_,h3,h4,h5,_⟩:=h
  exact ⟨b,es,clock,rfl,hb,h3,h4,h5⟩
theorem lit_own {α:Type} {z b n:Nat} {E:TypeId} {enc:α→List Value} (he:EncOk z enc) {l:List Value} (xs:List α) (h:xs.flatMap enc=l) (hn:xs.length=n) (hb:n < 9223372036854775808):∀ S,cl b E l S→Sl E z enc (.slice (some ⟨b,0,none⟩) n n) xs S:=fun S hS=>by
  unfold Sl
  have hl:l.length=n * z:=by rw [← h,flat_len he,hn]
  rw [hn]
  refine at_own (At.lit (Nat.le_refl n)) hb (by omega) ?_ S hS
  rw [List.drop_zero,List.take_of_length_le (by omega),h]
theorem hist_all {α:Type} {c:α→Prop} {xs:List α} (h:Hist (fun _ x=>c x) xs):∀ x ∈ xs,c x:=fun x hx=>by
  obtain ⟨A,B,rfl⟩:=List.append_of_mem hx
  exact h A x B rfl
end
end Go.SL
namespace Go.SL
open Go
section
variable {P : Program} {r : Option Nat} {g : World} {Γ : Env} {L M : List HP} {Q : Post}
theorem WP.cutL {α:Type} {c d:Code} {n:Nat} {D:List Deferred} {l:List (Nat × Value)} (E:α→List (Nat × Value)) (H:α→List HP) (φ:α→Prop) (h:WP P r g c (Exit.then (Meet g n D (fun x=>(E x++l,H x)) φ) Q) ⟨n,D,l⟩ L) (hd:∀ x,φ x→WP P r g d Q ⟨n,D,E x++l⟩ (H x)) :
    WP P r g (.seq c d) Q ⟨n,D,l⟩ L:=WP.cut (fun x=>(E x++l,H x)) φ h hd
theorem WP.cutR {α:Type} {c d:Code} {n:Nat} {D:List Deferred} {l:List (Nat × Value)} (E:α→List (Nat × Value)) (H:α→List HP) (keep:List (Nat × Value)) (φ:α→Prop) (h:WP P r g c (Exit.then (Meet g n D (fun x=>(E x++keep,H x)) φ) Q) ⟨n,D,l⟩ L) (hd:∀ x,φ x→WP P r g d Q ⟨n,D,E x++keep⟩ (H x))
    (hl:EnvSub keep l:=by repeat first | exact EnvSub.nil | refine EnvSub.cons rfl ?_):WP P r g (.seq c d) Q ⟨n,D,l⟩ L:=WP.cut (fun x=>(E x++keep,H x)) φ h hd
theorem h_makeMapB {κ:Type} [DecidableEq κ] {ek:κ→Value} {dst:Option Tmp} {t:TypeId} {pos:String} {aft:Array Edge} {gd:Option (Nat × Bool)} {T:TypeId} {K:Value→List HP→Prop} (hK:∀ b,K (.map (some b)) (Mp ek (.map (some b)) ([]:List (κ × Value))::L)):HO P r g ⟨dst,.makeMap T none,t,pos,aft,gd⟩ Γ L K:=
  HO.run (by simp) fun a w _ hw=>by
    have h:=hw.push (.map #[] 0)
    obtain ⟨T1,T2,hd',m1,m2,hA1,hA2⟩:=h.heap
    refine ⟨.map (some w.heap.size),_,w.alloc (.map #[] 0),by simp [execOp,Instr.makeMap],hK _,h.os,h.tape,h.output,h.size,T1,T2,hd',m1,m2,⟨w.heap.size,[],0,rfl,hA1,rfl,by simp,by simp⟩,hA2⟩
end
end Go.SL
