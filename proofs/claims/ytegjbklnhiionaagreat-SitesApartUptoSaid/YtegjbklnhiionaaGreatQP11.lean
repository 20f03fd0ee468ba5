import Derived.Test.YtegjbklnhiionaaGreatQP10
import Derived.Sort.AssemblyPlain
set_option linter.unusedSimpArgs false
set_option linter.unusedVariables false
set_option linter.unusedSectionVars false
namespace Go.SL
open Go
structure AtS {I:Kind} (G:Good I) (s:StV) (ts:List TxT) (H:List (List ChgM)) (b:Nat):Prop where
  ok:G.Ok s b
  txs:s.txs=ts
  his:s.H=H
  at_:s.at_≤82 * H.length
section
variable {I : Kind} {G : Good I} {s : StV} {ts : List TxT} {H : List (List ChgM)} {b : Nat}
theorem AtS.first (h:G.Ok stF 0):AtS G stF [] [] 0:=⟨h,rfl,rfl,Nat.zero_le _⟩
theorem AtS.beg (h:AtS G s ts H b) (n:UInt32) (q:Nat) (h0:n≠0) (hf:Zs' ts n=none) (hl:ts.length < 32) :
    begE s n=0∧AtS G (begS s n q) (ts++[⟨n,q,⟨UInt32.ofNat H.length,[],[],[]⟩⟩]) H b:=by
  have hE:begE s n=0:=by
    unfold begE
    rw [if_neg h0,h.txs,hf]
    simp;omega
  refine ⟨hE,G.beg h.ok n q,?_,?_,?_⟩ <;> rw [begS,if_pos hE]
  · show s.txs++[begT s n q]=_
    rw [h.txs,begT,h.his]
  · exact h.his
  · exact h.at_
theorem AtS.com (h:AtS G s ts H b) {n:UInt32} {t:TxT} (hf:Zs' ts n=some t) (hc:I.chk s t.x=false) (hl:t.x.own.length≤80) (hH:H.length≤40) (hb:b≤1000) :
    comE I s n=0∧comN I s n=UInt32.ofNat H.length+1∧AtS G (comS I s n) (delU ts n) (H++[t.x.own]) (b+1):=by
  have hok:=G.ok h.ok
  have hf':Zs' s.txs n=some t:=by rw [h.txs];exact hf
  have hcl:=(XK' t.x.own).2 (hok.own t (ZI' hf'))
  have hlen:=K0' t.x.own
  have hat:=h.at_
  have hfit:Y1' s t.x:=⟨by omega,by rw [hok.log.len];unfold secs;omega⟩
  have hE:comE I s n=0:=by simp [comE,hf',hc,hfit]
  have hS2:comS I s n=addS (I.ends s n) t.x.own:=by simp [comS,hf',hc,hfit]
  obtain ⟨e1,e2,e3,e4⟩:=G.endsE h.ok n
  refine ⟨hE,by rw [comN,if_pos hE,h.his],G.com h.ok (by omega) n,?_,?_,?_⟩
  · rw [hS2];show (I.ends s n).txs=_;rw [e4,h.txs]
  · rw [hS2];show (I.ends s n).H++_=_;rw [e3,h.his]
  · rw [hS2];show (I.ends s n).at_+_≤_;rw [e2,List.length_append,List.length_singleton];unfold secs;omega
theorem AtS.rows (h:AtS G s ts H b):s.rows=ZJ' H H.length:=by unfold StV.rows;rw [h.his]
theorem AtS.abo (h:AtS G s ts H b) {n:UInt32} {t:TxT} (hf:Zs' ts n=some t):aboE s n=0∧AtS G (aboS I s n) (delU ts n) H b:=by
  have hf':Zs' s.txs n=some t:=by rw [h.txs];exact hf
  obtain ⟨e1,e2,e3,e4⟩:=G.endsE h.ok n
  have hS:aboS I s n=I.ends s n:=by simp [aboS,hf']
  refine ⟨by simp [aboE,hf'],?_⟩
  rw [hS]
  exact ⟨G.ends h.ok n,by rw [e4,h.txs],by rw [e3,h.his],by rw [e2];exact h.at_⟩
end
section
variable {s : StV} {ts : List TxT} {H : List (List ChgM)} {b : Nat}
theorem ZdD_:BetOk stF 0:=⟨ZdA_,by decide,by intro t h;cases h⟩
theorem AtS.put (h:AtS YC' s ts H b) {n:UInt32} {t:TxT} (hf:Zs' ts n=some t) {k:ByteArray} (hk:Yz' k=true) (v:UInt32) (hb:b≤1000) :
    ∃ s',doB s n (Ko' k v)=.put s'∧AtS YC' s' (setU ts n { t.x with own:=t.x.own++[⟨k,v,false⟩] }) H (b+1):=by
  have hf':Zs' s.txs n=some t:=by rw [h.txs];exact hf
  have e:doB s n (Ko' k v)=.put { s with txs:=setU s.txs n { t.x with own:=t.x.own++[Z4' (Ko' k v)] } }:=by simp [doB,ZeR_,hk,hf',ZoA_]
  refine ⟨_,e,?_,?_,h.his,h.at_⟩
  · obtain ⟨_,_,_,_,_,_,_,_,_,hok,_⟩:=YC'.put h.ok (by omega) e
    exact hok
  · show setU s.txs n _=_
    rw [h.txs];rfl
theorem AtS.get (h:AtS YC' s ts H b) {n:UInt32} {t:TxT} (hf:Zs' ts n=some t) {k:ByteArray} (hk:Yz' k=true) (hb:b≤1000) :
    ∃ s',doB s n (J0' k)=.look s' (ZT' (Zw' (ZJ' H t.x.at_.toNat) t.x.own) (one k) 256)∧AtS YC' s' (setU ts n { t.x with looked:=t.x.looked++[one k] }) H (b+1):=by
  have hf':Zs' s.txs n=some t:=by rw [h.txs];exact hf
  have e:doB s n (J0' k)=.look { s with txs:=setU s.txs n { t.x with looked:=t.x.looked++[one k] } } (ZT' (Zw' (ZJ' s.H t.x.at_.toNat) t.x.own) (one k) 256):=by simp [doB,ZeS_,hk,hf',ZoB_,Zlj_]
  refine ⟨{ s with txs:=setU s.txs n { t.x with looked:=t.x.looked++[one k] } },e.trans (by rw [show ZJ' s.H t.x.at_.toNat=ZJ' H t.x.at_.toNat by rw [h.his]]),?_,?_,h.his,h.at_⟩
  · obtain ⟨_,_,_,_,_,_,_,_,_,hok,_⟩:=YC'.look h.ok (by omega) e
    exact hok
  · show setU s.txs n _=_
    rw [h.txs]
theorem AtS.chk (h:AtS YC' s ts H b) (x:TX):YG'.chk s x=x.looked.any fun p=>JQ' H x.at_.toNat p:=by
  show chkB s x=_
  unfold chkB;rw [h.his]
theorem AtS.step (h:AtS YC' s ts H b) {n:UInt32} {t:TxT} (hf:Zs' ts n=some t) (hb:b≤1000) (x:OpM) :
    (opOk x=false∧doB s n x=.err s 1)∨(opOk x=true∧Zp' x=true∧∃ s',doB s n x=.put s'∧AtS YC' s' (setU ts n { t.x with own:=t.x.own++[Z4' x] }) H (b+1)) ∨
    (opOk x=true∧Zp' x=false∧∃ s',doB s n x=.look s' (ZT' (Zw' (ZJ' H t.x.at_.toNat) t.x.own) (Zi' x) 256)∧AtS YC' s' (setU ts n { t.x with looked:=t.x.looked++[Zi' x] }) H (b+1)):=by
  have hf':Zs' s.txs n=some t:=by rw [h.txs];exact hf
  cases hx:opOk x with
  | false=>exact .inl ⟨rfl,by unfold doB;rw [hx];rfl⟩
  | true=>
    right
    cases hw:Zp' x with
    | true=>
      have e:doB s n x=.put { s with txs:=setU s.txs n { t.x with own:=t.x.own++[Z4' x] } }:=by simp [doB,hx,hf',hw]
      refine .inl ⟨rfl,rfl,_,e,?_,?_,h.his,h.at_⟩
      · obtain ⟨_,_,_,_,_,_,_,_,_,hok,_⟩:=YC'.put h.ok (by omega) e
        exact hok
      · show setU s.txs n _=_
        rw [h.txs]
    | false=>
      have e:doB s n x=.look { s with txs:=setU s.txs n { t.x with looked:=t.x.looked++[Zi' x] } } (ZT' (Zw' (ZJ' s.H t.x.at_.toNat) t.x.own) (Zi' x) 256):=by simp [doB,hx,hf',hw]
      refine .inr ⟨rfl,rfl,{ s with txs:=setU s.txs n { t.x with looked:=t.x.looked++[Zi' x] } },e.trans (by rw [show ZJ' s.H t.x.at_.toNat=ZJ' H t.x.at_.toNat by rw [h.his]]),?_,?_,h.his,h.at_⟩
      · obtain ⟨_,_,_,_,_,_,_,_,_,hok,_⟩:=YC'.look h.ok (by omega) e
        exact hok
      · show setU s.txs n _=_
        rw [h.txs]
theorem AtS.own_le (h:AtS YC' s ts H b) {t:TxT} (ht:t ∈ ts):t.x.own.length≤b:=by
  have:=(YC'.ok h.ok).own_le (t:=t) (by rw [h.txs];exact ht);omega
abbrev tS (n:UInt32) (q:Nat) (a:UInt32) (L:List SpanM) (O:List ChgM):TxT:=⟨n,q,⟨a,L,O,[]⟩⟩
end
end Go.SL
namespace Go.SL
open Go
abbrev LkT:=List (UInt32 × List LockM)
def eqS (a b:SpanM):Bool:=sEq a.a b.a && sEq a.b b.b
theorem Zm7_ {a b:SpanM}:eqS a b=true↔a=b:=by
 unfold eqS
 rw [Bool.and_eq_true,XW',XW']
 cases a;cases b;simp
def Zh4_ (n:UInt32) (p:SpanM) (w:Bool) (e:UInt32 × List LockM):Bool:=decide (e.1≠n) && e.2.any fun l=>(w || l.alone) && meet l.s p
def wayL (L:LkT) (n:UInt32) (p:SpanM) (w:Bool):List UInt32:=((L.filter (Zh4_ n p w)).map (·.1)).mergeSort (fun a b=>decide (a≤b))
theorem ZcY_ {L:LkT} {n k:UInt32} {p:SpanM} {w:Bool}:k ∈ wayL L n p w↔k≠n∧∃ ls,(k,ls) ∈ L∧∃ l ∈ ls,(w || l.alone)=true∧meet l.s p=true:=by
 unfold wayL
 rw [List.mem_mergeSort,List.mem_map]
 constructor
 ·rintro ⟨⟨k',ls⟩,h,rfl⟩
  obtain ⟨h1,h2⟩:=List.mem_filter.1 h
  simp only [Zh4_,Bool.and_eq_true,decide_eq_true_eq,List.any_eq_true] at h2
  obtain ⟨h3,l,h4,h5,h6⟩:=h2
  exact ⟨h3,ls,h1,l,h4,h5,h6⟩
 ·rintro ⟨h1,ls,h2,l,h3,h4,h5⟩
  refine ⟨(k,ls),List.mem_filter.2 ⟨h2,?_⟩,rfl⟩
  simp only [Zh4_,Bool.and_eq_true,decide_eq_true_eq,List.any_eq_true]
  exact ⟨h1,l,h3,h4,h5⟩
theorem ZgY_ (L:LkT) (n:UInt32) (p:SpanM) (w:Bool):(wayL L n p w).length≤L.length:=by
 unfold wayL
 rw [List.length_mergeSort,List.length_map];exact List.length_filter_le _ _
theorem ZjL_ {L:LkT} (hn:(L.map (·.1)).Nodup) {n:UInt32} {p:SpanM} {w:Bool} (h:wayL L n p w=[]) {k:UInt32} (hk:k≠n) {ls:List LockM} (hl:getS L k=some ls) {l:LockM} (hm:l ∈ ls) (ha:(w || l.alone)=true):meet l.s p=false:=by
 cases e:meet l.s p with
 | false=>rfl
 | true=>
  have:k ∈ wayL L n p w:=ZcY_.2 ⟨hk,ls,Jc' hl,l,hm,ha,e⟩
  rw [h] at this;cases this
def askL (ls:List LockM) (p:SpanM) (w:Bool):List LockM:=match ls.findIdx? (fun l=>eqS l.s p) with
 | none=>ls++[⟨p,w⟩]
 | some i=>ls.set i ⟨p,(match ls[i]? with | some l=>l.alone | none=>false) || w⟩
theorem UK' {ls:List LockM} {p:SpanM} {i:Nat} (h:ls.findIdx? (fun l=>eqS l.s p)=some i):∃ l,ls[i]?=some l∧l.s=p:=by
 obtain ⟨h1,h2,_⟩:=List.findIdx?_eq_some_iff_getElem.1 h
 exact ⟨ls[i],List.getElem?_eq_getElem h1,Zm7_.1 h2⟩
theorem Zlw_ (ls:List LockM) (p:SpanM) (w:Bool):(askL ls p w).length≤ls.length+1:=by
 unfold askL;split <;> simp
theorem Zlx_ (ls:List LockM) (p:SpanM) (w:Bool):∃ l ∈ askL ls p w,l.s=p∧(w=true→l.alone=true):=by
 unfold askL
 split
 ·exact ⟨⟨p,w⟩,by simp,rfl,fun h=>h⟩
 ·rename_i i hi
  obtain ⟨l,hl,_⟩:=UK' hi
  refine ⟨⟨p,_⟩,List.mem_iff_getElem?.2 ⟨i,by rw [List.getElem?_set_self (Yf' hl)]⟩,rfl,fun h=>by simp [h]⟩
theorem Zly_ {ls:List LockM} {p:SpanM} {w:Bool} {l:LockM} (h:l ∈ ls):∃ m ∈ askL ls p w,m.s=l.s∧(l.alone=true→m.alone=true):=by
 unfold askL
 split
 ·exact ⟨l,by simp [h],rfl,fun h=>h⟩
 ·rename_i i hi
  obtain ⟨k,hk,hks⟩:=UK' hi
  obtain ⟨j,hj⟩:=List.mem_iff_getElem?.1 h
  by_cases e:i=j
  ·subst e
   rw [hk] at hj;cases hj
   exact ⟨⟨p,_⟩,List.mem_iff_getElem?.2 ⟨i,by rw [List.getElem?_set_self (Yf' hk)]⟩,hks.symm,fun h=>by rw [hk];simp [h]⟩
  ·exact ⟨l,List.mem_iff_getElem?.2 ⟨j,by rw [List.getElem?_set_ne e];exact hj⟩,rfl,fun h=>h⟩
theorem Zlz_ {ls:List LockM} {p:SpanM} {w:Bool} {m:LockM} (h:m ∈ askL ls p w):m ∈ ls∨(m.s=p∧(m.alone=true→w=true∨∃ l ∈ ls,l.s=p∧l.alone=true)):=by
 unfold askL at h
 split at h
 ·rcases List.mem_append.1 h with h | h
  ·exact .inl h
  ·simp at h;subst h;exact .inr ⟨rfl,fun h=>.inl h⟩
 ·rename_i i hi
  obtain ⟨k,hk,hks⟩:=UK' hi
  rcases List.mem_or_eq_of_mem_set h with h | h
  ·exact .inl h
  ·subst h
   refine .inr ⟨rfl,fun h=>?_⟩
   rw [hk] at h
   simp only [Bool.or_eq_true] at h
   rcases h with h | h
   ·exact .inr ⟨k,List.mem_of_getElem? hk,hks,h⟩
   ·exact .inl h
def Y2' (L:LkT) (n:UInt32) (p:SpanM) (w:Bool):LkT:=setS L n (askL ((getS L n).getD []) p w)
def Xn' (L:LkT) (n:UInt32):LkT:=L.eraseP fun e=>decide (e.1=n)
theorem VY' {L:LkT} (hn:(L.map (·.1)).Nodup) (n j:UInt32):getS (Xn' L n) j=if j=n then none else getS L j:=by
 unfold getS Xn'
 induction L with
 | nil=>simp
 | cons x L ih=>
  rw [List.map_cons] at hn
  obtain ⟨h1,h2⟩:=List.nodup_cons.1 hn
  rw [List.eraseP_cons]
  by_cases e:x.1=n
  ·simp only [e,decide_true,cond_true]
   by_cases e2:j=n
   ·subst e2
    rw [if_pos rfl,List.find?_eq_none.2 (fun y hy=>?_)];· rfl
    simp only [decide_eq_true_eq]
    intro e3
    exact h1 (by rw [e,← e3];exact List.mem_map.2 ⟨y,hy,rfl⟩)
   ·rw [if_neg e2,List.find?_cons]
    have:¬ n=j:=fun e3=>e2 e3.symm
    simp [e,this]
  ·simp only [e,decide_false,cond_false]
   rw [List.find?_cons,List.find?_cons]
   by_cases e3:x.1=j
   ·have:¬ j=n:=fun e4=>e (e3.trans e4)
    simp [e3,this]
   ·simp only [e3,decide_false]
    exact ih h2
def totL (L:LkT):Nat:=(L.map fun e=>e.2.length+1).sum
theorem Ze5_ (L:LkT):L.length≤totL L:=by
 unfold totL
 induction L with
 | nil=>simp
 | cons x L ih=>simp;omega
theorem Ze6_ {L:LkT} {e:UInt32 × List LockM} (h:e ∈ L):e.2.length≤totL L:=by
 obtain ⟨A,B,rfl⟩:=List.append_of_mem h
 simp [totL];omega
theorem ZjM_ (L:LkT) (n:UInt32):totL (Xn' L n)≤totL L:=by
 unfold totL Xn'
 induction L with
 | nil=>simp
 | cons x L ih=>
  rw [List.eraseP_cons]
  cases decide (x.1=n)
  ·simp only [cond_false,List.map_cons,List.sum_cons];omega
  ·simp
theorem ZlA_ (L:LkT) (n:UInt32) (ws:List LockM) (h:ws.length≤((getS L n).getD []).length+1):totL (setS L n ws)≤totL L+2:=by
 unfold setS
 split
 ·rename_i i hi
  obtain ⟨h1,h2,_⟩:=List.findIdx?_eq_some_iff_getElem.1 hi
  have hg:getS L n=some L[i].2:=by
   have:=hi
   unfold getS
   rw [List.findIdx?_eq_some_iff_getElem] at hi
   obtain ⟨_,_,h3⟩:=hi
   rw [(List.find?_eq_some_iff_getElem (p:=fun p:UInt32 × List LockM=>decide (p.1=n)) (b:=L[i])).2 ⟨h2,i,h1,rfl,fun j hj=>by simpa using h3 j hj⟩];rfl
  rw [hg,Option.getD_some] at h
  have e:L=L.take i++L[i]::L.drop (i+1):=by rw [List.getElem_cons_drop,List.take_append_drop]
  have e2:L.set i (n,ws)=L.take i++(n,ws)::L.drop (i+1):=by rw [List.set_eq_take_append_cons_drop,if_pos h1]
  unfold totL
  rw [e2]
  conv=>rhs;rw [e]
  simp only [List.map_append,List.map_cons,List.sum_append,List.sum_cons]
  omega
 ·rename_i hi
  have hg:getS L n=none:=by
   unfold getS
   rw [List.find?_eq_none.2 (fun y hy=>by simpa using List.findIdx?_eq_none_iff.1 hi y hy)];rfl
  rw [hg] at h
  simp at h
  simp [totL];omega
inductive Reach (R:UInt32→UInt32→Prop) (a:UInt32):UInt32→Prop
 | refl:Reach R a a
 | tail {b c:UInt32}:Reach R a b→R b c→Reach R a c
def Kx' (ts:List TxT) (n:UInt32):List (UInt32 × UInt32):=ts.flatMap fun t=>if t.id=n then [] else (t.x.waits.filter fun w=>(Zs' ts w).isSome).map fun w=>(t.id,w)
open Classical in
noncomputable def Vh' (ts:List TxT) (n:UInt32) (way:List UInt32):Bool:=decide (∃ w ∈ way,Reach (fun a b=>(a,b) ∈ Kx' ts n) w n)
def Xo' (s:StV) (n:UInt32):StV:={ s with txs:=delU s.txs n,locks:=Xn' s.locks n }
noncomputable def doA (s:StV) (n:UInt32) (x:OpM):DoS:=
 if opOk x then match Zs' s.txs n with
  | none=>.err s 6
  | some t=>
   if meet (Zi' x) (Zi' x) && decide (0 < (wayL s.locks n (Zi' x) (Zp' x)).length) then
    if Vh' (setU s.txs n { t.x with waits:=[] }) n (wayL s.locks n (Zi' x) (Zp' x)) then .err (Xo' { s with txs:=setU s.txs n { t.x with waits:=[] } } n) 9
    else .err { s with txs:=setU s.txs n { t.x with waits:=wayL s.locks n (Zi' x) (Zp' x) } } 8
   else if Zp' x then .put { s with locks:=if meet (Zi' x) (Zi' x) then Y2' s.locks n (Zi' x) (Zp' x) else s.locks,txs:=setU s.txs n { t.x with own:=t.x.own++[Z4' x],waits:=[] } }
    else .look { s with locks:=if meet (Zi' x) (Zi' x) then Y2' s.locks n (Zi' x) (Zp' x) else s.locks,txs:=setU s.txs n { t.x with waits:=[] } } (ZT' (Zw' s.rows t.x.own) (Zi' x) 256)
 else .err s 1
noncomputable def YH':Kind:=⟨Xo',doA,fun _ _=>false⟩
end Go.SL
namespace Go.SL
open Go
theorem ZjN_ {ts:List TxT} {n:UInt32} {x:TX}:∀ t ∈ setU ts n x,∃ u ∈ ts,t.id=u.id:=Qt'
theorem StOk.waits {s s':StV} {b:Nat} (h:StOk s b) {n:UInt32} {t:TxT} (hf:Zs' s.txs n=some t) (ws:List UInt32) (hd:s'.d=s.d) (ha:s'.at_=s.at_) (hH:s'.H=s.H) (ht:s'.txs=setU s.txs n { t.x with waits:=ws }):StOk s' b:=by
  obtain ⟨hid,A,B,hts,hdel,hA⟩:=Yc' hf
  have e:s'.txs=A++{ t with x:={ t.x with waits:=ws } }::B:=by rw [ht,← hid,hts];exact Vy' (hts ▸ h.ids) _
  refine ⟨by rw [hd,ha,hH];exact h.log,by rw [hH];exact h.recs,?_,by rw [hH];exact h.hl,by rw [ht,Qs'];exact h.ids,?_,?_,by rw [ht];simp only [setU,List.length_map];exact h.tl,h.bb⟩
  · rw [hH,e];have:=h.sum;rw [hts] at this;simpa using this
  · rw [e];intro y hy
    rcases List.mem_append.1 hy with hy | hy
    · exact h.own y (by rw [hts];simp [hy])
    · rcases List.mem_cons.1 hy with rfl | hy
      · exact h.own t (ZI' hf)
      · exact h.own y (by rw [hts];simp [hy])
  · rw [e];intro y hy
    rcases List.mem_append.1 hy with hy | hy
    · exact h.lks y (by rw [hts];simp [hy])
    · rcases List.mem_cons.1 hy with rfl | hy
      · exact h.lks t (ZI' hf)
      · exact h.lks y (by rw [hts];simp [hy])
structure AlphaOk (s:StV) (b:Nat):Prop where
  st:StOk s b
  keys:(s.locks.map (·.1)).Nodup
  compat:∀ a c la lc,getS s.locks a=some la→getS s.locks c=some lc→a≠c→∀ l ∈ la,∀ m ∈ lc,(l.alone || m.alone)=true→meet l.s m.s=false
  opn:∀ e ∈ s.locks,∃ t ∈ s.txs,t.id=e.1
  tot:totL s.locks≤2 * b
  waits:∀ t ∈ s.txs,t.x.waits.length≤2 * b
  nz:∀ t ∈ s.txs,t.id≠0
def VA (s:StV) (o:Og):Prop:=∀ t ∈ s.txs,t.x.own=chs (o t.id).1∧(∀ x ∈ (o t.id).1,opOk x=true)∧(runM s.rows (o t.id).1).1=(o t.id).2 ∧
  ∀ x ∈ (o t.id).1,meet (Zi' x) (Zi' x)=true→∃ ls,getS s.locks t.id=some ls∧∃ l ∈ ls,l.s=Zi' x∧(Zp' x=true→l.alone=true)
def lkS (s:StV) (n:UInt32) (p:SpanM) (w:Bool):LkT:=if meet p p then Y2' s.locks n p w else s.locks
theorem ZdE_ {s:StV} {b:Nat} (h:AlphaOk s b) {n:UInt32} {t:TxT} (hf:Zs' s.txs n=some t) {p:SpanM} {w:Bool} (hno:meet p p=true→wayL s.locks n p w=[]) :
    ((lkS s n p w).map (·.1)).Nodup ∧
    (∀ a c la lc,getS (lkS s n p w) a=some la→getS (lkS s n p w) c=some lc→a≠c→∀ l ∈ la,∀ m ∈ lc,(l.alone || m.alone)=true→meet l.s m.s=false) ∧
    (∀ e ∈ lkS s n p w,∃ t ∈ s.txs,t.id=e.1)∧totL (lkS s n p w)≤2 * (b+1) ∧
    (meet p p=true→∃ ls,getS (lkS s n p w) n=some ls∧∃ l ∈ ls,l.s=p∧(w=true→l.alone=true)) ∧
    (∀ k ls,getS s.locks k=some ls→∃ ls',getS (lkS s n p w) k=some ls'∧∀ l ∈ ls,∃ m ∈ ls',m.s=l.s∧(l.alone=true→m.alone=true)):=by
  unfold lkS
  have ht:=h.tot
  split
  · rename_i hm
    have hno:=hno hm
    have hget:∀ j,getS (Y2' s.locks n p w) j=if j=n then some (askL ((getS s.locks n).getD []) p w) else getS s.locks j:=fun j=>KO' _ _ _ j
    have hnew:∀ c lc,getS s.locks c=some lc→c≠n→∀ l ∈ askL ((getS s.locks n).getD []) p w,∀ m ∈ lc,(l.alone || m.alone)=true→meet l.s m.s=false:=by
      intro c lc hc hcn l hl m hmm ha
      have hold:∀ k ∈ (getS s.locks n).getD [],(k.alone || m.alone)=true→meet k.s m.s=false:=by
        intro k hk
        cases hg:getS s.locks n with
        | none=>rw [hg] at hk;cases hk
        | some ls=>rw [hg] at hk;exact h.compat n c ls lc hg hc (fun e=>hcn e.symm) k hk m hmm
      rcases Zlz_ hl with hl | ⟨hls,hla⟩
      · exact hold l hl ha
      · rw [hls]
        rw [Bool.or_eq_true] at ha
        rcases ha with ha | ha
        · rcases hla ha with hw | ⟨k,hk,hks,hka⟩
          · rw [Zaq_];exact ZjL_ h.keys hno hcn hc hmm (by rw [hw];rfl)
          · rw [← hks];exact hold k hk (by rw [hka];rfl)
        · rw [Zaq_];exact ZjL_ h.keys hno hcn hc hmm (by rw [ha];simp)
    refine ⟨UA' h.keys _ _,?_,?_,?_,?_,?_⟩
    · intro a c la lc ha hc hac l hl m hmm hal
      rw [hget] at ha hc
      by_cases e1:a=n
      · subst e1
        rw [if_pos rfl] at ha;cases ha
        rw [if_neg (fun e=>hac e.symm)] at hc
        exact hnew c lc hc (fun e=>hac e.symm) l hl m hmm hal
      · rw [if_neg e1] at ha
        by_cases e2:c=n
        · subst e2
          rw [if_pos rfl] at hc;cases hc
          rw [Zaq_]
          exact hnew a la ha e1 m hmm l hl (by rw [Bool.or_comm];exact hal)
        · rw [if_neg e2] at hc
          exact h.compat a c la lc ha hc hac l hl m hmm hal
    · intro e he
      have:=(Zaj_ s.locks n (askL ((getS s.locks n).getD []) p w) e.1).1 (List.mem_map.2 ⟨e,he,rfl⟩)
      rcases this with h1 | h1
      · exact ⟨t,ZI' hf,(Yc' hf).1.trans h1.symm⟩
      · obtain ⟨e',he',h2⟩:=List.mem_map.1 h1
        obtain ⟨u,hu,h3⟩:=h.opn e' he'
        exact ⟨u,hu,h3.trans h2⟩
    · have:=ZlA_ s.locks n (askL ((getS s.locks n).getD []) p w) (Zlw_ _ _ _)
      show totL (setS _ _ _)≤_
      omega
    · intro _
      exact ⟨_,by rw [hget,if_pos rfl],Zlx_ _ _ _⟩
    · intro k ls hk
      by_cases e:k=n
      · subst e
        refine ⟨_,by rw [hget,if_pos rfl],fun l hl=>?_⟩
        rw [hk]
        exact Zly_ hl
      · exact ⟨ls,by rw [hget,if_neg e];exact hk,fun l hl=>⟨l,hl,rfl,fun h=>h⟩⟩
  · rename_i hm
    exact ⟨h.keys,h.compat,h.opn,by omega,fun h=>absurd h hm,fun k ls hk=>⟨ls,hk,fun l hl=>⟨l,hl,rfl,fun h=>h⟩⟩⟩
theorem ZcZ_ {s:StV} {n:UInt32} {x:OpM}:(∃ e,doA s n x=.err s e∧(e=1∨e=6))∨∃ t,Zs' s.txs n=some t∧opOk x=true ∧
    ((doA s n x=.err (Xo' { s with txs:=setU s.txs n { t.x with waits:=[] } } n) 9)∨(doA s n x=.err { s with txs:=setU s.txs n { t.x with waits:=wayL s.locks n (Zi' x) (Zp' x) } } 8) ∨
     ((meet (Zi' x) (Zi' x)=true→wayL s.locks n (Zi' x) (Zp' x)=[]) ∧
      ((Zp' x=true∧doA s n x=.put { s with locks:=lkS s n (Zi' x) (Zp' x),txs:=setU s.txs n { t.x with own:=t.x.own++[Z4' x],waits:=[] } }) ∨
       (Zp' x=false∧doA s n x=.look { s with locks:=lkS s n (Zi' x) (Zp' x),txs:=setU s.txs n { t.x with waits:=[] } } (ZT' (Zw' s.rows t.x.own) (Zi' x) 256))))):=by
  unfold doA
  cases hx:opOk x with
  | false=>exact .inl ⟨1,by simp,.inl rfl⟩
  | true=>
    cases hf:Zs' s.txs n with
    | none=>exact .inl ⟨6,by simp,.inr rfl⟩
    | some t=>
      refine .inr ⟨t,rfl,rfl,?_⟩
      simp only [if_true]
      split
      · split
        · exact .inl rfl
        · exact .inr (.inl rfl)
      · rename_i hc
        refine .inr (.inr ⟨fun hm=>?_,?_⟩)
        · rw [hm] at hc
          simp only [Bool.true_and,decide_eq_true_eq] at hc
          exact List.length_eq_zero_iff.1 (by omega)
        · cases hw:Zp' x
          · exact .inr ⟨rfl,by simp [lkS]⟩
          · exact .inl ⟨rfl,by simp [lkS]⟩
theorem AlphaOk.mono {s:StV} {b c:Nat} (h:AlphaOk s b) (hb:b≤c) (hc:c≤1000000000):AlphaOk s c:=⟨h.st.mono hb hc,h.keys,h.compat,h.opn,by have:=h.tot;omega,fun t ht=>by have:=h.waits t ht;omega,h.nz⟩
theorem AlphaOk.ends {s:StV} {b:Nat} (h:AlphaOk s b) (n:UInt32):AlphaOk (Xo' s n) b:=by
  refine ⟨h.st.sub rfl rfl rfl Z8',?_,?_,?_,Nat.le_trans (ZjM_ _ _) h.tot,fun t ht=>h.waits t (Z8'.mem ht),fun t ht=>h.nz t (Z8'.mem ht)⟩
  · exact h.keys.sublist (List.eraseP_sublist.map _)
  · intro a c la lc ha hc
    have ha:getS (Xn' s.locks n) a=some la:=ha
    have hc:getS (Xn' s.locks n) c=some lc:=hc
    rw [VY' h.keys] at ha hc
    split at ha
    · cases ha
    · split at hc
      · cases hc
      · exact h.compat a c la lc ha hc
  · intro e he
    have he:e ∈ Xn' s.locks n:=he
    obtain ⟨t,ht,h1⟩:=h.opn e (List.eraseP_sublist.mem he)
    have hne:e.1≠n:=by
      intro e1
      have hnd:((Xn' s.locks n).map (·.1)).Nodup:=h.keys.sublist (List.eraseP_sublist.map _)
      have:=Zbt_ hnd he
      rw [VY' h.keys,if_pos e1] at this;cases this
    refine ⟨t,?_,h1⟩
    show t ∈ delU s.txs n
    cases hf:Zs' s.txs n with
    | none=>
      have:delU s.txs n=s.txs:=by
        unfold delU
        rw [List.eraseP_of_forall_not (fun y hy=>by have:=UH' hf y hy;simpa using this)]
      rw [this];exact ht
    | some u=>
      obtain ⟨hid,A,B,hts,hdel,_⟩:=Yc' hf
      rw [hdel]
      rw [hts] at ht
      rcases List.mem_append.1 ht with ht | ht
      · simp [ht]
      · rcases List.mem_cons.1 ht with rfl | ht
        · exact absurd (h1.symm.trans hid) hne
        · simp [ht]
theorem AlphaOk.beg {s:StV} {b:Nat} (h:AlphaOk s b) (n:UInt32) (q:Nat):AlphaOk (begS s n q) b:=by
  have hs:=h.st.beg n q
  have hl:(begS s n q).locks=s.locks:=by unfold begS;split <;> rfl
  have hm:∀ t ∈ s.txs,t ∈ (begS s n q).txs:=by unfold begS;split <;> simp +contextual
  refine ⟨hs,by rw [hl];exact h.keys,by rw [hl];exact h.compat,by rw [hl];exact fun e he=>let ⟨t,ht,h1⟩:=h.opn e he;⟨t,hm t ht,h1⟩,by rw [hl];exact h.tot,?_,?_⟩
  · unfold begS
    split
    · intro t ht
      rcases List.mem_append.1 ht with ht | ht
      · exact h.waits t ht
      · simp at ht;subst ht;simp [begT]
    · exact h.waits
  · unfold begS
    split
    · rename_i hE
      intro t ht
      rcases List.mem_append.1 ht with ht | ht
      · exact h.nz t ht
      · simp at ht;subst ht
        intro e
        have e:n=0:=e
        simp [begE,e] at hE
    · exact h.nz
theorem AlphaOk.com {s:StV} {b:Nat} (h:AlphaOk s b) (hb:b+1≤1000000000) (n:UInt32):AlphaOk (comS YH' s n) (b+1):=by
  have hm:=h.mono (Nat.le_succ b) hb
  unfold comS
  cases hf:Zs' s.txs n with
  | none=>exact hm
  | some t=>
    simp only
    split
    · exact hm.ends n
    · split
      · rename_i hfit
        have he:=hm.ends n
        exact ⟨hm.st.add hf he.st rfl rfl rfl rfl (by have:=h.st.hl;omega) hfit,he.keys,he.compat,he.opn,he.tot,he.waits,he.nz⟩
      · exact hm.ends n
theorem Zau_ {s:StV} {n:UInt32} {x:TX} {k:UInt32} (h:∃ t ∈ s.txs,t.id=k):∃ t ∈ setU s.txs n x,t.id=k:=by
  obtain ⟨t,ht,h1⟩:=h
  have:k ∈ (setU s.txs n x).map (·.id):=by rw [Qs'];exact List.mem_map.2 ⟨t,ht,h1⟩
  obtain ⟨u,hu,h2⟩:=List.mem_map.1 this
  exact ⟨u,hu,h2⟩
theorem ZjO_ {ts:List TxT} {n:UInt32} {x:TX} (h:∀ t ∈ ts,t.id≠0):∀ t ∈ setU ts n x,t.id≠0:=fun t ht=>by
  obtain ⟨u,hu,e⟩:=ZjN_ t ht
  rw [e];exact h u hu
theorem AlphaOk.waitsS {s:StV} {b:Nat} (h:AlphaOk s b) {n:UInt32} {t:TxT} (hf:Zs' s.txs n=some t) (ws:List UInt32) (hw:ws.length≤2 * b):AlphaOk { s with txs:=setU s.txs n { t.x with waits:=ws } } b:=by
  refine ⟨h.st.waits hf ws rfl rfl rfl rfl,h.keys,h.compat,fun e he=>Zau_ (h.opn e he),h.tot,fun u hu=>?_,ZjO_ h.nz⟩
  rcases Xg' hu with ⟨v,hv,hvi,rfl⟩ | ⟨hu,_⟩
  · exact hw
  · exact h.waits u hu
theorem AlphaOk.upd {s:StV} {b:Nat} (h:AlphaOk s b) (hb:b+1≤1000000000) {n:UInt32} {t:TxT} (hf:Zs' s.txs n=some t) {p:SpanM} {w:Bool} (hno:meet p p=true→wayL s.locks n p w=[]) {own:List ChgM} (ho:own=t.x.own∨∃ c,ZR' c=true∧own=t.x.own++[c]) :
    AlphaOk { s with locks:=lkS s n p w,txs:=setU s.txs n { t.x with own:=own,waits:=[] } } (b+1):=by
  obtain ⟨k1,k2,k3,k4,_,_⟩:=ZdE_ h hf hno
  obtain ⟨hid,_⟩:=Yc' hf
  refine ⟨h.st.upd (x:={ t.x with own:=own,waits:=[] }) hb (ZI' hf) rfl rfl rfl (by rw [hid]) ho (Nat.le_succ_of_le (h.st.lks t (ZI' hf))),k1,k2,fun e he=>Zau_ (k3 e he),k4,fun u hu=>?_,ZjO_ h.nz⟩
  rcases Xg' hu with ⟨v,hv,hvi,rfl⟩ | ⟨hu,_⟩
  · exact Nat.zero_le _
  · have:=h.waits u hu;omega
theorem VA.same {s s':StV} {o:Og} (h:VA s o) (hr:s'.H=s.H) (hl:s'.locks=s.locks) (ht:∀ t ∈ s'.txs,∃ u ∈ s.txs,t.id=u.id∧t.x.own=u.x.own):VA s' o:=fun t htt=>by
  obtain ⟨u,hu,h1,h2⟩:=ht t htt
  obtain ⟨k1,k2,k3,k4⟩:=h u hu
  have hR:s'.rows=s.rows:=by unfold StV.rows;rw [hr]
  rw [h1,h2,hR,hl]
  exact ⟨k1,k2,k3,k4⟩
theorem VA.ends {s:StV} {b:Nat} (h:AlphaOk s b) {o:Og} (hv:VA s o) (n:UInt32):VA (Xo' s n) o:=fun t ht=>by
  obtain ⟨k1,k2,k3,k4⟩:=hv t (Z8'.mem ht)
  refine ⟨k1,k2,k3,fun x hx hm=>?_⟩
  obtain ⟨ls,h1,h2⟩:=k4 x hx hm
  refine ⟨ls,?_,h2⟩
  show getS (Xn' s.locks n) t.id=_
  rw [VY' h.keys,if_neg (ZaR_ h.st.ids n t ht)];exact h1
theorem Zf0_ {s:StV} {b:Nat} (h:AlphaOk s b) {o:Og} (hv:VA s o) {t u:TxT} (ht:t ∈ s.txs) (hu:u ∈ s.txs) (hne:u.id≠t.id):(runM (Zw' s.rows t.x.own) (o u.id).1).1=(o u.id).2:=by
  obtain ⟨k1,k2,k3,k4⟩:=hv u hu
  obtain ⟨j1,j2,j3,j4⟩:=hv t ht
  rw [← k3]
  refine Zdx_ (ZS' _ s.rising).1 s.rising _ k2 fun x hx hw r hr=>VU' _ s.rising fun c hc e=>?_
  rw [j1] at hc
  obtain ⟨y,hy,hyw,rfl⟩:∃ y ∈ (o t.id).1,Zp' y=true∧Z4' y=c:=by
    unfold chs at hc
    obtain ⟨y,hy,rfl⟩:=List.mem_map.1 hc
    exact ⟨y,(List.mem_filter.1 hy).1,(List.mem_filter.1 hy).2,rfl⟩
  have hkey:(Z4' y).key=y.key:=by unfold Z4';split <;> rfl
  have hsp:Zi' y=one y.key:=by
    have:¬ y.kind=4:=by intro e4;simp [Zp',e4] at hyw
    simp [Zi',this,one]
  obtain ⟨ly,g1,l,hl,g2,g3⟩:=j4 y hy (by rw [hsp];exact ZnY_ _)
  have hxm:meet (Zi' x) (Zi' x)=true:=Qo'.2 ⟨r.key,hr,hr⟩
  obtain ⟨lx,f1,m,hm,f2,_⟩:=k4 x hx hxm
  have:=h.compat t.id u.id ly lx g1 f1 (fun e=>hne e.symm) l hl m hm (by rw [g3 hyw];rfl)
  rw [g2,f2,hsp,Uz',← hkey,e,hr] at this
  cases this
theorem Zm8_ {s:StV} {b:Nat} (h:AlphaOk s b) {o:Og} (hv:VA s o) {n:UInt32} {t:TxT} (hf:Zs' s.txs n=some t):VA (addS (Xo' s n) t.x.own) o:=fun u hu=>by
  obtain ⟨hid,_⟩:=Yc' hf
  have hu':u ∈ s.txs:=Z8'.mem hu
  have hne:u.id≠n:=ZaR_ h.st.ids n u hu
  obtain ⟨k1,k2,_,k4⟩:=VA.ends h hv n u hu
  refine ⟨k1,k2,?_,k4⟩
  rw [VW']
  exact Zf0_ h hv (ZI' hf) hu' (by rw [hid];exact hne)
theorem ZjP_ {s:StV} {b:Nat} (h:AlphaOk s b) {o:Og} (hv:VA s o) {n:UInt32} {t:TxT} (hf:Zs' s.txs n=some t) {x:OpM} (hx:opOk x=true) {w:Bool} (hw:Zp' x=w) (hno:meet (Zi' x) (Zi' x)=true→wayL s.locks n (Zi' x) w=[]) {own:List ChgM} {told:List RowM}
    (ho:own=chs ((o n).1++[x])) (htold:(runM s.rows ((o n).1++[x])).1=(o n).2++[told]) :
    VA { s with locks:=lkS s n (Zi' x) w,txs:=setU s.txs n { t.x with own:=own,waits:=[] } } (setO o n ((o n).1++[x],(o n).2++[told])):=by
  obtain ⟨f1,f2,f3,f4,f5,f6⟩:=ZdE_ h hf hno
  intro u hu
  rcases Xg' hu with ⟨v,hv',hvi,rfl⟩ | ⟨hu,hne⟩
  · obtain rfl:=Zci_ h.st.ids hf hv' hvi
    obtain ⟨k1,k2,k3,k4⟩:=hv v hv'
    simp only
    rw [hvi] at k1 k2 k3 k4 ⊢
    rw [Q1']
    refine ⟨ho,fun y hy=>?_,htold,fun y hy hm=>?_⟩
    · rcases List.mem_append.1 hy with hy | hy
      · exact k2 y hy
      · simp at hy;subst hy;exact hx
    · rcases List.mem_append.1 hy with hy | hy
      · obtain ⟨ls,g1,l,hl,g2,g3⟩:=k4 y hy hm
        obtain ⟨ls',g4,g5⟩:=f6 n ls g1
        obtain ⟨m,hm',g6,g7⟩:=g5 l hl
        exact ⟨ls',g4,m,hm',g6.trans g2,fun h=>g7 (g3 h)⟩
      · simp at hy;subst hy
        obtain ⟨ls,g1,l,hl,g2,g3⟩:=f5 hm
        exact ⟨ls,g1,l,hl,g2,fun h=>g3 (hw ▸ h)⟩
  · rw [Qa' _ _ hne]
    obtain ⟨k1,k2,k3,k4⟩:=hv u hu
    refine ⟨k1,k2,k3,fun y hy hm=>?_⟩
    obtain ⟨ls,g1,l,hl,g2,g3⟩:=k4 y hy hm
    obtain ⟨ls',g4,g5⟩:=f6 u.id ls g1
    obtain ⟨m,hm',g6,g7⟩:=g5 l hl
    exact ⟨ls',g4,m,hm',g6.trans g2,fun h=>g7 (g3 h)⟩
noncomputable def Zn6_:Good YH' where
  Ok:=AlphaOk
  V:=VA
  ok:=fun h=>h.st
  mono:=fun h hb hc=>h.mono hb hc
  beg:=fun h n q=>h.beg n q
  endsE:=fun _ _=>⟨rfl,rfl,rfl,rfl⟩
  ends:=fun h n=>h.ends n
  com:=fun h hb n=>h.com hb n
  err:=fun {s b n x s' e} h he=>by
    have he:doA s n x=.err s' e:=he
    rcases ZcZ_ (s:=s) (n:=n) (x:=x) with ⟨e',h1,h2⟩ | ⟨t,hf,hx,h1 | h1 | ⟨_,⟨_,h1⟩ | ⟨_,h1⟩⟩⟩ <;> rw [h1] at he
    · cases he
      exact ⟨by omega,rfl,rfl,rfl,fun t ht=>⟨t,ht,rfl⟩,h,fun _ h=>h⟩
    · cases he
      have hw:=h.waitsS hf [] (Nat.zero_le _)
      refine ⟨by decide,rfl,rfl,rfl,fun t ht=>Qt' t (Z8'.mem ht),hw.ends n,fun o hv=>VA.ends hw (hv.same rfl rfl fun u hu=>?_) n⟩
      rcases Xg' hu with ⟨v,hv',hvi,rfl⟩ | ⟨hu,_⟩
      · obtain rfl:=Zci_ h.st.ids hf hv' hvi
        exact ⟨v,hv',rfl,rfl⟩
      · exact ⟨u,hu,rfl,rfl⟩
    · cases he
      have hw:=h.waitsS hf (wayL s.locks n (Zi' x) (Zp' x)) (Nat.le_trans (ZgY_ _ _ _ _) (Nat.le_trans (Ze5_ _) h.tot))
      refine ⟨by decide,rfl,rfl,rfl,Qt',hw,fun o hv=>hv.same rfl rfl fun u hu=>?_⟩
      rcases Xg' hu with ⟨v,hv',hvi,rfl⟩ | ⟨hu,_⟩
      · obtain rfl:=Zci_ h.st.ids hf hv' hvi
        exact ⟨v,hv',rfl,rfl⟩
      · exact ⟨u,hu,rfl,rfl⟩
    · cases he
    · cases he
  put:=fun {s b n x s'} h hb he=>by
    have he:doA s n x=.put s':=he
    rcases ZcZ_ (s:=s) (n:=n) (x:=x) with ⟨e',h1,h2⟩ | ⟨t,hf,hx,h1 | h1 | ⟨hno,⟨hw,h1⟩ | ⟨_,h1⟩⟩⟩ <;> rw [h1] at he
    · cases he
    · cases he
    · cases he
    · cases he
      obtain ⟨hid,_⟩:=Yc' hf
      refine ⟨t,ZI' hf,hid,hx,hw,rfl,rfl,rfl,Qt',h.upd hb hf hno (.inr ⟨_,VB' hx hw,rfl⟩),fun o hv=>?_⟩
      obtain ⟨k1,k2,k3,k4⟩:=hv t (ZI' hf)
      rw [hid] at k1 k2 k3 k4
      exact ZjP_ h hv hf hx rfl hno (by rw [UD' _ hw,k1]) (by rw [Xk',JJ' hx hw];simp only;rw [k3])
    · cases he
  look:=fun {s b n x s' rows} h hb he=>by
    have he:doA s n x=.look s' rows:=he
    rcases ZcZ_ (s:=s) (n:=n) (x:=x) with ⟨e',h1,h2⟩ | ⟨t,hf,hx,h1 | h1 | ⟨hno,⟨hw,h1⟩ | ⟨hw,h1⟩⟩⟩ <;> rw [h1] at he
    · cases he
    · cases he
    · cases he
    · cases he
    · cases he
      obtain ⟨hid,_⟩:=Yc' hf
      refine ⟨t,ZI' hf,hid,hx,hw,rfl,rfl,rfl,Qt',h.upd (own:=t.x.own) hb hf hno (.inl rfl),by unfold ZT';simp;omega,fun o hv=>?_⟩
      obtain ⟨k1,k2,k3,k4⟩:=hv t (ZI' hf)
      rw [hid] at k1 k2 k3 k4
      exact ZjP_ (own:=t.x.own) h hv hf hx rfl hno (by rw [UE' _ hw,k1]) (by rw [Xk',VE' s.rising _ k2,J8' (ZS' _ s.rising).1 hx hw];simp only;rw [k3,k1])
  vbeg:=fun {s b o} h hv n q hE=>by
    have hf:=(VV' hE).2
    intro t ht
    rw [begS,if_pos hE] at ht ⊢
    rcases List.mem_append.1 ht with ht | ht
    · rw [Qa' _ _ (fun e=>JH' hf (List.mem_map.2 ⟨t,ht,e⟩))];exact hv t ht
    · simp at ht;subst ht
      show []=chs (setO o n ([],[]) n).1∧(∀ x ∈ (setO o n ([],[]) n).1,_)∧(runM _ (setO o n ([],[]) n).1).1=(setO o n ([],[]) n).2∧∀ x ∈ (setO o n ([],[]) n).1,_
      rw [Q1'];simp [chs,Zbx_]
  vends:=fun h hv n=>VA.ends h hv n
  vcongr:=fun hv ho t ht=>by rw [← ho t ht];exact hv t ht
  vown:=fun hv t ht=>⟨(hv t ht).1,(hv t ht).2.1⟩
  vcom:=fun {s b o n t} h hv hf hc hfit=>by
    obtain ⟨hid,_⟩:=Yc' hf
    obtain ⟨k1,k2,k3,k4⟩:=hv t (ZI' hf)
    rw [hid] at k3
    exact ⟨k3,Zm8_ h hv hf⟩
theorem ZgZ_ {L:LkT} {n:UInt32} (h:∀ e ∈ L,e.1=n) (p:SpanM) (w:Bool):wayL L n p w=[]:=by
  rw [List.eq_nil_iff_forall_not_mem]
  intro k hk
  obtain ⟨h1,ls,h2,_⟩:=ZcY_.1 hk
  exact h1 (h _ h2)
theorem ZjQ_:AlphaOk stF 0:=⟨ZdA_,by simp [stF,st0],by simp [stF,st0,getS],by simp [stF,st0],by decide,by simp [stF,st0],by simp [stF,st0]⟩
end Go.SL
namespace Go.SL
open Go Go.Proofs Go.Sort
def u32C (n:UInt32):List Value:=[.int .u32 n.toNat]
theorem u32E:EncOk 1 u32C:=⟨fun _=>rfl,fun _=>rfl⟩
def lt32 (x y:UInt32):Bool:=decide (x < y)
theorem Zcl_:SWO lt32 where
  irrefl x:=by simp [lt32,UInt32.lt_iff_toNat_lt]
  trans x y z h1 h2:=by simp only [lt32,decide_eq_true_eq,UInt32.lt_iff_toNat_lt] at *;omega
  ntrans x y z h1 h2:=by simp only [lt32,decide_eq_false_iff_not,UInt32.lt_iff_toNat_lt] at *;omega
theorem Yv' {α:Type} [Inhabited α] (d:Array α) (i j:Nat):(swp d i j).size=d.size:=by simp [swp]
section
variable {P : Program} {r : Option Nat} {g : World} {Γ : Env} {L M : List HP} {dst : Option Tmp} {t : TypeId} {pos : String} {aft : Array Edge} {gd : Option (Nat × Bool)} {x y : Operand} {xt yt : TypeId}
theorem Zy' {i:Operand} {s E z j:Nat} {u:Value} {d:Array UInt32} (hs:slOf P s=some (E,1,z)) (hx:ev Γ x=some u:=by rfl) (hi:ev Γ i=some (.int .i64 (j:Nat)):=by rfl) (hp:Pick L (Sl E 1 u32C u d.toList) M:=by repeat first | exact .z | apply Pick.s)
    (hj:j < d.size:=by first | omega | (simp only [Yv',Array.size_setIfInBounds];omega)):EO P g ⟨dst,.indexAddr s x i,t,pos,aft,gd⟩ Γ L (elA u (j * 1)):=
  ZZ' (xs:=d.toList) (enc:=u32C) hs Zr' (by rw [Array.length_toList];exact hj) hx hi hp
theorem Zm9_ {d:Array UInt32} {j:Nat} (h:j < d.size):d.toList[j]?=some d[j]!:=by
  rw [Array.getElem?_toList,Array.getElem?_eq_getElem h,getElem!_pos d j h]
theorem Zz' {T E j:Nat} {u:Value} {d:Array UInt32} (ht:ZK' P T=some none) (hx:ev Γ x=some (elA u (j * 1)):=by rfl) (hp:Pick L (Sl E 1 u32C u d.toList) M:=by repeat first | exact .z | apply Pick.s)
    (hj:j < d.size:=by first | omega | (simp only [Yv',Array.size_setIfInBounds];omega)):EO P g ⟨dst,.load T x,t,pos,aft,gd⟩ Γ L (.int .u32 (d[j]!).toNat):=
  Ys' (xs:=d.toList) (a:=d[j]!) ht u32E Zr' (Zm9_ hj) (by decide) hx rfl hp
theorem ZY' {T E j:Nat} {v:Operand} {u:Value} {d:Array UInt32} {a:UInt32} {N:List HP} {K:Value→List HP→Prop} (hT:szOf P T=some 1) (hK:K (.tuple #[]) N) (hx:ev Γ x=some (elA u (j * 1)):=by rfl) (hv:ev Γ v=some (.int .u32 a.toNat):=by rfl)
    (hp:Put L (Sl E 1 u32C u d.toList) (Sl E 1 u32C u (d.setIfInBounds j a).toList) N:=by repeat first | exact .z | apply Put.s) (hj:j < d.size:=by first | omega | (simp only [Yv',Array.size_setIfInBounds];omega)):HO P r g ⟨dst,.store T x v,t,pos,aft,gd⟩ Γ L K:=
  Vq' (xs:=d.toList) (enc:=u32C) (E:=E) a hT u32E (by rw [Array.length_toList];exact hj) hK (by decide) hx hv rfl (by rw [← Array.toList_setIfInBounds];exact hp)
theorem ZF' {a b:Nat} (hx:ev Γ x=some (.int .i64 a):=by rfl) (hy:ev Γ y=some (.int .i64 b):=by rfl) (h:a+b≤4611686018427387904:=by omega):EO P g ⟨dst,.binOp .add xt x y yt,t,pos,aft,gd⟩ Γ L (.int .i64 ((a+b:Nat):Int)):=
  ZE' hx hy (by rw [Zt' (by omega) (by omega)];omega)
theorem ZX' {a b:Nat} (hx:ev Γ x=some (.int .i64 a):=by rfl) (hy:ev Γ y=some (.int .i64 b):=by rfl) (hle:b≤a:=by omega) (h:a≤4611686018427387904:=by omega):EO P g ⟨dst,.binOp .sub xt x y yt,t,pos,aft,gd⟩ Γ L (.int .i64 ((a - b:Nat):Int)):=
  Y9' hx hy (by rw [Zt' (by omega) (by omega)];omega)
theorem Ul' {a b:Nat} (hx:ev Γ x=some (.int .i64 a):=by rfl) (hy:ev Γ y=some (.int .i64 b):=by rfl) (h:a * b≤4611686018427387904:=by omega):EO P g ⟨dst,.binOp .mul xt x y yt,t,pos,aft,gd⟩ Γ L (.int .i64 ((a * b:Nat):Int)):=
  QC' hx hy (by rw [← Int.natCast_mul];exact Zt' (by omega) (by omega))
theorem Um' {a b:Nat} (hx:ev Γ x=some (.int .i64 a):=by rfl) (hy:ev Γ y=some (.int .i64 b):=by rfl) (hb:0 < b:=by decide) (h:a≤4611686018427387904:=by omega):EO P g ⟨dst,.binOp .quo xt x y yt,t,pos,aft,gd⟩ Γ L (.int .i64 ((a / b:Nat):Int)):=
  Zhk_ hx hy (by omega) (by
    have h2:=Nat.div_le_self a b
    rw [Int.tdiv_eq_ediv_of_nonneg (by omega),← Int.natCast_ediv]
    generalize a / b=q at h2 ⊢
    exact Zt' (by omega) (by omega))
end
section
variable {d : Array UInt32} {a b i j : Nat}
abbrev lt:=lt32
theorem ZlB_ (h1:a < j) (h2:lt32 d[j]! d[j - 1]! = true):insInner lt32 a j d=insInner lt32 a (j - 1) (swp d j (j - 1)):=by
  obtain ⟨k,rfl⟩:∃ k,j=k+1:=⟨j - 1,by omega⟩
  rw [Nat.add_sub_cancel] at h2 ⊢
  rw [insInner,if_pos (by simp [h2];omega)]
theorem Ze7_ (h:a < j→lt32 d[j]! d[j - 1]! = false):insInner lt32 a j d=d:=by
  cases j with
  | zero=>rfl
  | succ k=>
    rw [Nat.add_sub_cancel] at h
    rw [insInner,if_neg]
    intro hh
    simp only [Bool.and_eq_true,decide_eq_true_eq] at hh
    rw [h hh.1] at hh;cases hh.2
theorem ZdF_ (h:i < b):insOuter lt32 a b i d=insOuter lt32 a b (i+1) (insInner lt32 a i d):=by rw [insOuter,if_pos h]
theorem ZjR_ (h:¬ i < b):insOuter lt32 a b i d=d:=by rw [insOuter,if_neg h]
theorem Zc0_ {hi first root:Nat} (h:2 * root+1≥hi):siftDown lt32 hi first root d=d:=by rw [siftDown,dif_pos h]
theorem sd_r {hi first root:Nat} (h:¬ 2 * root+1≥hi) (h2:2 * root+1+1 < hi) (h3:lt32 d[first+(2 * root+1)]! d[first+(2 * root+1)+1]! = true) :
    siftDown lt32 hi first root d=if lt32 d[first+root]! d[first+(2 * root+1+1)]! = true then siftDown lt32 hi first (2 * root+1+1) (swp d (first+root) (first+(2 * root+1+1))) else d:=by
  rw [siftDown,dif_neg h,if_pos (by simp [h2,h3])]
  have h4:2 * root+2 < hi:=h2
  cases e:lt32 d[first+root]! d[first+(2 * root+1+1)]! with
  | true=>
    rw [if_neg (by simp),dif_pos h4,if_pos rfl]
  | false=>
    rw [if_pos (by simp),if_neg (by simp)]
theorem sd_l {hi first root:Nat} (h:¬ 2 * root+1≥hi) (h3:2 * root+1+1 < hi→lt32 d[first+(2 * root+1)]! d[first+(2 * root+1)+1]! = false) :
    siftDown lt32 hi first root d=if lt32 d[first+root]! d[first+(2 * root+1)]! = true then siftDown lt32 hi first (2 * root+1) (swp d (first+root) (first+(2 * root+1))) else d:=by
  rw [siftDown,dif_neg h,if_neg (by intro hh;simp only [Bool.and_eq_true,decide_eq_true_eq] at hh;rw [h3 hh.1] at hh;cases hh.2)]
  cases e:lt32 d[first+root]! d[first+(2 * root+1)]! <;> simp
theorem Zc1_ {hi first:Nat}:∀ (n root:Nat) (d:Array UInt32),hi - root≤n→(siftDown lt32 hi first root d).size=d.size
  | 0,root,d,h=>by rw [Zc0_ (by omega)]
  | n+1,root,d,h=>by
    by_cases h1:2 * root+1≥hi
    · rw [Zc0_ h1]
    · by_cases h2:2 * root+1+1 < hi∧lt32 d[first+(2 * root+1)]! d[first+(2 * root+1)+1]! = true
      · rw [sd_r h1 h2.1 h2.2]
        split
        · rw [Zc1_ n _ _ (by omega),Yv']
        · rfl
      · rw [sd_l h1 (fun h=>by cases e:lt32 d[first+(2 * root+1)]! d[first+(2 * root+1)+1]! with
          | true=>exact absurd ⟨h,e⟩ h2
          | false=>rfl)]
        split
        · rw [Zc1_ n _ _ (by omega),Yv']
        · rfl
theorem Ze8_ {hi first root:Nat} {d:Array UInt32}:(siftDown lt32 hi first root d).size=d.size:=Zc1_ _ _ _ (Nat.le_refl _)
theorem ZlC_ (h:i < j):reverseLoop i j d=reverseLoop (i+1) (j - 1) (swp d i j):=by rw [reverseLoop,if_pos h]
theorem ZlD_ (h:¬ i < j):reverseLoop i j d=d:=by rw [reverseLoop,if_neg h]
theorem nt {b:Bool} (h:(!b)=true):b=false:=by cases b <;> simp_all
theorem nf {b:Bool} (h:(!b)=false):b=true:=by cases b <;> simp_all
theorem Zmz_ {sw:Nat} (h:lt32 d[b]! d[a]! = true):order2 lt32 d a b sw=(b,a,sw+1):=by rw [order2,if_pos h]
theorem ZmA_ {sw:Nat} (h:lt32 d[b]! d[a]! = false):order2 lt32 d a b sw=(a,b,sw):=by rw [order2,if_neg (by rw [h];simp)]
theorem Zav_ {n sw:Nat} (ha:a < n) (hb:b < n):(order2 lt32 d a b sw).1 < n∧(order2 lt32 d a b sw).2.1 < n∧(order2 lt32 d a b sw).2.2≤sw+1:=by
  cases h:lt32 d[b]! d[a]! with
  | true=>rw [Zmz_ h];exact ⟨hb,ha,Nat.le_refl _⟩
  | false=>rw [ZmA_ h];exact ⟨ha,hb,Nat.le_succ _⟩
theorem Ze9_ {n sw c:Nat} (ha:a < n) (hb:b < n) (hc:c < n):(median lt32 d a b c sw).1 < n∧(median lt32 d a b c sw).2≤sw+3:=by
  obtain ⟨h1,h2,h3⟩:=Zav_ (d:=d) (sw:=sw) ha hb
  obtain ⟨h4,h5,h6⟩:=Zav_ (d:=d) (sw:=(order2 lt32 d a b sw).2.2) h2 hc
  obtain ⟨h7,h8,h9⟩:=Zav_ (d:=d) (sw:=(order2 lt32 d (order2 lt32 d a b sw).2.1 c (order2 lt32 d a b sw).2.2).2.2) h1 h4
  exact ⟨h8,by show (order2 lt32 d _ _ _).2.2≤_;omega⟩
def cpH (n:Nat):Hint:=if n=0 then .increasing else if n=12 then .decreasing else .unknown
def hv:Hint→Nat
  | .unknown=>0
  | .increasing=>1
  | .decreasing=>2
theorem cp1 (h:¬ b - a≥8):choosePivot lt32 d a b=(a+(b - a) / 4 * 2,cpH 0):=by unfold choosePivot;simp only [h,if_false];rfl
theorem cp2 (h:b - a≥8) (h2:¬ b - a≥50):choosePivot lt32 d a b=((median lt32 d (a+(b - a) / 4 * 1) (a+(b - a) / 4 * 2) (a+(b - a) / 4 * 3) 0).1,cpH (median lt32 d (a+(b - a) / 4 * 1) (a+(b - a) / 4 * 2) (a+(b - a) / 4 * 3) 0).2):=by unfold choosePivot;simp only [h,h2,if_true,if_false];rfl
theorem cp3 (h:b - a≥8) (h2:b - a≥50) {r1 r2 r3 r4:Nat × Nat} (e1:medianAdjacent lt32 d (a+(b - a) / 4 * 1) 0=r1) (e2:medianAdjacent lt32 d (a+(b - a) / 4 * 2) r1.2=r2) (e3:medianAdjacent lt32 d (a+(b - a) / 4 * 3) r2.2=r3) (e4:median lt32 d r1.1 r2.1 r3.1 r3.2=r4):choosePivot lt32 d a b=(r4.1,cpH r4.2):=by
  subst e1 e2 e3 e4
  unfold choosePivot;simp only [h,h2,if_true];rfl
theorem Zc2_ {p:UInt32→Bool} (h:i≤j) (h2:p d[i]! = true):scanUp p d j i=scanUp p d j (i+1):=by rw [scanUp,if_pos (by simp [h,h2])]
theorem Vm' {p:UInt32→Bool} (h:i≤j→p d[i]! = false):scanUp p d j i=i:=by
  rw [scanUp,if_neg]
  intro hh
  simp only [Bool.and_eq_true,decide_eq_true_eq] at hh
  rw [h hh.1] at hh;cases hh.2
theorem Zaw_ {p:UInt32→Bool} (h0:1≤j) (h:i≤j) (h2:p d[j]! = true):scanDown p d i j=scanDown p d i (j - 1):=by
  obtain ⟨k,rfl⟩:∃ k,j=k+1:=⟨j - 1,by omega⟩
  rw [scanDown,if_pos (by simp [h,h2])];rfl
theorem K1' {p:UInt32→Bool} (h:i≤j→p d[j]! = false):scanDown p d i j=j:=by
  cases j with
  | zero=>rfl
  | succ k=>
    rw [scanDown,if_neg]
    intro hh
    simp only [Bool.and_eq_true,decide_eq_true_eq] at hh
    rw [h hh.1] at hh;cases hh.2
theorem ZjS_ {i2 j2:Nat} (e1:scanUp (fun x=>lt32 x d[a]!) d j i=i2) (e2:scanDown (fun x=>!lt32 x d[a]!) d i2 j=j2) (h:i2 > j2):partLoop lt32 a i j d=(j2,d):=by
  subst e1 e2;rw [partLoop];simp only [h,if_true]
theorem ZjT_ {i2 j2:Nat} (e1:scanUp (fun x=>lt32 x d[a]!) d j i=i2) (e2:scanDown (fun x=>!lt32 x d[a]!) d i2 j=j2) (h:¬ i2 > j2) (hg:(j2 - 1)+1 - (i2+1) < j+1 - i):partLoop lt32 a i j d=partLoop lt32 a (i2+1) (j2 - 1) (swp d i2 j2):=by
  subst e1 e2;rw [partLoop];simp only [h,if_false];rw [dif_pos hg]
theorem Zh5_ {i2 j2:Nat} (e1:scanUp (fun x=>!lt32 d[a]! x) d j i=i2) (e2:scanDown (fun x=>lt32 d[a]! x) d i2 j=j2) (h:i2 > j2):partEqLoop lt32 a i j d=(i2,d):=by
  subst e1 e2;rw [partEqLoop];simp only [h,if_true]
theorem Zh6_ {i2 j2:Nat} (e1:scanUp (fun x=>!lt32 d[a]! x) d j i=i2) (e2:scanDown (fun x=>lt32 d[a]! x) d i2 j=j2) (h:¬ i2 > j2) (hg:(j2 - 1)+1 - (i2+1) < j+1 - i):partEqLoop lt32 a i j d=partEqLoop lt32 a (i2+1) (j2 - 1) (swp d i2 j2):=by
  subst e1 e2;rw [partEqLoop];simp only [h,if_false];rw [dif_pos hg]
theorem Zf1_ {pv i1 j1:Nat} {d0:Array UInt32} (e0:swp d a pv=d0) (e1:scanUp (fun x=>lt32 x d0[a]!) d0 (b - 1) (a+1)=i1) (e2:scanDown (fun x=>!lt32 x d0[a]!) d0 i1 (b - 1)=j1) (h:i1 > j1):partition lt32 d a b pv=(j1,true,swp d0 j1 a):=by
  subst e0 e1 e2;unfold partition;simp only [h,if_true]
theorem Zf2_ {pv i1 j1:Nat} {d0:Array UInt32} (e0:swp d a pv=d0) (e1:scanUp (fun x=>lt32 x d0[a]!) d0 (b - 1) (a+1)=i1) (e2:scanDown (fun x=>!lt32 x d0[a]!) d0 i1 (b - 1)=j1) (h:¬ i1 > j1) {r:Nat × Array UInt32} (e3:partLoop lt32 a (i1+1) (j1 - 1) (swp d0 i1 j1)=r):partition lt32 d a b pv=(r.1,false,swp r.2 r.1 a):=by
  subst e0 e1 e2 e3;unfold partition;simp only [h,if_false]
theorem Zf3_ (h:i < b) (h2:lt32 d[i]! d[i - 1]! = false):scanSorted lt32 d b i=scanSorted lt32 d b (i+1):=by rw [scanSorted,if_pos (by simp [h,h2])]
theorem Zbg_ (h:i < b→lt32 d[i]! d[i - 1]! = true):scanSorted lt32 d b i=i:=by
  rw [scanSorted,if_neg]
  intro hh
  simp only [Bool.and_eq_true,decide_eq_true_eq,Bool.not_eq_true'] at hh
  rw [h hh.1] at hh;cases hh.2
theorem Zh7_ (h:1≤j) (h2:lt32 d[j]! d[j - 1]! = true):shiftDown lt32 j d=shiftDown lt32 (j - 1) (swp d j (j - 1)):=by
  obtain ⟨k,rfl⟩:∃ k,j=k+1:=⟨j - 1,by omega⟩
  rw [Nat.add_sub_cancel] at h2 ⊢
  rw [shiftDown,if_neg (by simp [h2])]
theorem Zcm_ (h:1≤j→lt32 d[j]! d[j - 1]! = false):shiftDown lt32 j d=d:=by
  cases j with
  | zero=>rfl
  | succ k=>
    have:=h (by omega)
    rw [Nat.add_sub_cancel] at this
    rw [shiftDown,if_pos (by simp [this])]
theorem ZlE_ (h:j < b) (h2:lt32 d[j]! d[j - 1]! = true):shiftUp lt32 b j d=shiftUp lt32 b (j+1) (swp d j (j - 1)):=by rw [shiftUp,if_pos h,if_neg (by simp [h2])]
theorem Zfa_ (h:j < b→lt32 d[j]! d[j - 1]! = false):shiftUp lt32 b j d=d:=by
  rw [shiftUp]
  split
  · rename_i hb;rw [if_pos (by simp [h hb])]
  · rfl
theorem Zn7_ {s i2:Nat} (e:scanSorted lt32 d b i=i2) (h:i2=b):partialIns lt32 a b (s+1) i d=(d,true):=by subst e;rw [partialIns];simp only [h,if_true]
theorem Zn8_ {s i2:Nat} (e:scanSorted lt32 d b i=i2) (h:¬ i2=b) (h2:b - a < 50):partialIns lt32 a b (s+1) i d=(d,false):=by subst e;rw [partialIns];simp only [h,h2,if_true,if_false]
theorem Zfb_ {s i2:Nat} {d2 d3:Array UInt32} (e:scanSorted lt32 d b i=i2) (h:¬ i2=b) (h2:¬ b - a < 50) (e2:(if i2 - a≥2 then shiftDown lt32 (i2 - 1) (swp d i2 (i2 - 1)) else swp d i2 (i2 - 1))=d2) (e3:(if b - i2≥2 then shiftUp lt32 b (i2+1) d2 else d2)=d3) :
    partialIns lt32 a b (s+1) i d=partialIns lt32 a b s i2 d3:=by subst e e2 e3;rw [partialIns];simp only [h,h2,if_false]
end
theorem wu64 (n:Nat):IntKind.u64.wrap (n:Int)=((UInt64.ofNat n).toNat:Int):=by simp [IntKind.wrap,IntKind.bits,IntKind.signed]
theorem bv64 (a:UInt64):BitVec.ofInt IntKind.u64.bits (a.toNat:Int)=a.toBitVec:=by
  show BitVec.ofInt 64 _=_
  apply BitVec.eq_of_toNat_eq;simp
theorem ZjU_ (x:BitVec 64):IntKind.u64.wrap (x.toNat:Int)=((⟨x⟩:UInt64).toNat:Int):=by
  rw [wu64];congr 1;show (UInt64.ofNat x.toNat).toNat=x.toNat;simp
theorem Zn9_ (a b:UInt64):bits .xor .u64 (a.toNat:Int) (b.toNat:Int)=((a ^^^ b).toNat:Int):=by unfold bits;simp only [bv64];exact ZjU_ _
theorem Zoa_ (a b:UInt64):bits .and .u64 (a.toNat:Int) (b.toNat:Int)=((a &&& b).toNat:Int):=by unfold bits;simp only [bv64];exact ZjU_ _
section
variable {P : Program} {r : Option Nat} {g : World} {Γ : Env} {L M : List HP} {dst : Option Tmp} {t : TypeId} {pos : String} {aft : Array Edge} {gd : Option (Nat × Bool)} {x y : Operand} {xt yt : TypeId} {a b : UInt64}
theorem Zc3_ (hx:ev Γ x=some (.int .u64 a.toNat):=by rfl) (hy:ev Γ y=some (.int .u64 b.toNat):=by rfl):EO P g ⟨dst,.binOp .xor xt x y yt,t,pos,aft,gd⟩ Γ L (.int .u64 (a ^^^ b).toNat):=Ub' (by simp) hx hy (Zn9_ a b)
theorem Zna_ {m:Nat} (hm:m < 18446744073709551616) (hx:ev Γ x=some (.int .u64 a.toNat):=by rfl) (hy:ev Γ y=some (.int .u64 (m:Nat)):=by rfl):EO P g ⟨dst,.binOp .and xt x y yt,t,pos,aft,gd⟩ Γ L (.int .u64 ((a.toNat &&& m:Nat):Int)):=
  Ub' (by simp) hx hy (by
    have h:(UInt64.ofNat m).toNat=m:=by rw [UInt64.toNat_ofNat'];exact Nat.mod_eq_of_lt hm
    rw [← h,Zoa_,UInt64.toNat_and])
theorem Zg0_ {k':IntKind} {m:UInt64} (hm:m.toNat < 64) (hx:ev Γ x=some (.int .u64 a.toNat):=by rfl) (hy:ev Γ y=some (.int k' m.toNat):=by rfl):EO P g ⟨dst,.binOp .shl xt x y yt,t,pos,aft,gd⟩ Γ L (.int .u64 (a <<< m).toNat):=
  Zhl_ hx hy (by omega) (by simp [IntKind.bits];omega) (by
    rw [UInt64.toNat_shiftLeft,Nat.mod_eq_of_lt hm,Nat.shiftLeft_eq];simp [IntKind.wrap,IntKind.bits,IntKind.signed])
theorem Znb_ {k':IntKind} {m:UInt64} (hm:m.toNat < 64) (hx:ev Γ x=some (.int .u64 a.toNat):=by rfl) (hy:ev Γ y=some (.int k' m.toNat):=by rfl):EO P g ⟨dst,.binOp .shr xt x y yt,t,pos,aft,gd⟩ Γ L (.int .u64 (a >>> m).toNat):=
  ZaG_ hx hy (by omega) (by simp [IntKind.bits];omega) (by rw [UInt64.toNat_shiftRight,Nat.mod_eq_of_lt hm,Nat.shiftRight_eq_div_pow];simp)
end
theorem Znc_ (s:ByteArray) (h:((List.range 256).all fun i=>s[i]? == some (UInt8.ofNat (bitsLen i)))=true) {i:Nat} (hi:i < 256):s[i]?=some (UInt8.ofNat (bitsLen i)):=by
  have:=List.all_eq_true.1 h i (List.mem_range.2 hi)
  simpa using this
theorem Zfc_:∀ (k x:Nat),2 ^ k≤x→Nat.log2 x=k+Nat.log2 (x / 2 ^ k)
  | 0,x,_=>by simp
  | k+1,x,h=>by
    have h2:2≤x:=Nat.le_trans (by rw [Nat.pow_succ];have:=Nat.one_le_two_pow (n:=k);omega) h
    have h3:2 ^ k≤x / 2:=by rw [Nat.pow_succ] at h;omega
    rw [Nat.log2_def,if_pos h2,Zfc_ k (x / 2) h3,Nat.div_div_eq_div_mul,Nat.pow_succ,Nat.mul_comm 2]
    omega
theorem V7' (k x:Nat) (h:2 ^ k≤x):bitsLen x=k+bitsLen (x / 2 ^ k):=by
  have h0:0 < 2 ^ k:=Nat.two_pow_pos k
  have h1:0 < x / 2 ^ k:=Nat.div_pos h h0
  unfold bitsLen
  rw [if_neg (by omega),if_neg (by omega),Zfc_ k x h];omega
theorem Qb' {k x:Nat} (h:x < 2 ^ k):bitsLen x≤k:=by
  unfold bitsLen
  split
  · exact Nat.zero_le _
  · rename_i h0;have:=(Nat.log2_lt h0).2 h;omega
theorem Zf4_ {x:Nat} (h:0 < x):2 ^ bitsLen x≤2 * x:=by
  unfold bitsLen
  rw [if_neg (by omega),Nat.pow_succ]
  have:=Nat.log2_self_le (n:=x) (by omega)
  omega
section
variable {d : Array UInt32} {a b i j : Nat}
def brk (a n m:Nat) (st:UInt64 × Array UInt32) (i:Nat):Nat→UInt64 × Array UInt32
  | 0=>st
  | k+1=>breakStep a n m (brk a n m st i k) (i+k)
theorem Zob_ (h:b - a≥8):breakPatterns d a b=(brk a (b - a) (2 ^ bitsLen (b - a)) (UInt64.ofNat (b - a),d) (a+(b - a) / 4 * 2 - 1) 3).2:=by
  unfold breakPatterns
  simp only [h,if_true,Nat.shiftLeft_eq,Nat.one_mul];rfl
theorem Zoc_ (h:¬ b - a≥8):breakPatterns d a b=d:=by unfold breakPatterns;simp only [h,if_false]
theorem ZjV_ {xs:List UInt32} {d':Array UInt32} (p1:PermIn 0 xs.length xs.toArray d') (p2:SortedIn lt32 0 xs.length d'):d'.toList.Perm xs∧d'.toList.Pairwise fun x y=>x≤y:=by
  have hsz:d'.size=xs.length:=by rw [p1.1];simp
  constructor
  · have h:=p1.2.2
    rw [← hsz,Array.extract_size] at h
    have e:(xs.toArray.extract 0 d'.size).toList=xs:=by rw [hsz];simp
    rw [e] at h;exact h
  · rw [List.pairwise_iff_getElem]
    intro i j hi hj hij
    rw [Array.length_toList] at hi hj
    have:=p2 i j (Nat.zero_le _) hij (by omega)
    rw [getElem!_pos d' i (by omega),getElem!_pos d' j (by omega)] at this
    simp only [Array.getElem_toList]
    simp only [lt32,decide_eq_false_iff_not] at this
    exact UInt32.not_lt.1 this
theorem ZdG_:∀ {a b:List UInt32},a.Perm b→(a.Pairwise fun x y=>x≤y)→(b.Pairwise fun x y=>x≤y)→a=b
  | [],b,h,_,_=>(List.nil_perm.1 h).symm
  | x::a,[],h,_,_=>by have:=h.length_eq;simp at this
  | x::a,y::b,h,h1,h2=>by
    obtain ⟨p1,p2⟩:=List.pairwise_cons.1 h1
    obtain ⟨q1,q2⟩:=List.pairwise_cons.1 h2
    have e:x=y:=by
      have hx:x ∈ y::b:=h.mem_iff.1 (by simp)
      have hy:y ∈ x::a:=h.mem_iff.2 (by simp)
      rcases List.mem_cons.1 hx with hx | hx
      · exact hx
      · rcases List.mem_cons.1 hy with hy | hy
        · exact hy.symm
        · exact UInt32.le_antisymm (p1 y hy) (q1 x hx)
    subst e
    rw [ZdG_ ((List.perm_cons x).1 h) p2 q2]
end
end Go.SL
namespace Go.SL
open Go Go.Proofs
section
variable {α : Type}
theorem Q2' {E z:Nat} {enc:α→List Value} {es:List (EntV UInt32 α)} (k:UInt32):RL (Ents E z enc es) z enc (svE es k).v (wsE es k):=by
  cases hf:YM' es k with
  | none=>
    unfold svE wsE
    rw [hf]
    exact X4'
  | some e=>
    unfold svE wsE
    rw [hf]
    exact Kn' (VQ' hf).1
theorem Zc4_ (es:List (EntV UInt32 α)) (k:UInt32) (sv:SV) (ws:List α) (j:UInt32):wsE (setE es k sv ws) j=if j=k then ws else wsE es j:=by
  rw [Zah_,ZcT_,KO',Zah_]
  split <;> rfl
theorem ZbD_ {es:List (EntV UInt32 α)} {k:UInt32} (h:YM' es k=none):wsE es k=[]:=by unfold wsE;rw [h]
variable {P : Program} {g : World} {Γ : Env} {L M : List HP} {dst : Option Tmp} {t : TypeId} {pos : String} {aft : Array Edge} {gd : Option (Nat × Bool)}
theorem Un' {m:Value} {d:TypeDesc} {kt:TypeId} {es:List (EntV UInt32 α)} {x i:Operand} {T e:TypeId} {k:UInt32} (ht:P.underlying T=some (.map kt e)) (hk:KeyOk P kt d eU32) (hz:(P.info? e).bind (·.zero)=some (.slice none 0 0)) (hx:ev Γ x=some m:=by rfl) (hi:ev Γ i=some (.int .u32 k.toNat):=by rfl) (hp:Pick L (Mp eU32 m (es.map kvE)) M:=by repeat first | exact .z | apply Pick.s) :
    EO P g ⟨dst,.lookup T x i false,t,pos,aft,gd⟩ Γ L (svE es k).v:=Zbs_ es k ▸ VP' ht hk hz Zag_ hx hi hp
theorem ZlF_ {m:Value} {d:TypeDesc} {kt:TypeId} {es:List (EntV UInt32 α)} {x i:Operand} {T e:TypeId} {k:UInt32} (ht:P.underlying T=some (.map kt e)) (hk:KeyOk P kt d eU32) (hz:(P.info? e).bind (·.zero)=some (.slice none 0 0)) (hx:ev Γ x=some m:=by rfl) (hi:ev Γ i=some (.int .u32 k.toNat):=by rfl) (hp:Pick L (Mp eU32 m (es.map kvE)) M:=by repeat first | exact .z | apply Pick.s) :
    EO P g ⟨dst,.lookup T x i true,t,pos,aft,gd⟩ Γ L (.tuple #[(svE es k).v,.bool (YM' es k).isSome]):=by
  have h:=Zb9_ (P:=P) (g:=g) (Γ:=Γ) (dst:=dst) (t:=t) (pos:=pos) (aft:=aft) (gd:=gd) (x:=x) (i:=i) (k:=k) ht hk hz Zag_ hx hi hp
  rw [Zbs_,ZeD_] at h
  rw [show ((YM' es k).map fun e=>e.sv.v).isSome=(YM' es k).isSome by cases YM' es k <;> rfl] at h
  exact h
end
def KJ' (fs ts:List UInt32) (i:Nat) (x y:UInt32):Prop:=∃ j,j < i∧fs[j]?=some x∧ts[j]?=some y
structure AllOk (es:List (EntV UInt32 UInt32)) (fs ts:List UInt32) (i:Nat):Prop where
  mem:∀ x y,y ∈ wsE es x↔KJ' fs ts i x y
  len:∀ x,(wsE es x).length≤i
theorem AllOk.init (fs ts:List UInt32):AllOk [] fs ts 0:=⟨fun x y=>by simp [wsE,YM',KJ'],fun x=>by simp [wsE,YM']⟩
theorem AllOk.step {es:List (EntV UInt32 UInt32)} {fs ts:List UInt32} {i:Nat} (h:AllOk es fs ts i) {x y:UInt32} (hx:fs[i]?=some x) (hy:ts[i]?=some y) (sv:SV):AllOk (setE es x sv (wsE es x++[y])) fs ts (i+1):=by
  refine ⟨fun a b=>?_,fun a=>?_⟩
  · rw [Zc4_]
    have hE:KJ' fs ts (i+1) a b↔KJ' fs ts i a b∨(a=x∧b=y):=by
      constructor
      · rintro ⟨j,hj,h1,h2⟩
        rcases Nat.lt_or_ge j i with hlt | hge
        · exact .inl ⟨j,hlt,h1,h2⟩
        · obtain rfl:j=i:=by omega
          rw [hx] at h1;rw [hy] at h2;cases h1;cases h2
          exact .inr ⟨rfl,rfl⟩
      · rintro (⟨j,hj,h1,h2⟩ | ⟨rfl,rfl⟩)
        · exact ⟨j,by omega,h1,h2⟩
        · exact ⟨i,by omega,hx,hy⟩
    rw [hE,← h.mem]
    by_cases e:a=x
    · subst e;rw [if_pos rfl];simp
    · rw [if_neg e];simp [e]
  · rw [Zc4_]
    have:=h.len a;have:=h.len x
    split
    · simp;omega
    · omega
theorem AllOk.nil {es:List (EntV UInt32 UInt32)} {fs ts:List UInt32} {i:Nat} (h:AllOk es fs ts i) {y:UInt32} (hf:YM' es y=none) (sv:SV):AllOk (setE es y sv []) fs ts i:=by
  have e:∀ a,wsE (setE es y sv []) a=wsE es a:=fun a=>by
    rw [Zc4_]
    split
    · rename_i e;rw [e,ZbD_ hf]
    · rfl
  exact ⟨fun a b=>by rw [e];exact h.mem a b,fun a=>by rw [e];exact h.len a⟩
structure DfsOk (R:UInt32→UInt32→Prop) (whom:UInt32) (S N:List UInt32) (M:Nat) (ts:List UInt32):Prop where
  nd:S.Nodup
  fst:whom ∈ S
  can:∀ y ∈ S,Reach R whom y
  sub:∀ y ∈ N,y ∈ S
  all:∀ x ∈ S,x ∉ N→∀ y,R x y→y ∈ S
  mu:(ts.filter fun y=>decide (y ∉ S)).length+N.length≤M
structure DfsIn (R:UInt32→UInt32→Prop) (whom x:UInt32) (ws S N:List UInt32) (k M:Nat) (ts:List UInt32):Prop where
  nd:S.Nodup
  fst:whom ∈ S
  can:∀ y ∈ S,Reach R whom y
  sub:∀ y ∈ N,y ∈ S
  xin:x ∈ S
  all:∀ z ∈ S,z ∉ N→z≠x→∀ y,R z y→y ∈ S
  part:∀ y ∈ ws.take k,y ∈ S
  mu:(ts.filter fun y=>decide (y ∉ S)).length+N.length≤M
theorem Reach.closed {R:UInt32→UInt32→Prop} {a:UInt32} {S:List UInt32} (ha:a ∈ S) (hc:∀ x ∈ S,∀ y,R x y→y ∈ S) {b:UInt32} (h:Reach R a b):b ∈ S:=by
  induction h with
  | refl=>exact ha
  | tail _ h1 ih=>exact hc _ ih _ h1
theorem DfsOk.init (R:UInt32→UInt32→Prop) (whom:UInt32) (ts:List UInt32):DfsOk R whom [whom] [whom] (ts.length+1) ts:=
  ⟨by simp,by simp,fun y hy=>by simp at hy;subst hy;exact .refl,fun y h=>h,fun x hx hn=>absurd hx hn,by
    have:=List.length_filter_le (fun y=>decide (y ∉ [whom])) ts
    simp only [List.length_singleton];omega⟩
theorem DfsOk.pop {R:UInt32→UInt32→Prop} {whom:UInt32} {S N:List UInt32} {M:Nat} {ts:List UInt32} (h:DfsOk R whom S N (M+1) ts) {x:UInt32} (hx:N[N.length - 1]?=some x) (ws:List UInt32):DfsIn R whom x ws S (N.take (N.length - 1)) 0 M ts:=by
  have hlt:=Yf' hx
  refine ⟨h.nd,h.fst,h.can,fun y hy=>h.sub y (List.mem_of_mem_take hy),h.sub x (List.mem_of_getElem? hx),fun z hz hn hne y hy=>h.all z hz (fun hm=>?_) y hy,by simp,?_⟩
  · have e:N=N.take (N.length - 1)++[x]:=by
      have:=ZA' hx
      rw [show N.length - 1+1=N.length by omega,List.take_length] at this;exact this
    rw [e] at hm
    rcases List.mem_append.1 hm with hm | hm
    · exact hn hm
    · simp at hm;exact hne hm
  · have:=h.mu;rw [List.length_take];omega
theorem DfsIn.old {R:UInt32→UInt32→Prop} {whom x:UInt32} {ws S N:List UInt32} {k M:Nat} {ts:List UInt32} (h:DfsIn R whom x ws S N k M ts) {y:UInt32} (hy:ws[k]?=some y) (hs:y ∈ S):DfsIn R whom x ws S N (k+1) M ts:=
  ⟨h.nd,h.fst,h.can,h.sub,h.xin,h.all,fun z hz=>by
    rw [ZA' hy] at hz
    rcases List.mem_append.1 hz with hz | hz
    · exact h.part z hz
    · simp at hz;subst hz;exact hs,h.mu⟩
theorem Zf5_ {ts S:List UInt32} {y:UInt32} (hy:y ∈ ts) (hs:y ∉ S):(ts.filter fun z=>decide (z ∉ S++[y])).length+1≤(ts.filter fun z=>decide (z ∉ S)).length:=by
  induction ts with
  | nil=>cases hy
  | cons a ts ih=>
    have hle:(ts.filter fun z=>decide (z ∉ S++[y])).length≤(ts.filter fun z=>decide (z ∉ S)).length:=by
      clear ih hy
      induction ts with
      | nil=>simp
      | cons b ts ih=>
        simp only [List.filter_cons]
        by_cases h1:b ∈ S
        · simp [h1];simpa using ih
        · by_cases h2:b=y
          · subst h2;simp [h1];simp at ih;omega
          · simp [h1,h2];simpa using ih
    simp only [List.filter_cons]
    by_cases e:a=y
    · subst e
      simp [hs]
      simpa using hle
    · have hy':y ∈ ts:=by rcases List.mem_cons.1 hy with h | h;exact absurd h.symm e;exact h
      have ih:=ih hy'
      by_cases h1:a ∈ S
      · simp [h1];simpa using ih
      · simp [h1,e];simpa using ih
theorem DfsIn.push {R:UInt32→UInt32→Prop} {whom x:UInt32} {ws S N:List UInt32} {k M:Nat} {ts:List UInt32} (h:DfsIn R whom x ws S N k M ts) {y:UInt32} (hy:ws[k]?=some y) (hs:y ∉ S) (hR:R x y) (ht:y ∈ ts):DfsIn R whom x ws (S++[y]) (N++[y]) (k+1) M ts:=by
  refine ⟨?_,by simp [h.fst],fun z hz=>?_,fun z hz=>?_,by simp [h.xin],fun z hz hn hne w hw=>?_,fun z hz=>?_,?_⟩
  · rw [List.nodup_append]
    exact ⟨h.nd,by simp,fun a ha b hb e=>by simp at hb;subst hb;subst e;exact hs ha⟩
  · rcases List.mem_append.1 hz with hz | hz
    · exact h.can z hz
    · simp at hz;subst hz;exact (h.can x h.xin).tail hR
  · rcases List.mem_append.1 hz with hz | hz
    · exact List.mem_append_left _ (h.sub z hz)
    · exact List.mem_append_right _ hz
  · rcases List.mem_append.1 hz with hz | hz
    · exact List.mem_append_left _ (h.all z hz (fun hm=>hn (List.mem_append_left _ hm)) hne w hw)
    · exact absurd (List.mem_append_right N hz) hn
  · rw [ZA' hy] at hz
    rcases List.mem_append.1 hz with hz | hz
    · exact List.mem_append_left _ (h.part z hz)
    · exact List.mem_append_right _ hz
  · have:=h.mu;have:=Zf5_ ht hs
    rw [List.length_append,List.length_singleton];omega
theorem DfsIn.done {R:UInt32→UInt32→Prop} {whom x:UInt32} {ws S N:List UInt32} {k M:Nat} {ts:List UInt32} (h:DfsIn R whom x ws S N k M ts) (hk:ws.length≤k) (hR:∀ y,R x y→y ∈ ws):DfsOk R whom S N M ts:=
  ⟨h.nd,h.fst,h.can,h.sub,fun z hz hn y hy=>by
    by_cases e:z=x
    · subst e;exact h.part y (by rw [List.take_of_length_le hk];exact hR y hy)
    · exact h.all z hz hn e y hy,h.mu⟩
theorem DfsOk.stop {R:UInt32→UInt32→Prop} {whom who:UInt32} {S N:List UInt32} {M:Nat} {ts:List UInt32} (h:DfsOk R whom S N M ts) (hN:N=[]):who ∈ S↔Reach R whom who:=
  ⟨h.can who,fun hr=>hr.closed h.fst fun x hx y hy=>h.all x hx (by rw [hN];simp) y hy⟩
def QJ' (y:UInt32):UInt32 × Value:=(y,.int .i64 1)
theorem ZjW_ (S:List UInt32) (y:UInt32):(mget (S.map QJ') y).getD (.int .i64 0)=.int .i64 (if y ∈ S then 1 else 0):=by
  unfold mget
  induction S with
  | nil=>simp
  | cons a S ih=>
    simp only [List.map_cons,List.find?_cons,QJ']
    by_cases e:a=y
    · simp [e]
    · have:¬ y=a:=fun h=>e h.symm
      simp only [e,decide_false]
      rw [ih]
      simp [this]
theorem ZjX_ {S:List UInt32} {y:UInt32} (h:y ∉ S):mset (S.map QJ') y (.int .i64 1)=(S++[y]).map QJ':=by
  have h1:midx (S.map QJ') y=none:=by
    unfold midx
    rw [List.findIdx?_eq_none_iff]
    intro p hp
    obtain ⟨a,ha,rfl⟩:=List.mem_map.1 hp
    exact decide_eq_false fun e=>by
      have e:a=y:=e
      subst e;exact h ha
  simp [mset,h1,QJ']
section
variable {P : Program} {g : World} {Γ : Env} {L M : List HP} {dst : Option Tmp} {t : TypeId} {pos : String} {aft : Array Edge} {gd : Option (Nat × Bool)}
theorem ZaT_ {m:Value} {d:TypeDesc} {kt:TypeId} {S:List UInt32} {x i:Operand} {T e:TypeId} {k:UInt32} (ht:P.underlying T=some (.map kt e)) (hk:KeyOk P kt d eU32) (hz:(P.info? e).bind (·.zero)=some (.int .i64 0)) (hx:ev Γ x=some m:=by rfl) (hi:ev Γ i=some (.int .u32 k.toNat):=by rfl) (hp:Pick L (Mp eU32 m (S.map QJ')) M:=by repeat first | exact .z | apply Pick.s) :
    EO P g ⟨dst,.lookup T x i false,t,pos,aft,gd⟩ Γ L (.int .i64 (if k ∈ S then 1 else 0)):=ZjW_ S k ▸ VP' ht hk hz Zag_ hx hi hp
end
end Go.SL
namespace Go.SL
open Go Go.Proofs
def LockM.c (l:LockM):List Value:=[.string l.s.a,.string l.s.b,.bool l.alone]
theorem VZ':EncOk 3 LockM.c:=⟨fun _=>rfl,fun _=>rfl⟩
theorem ZlG_ {κ α:Type} [DecidableEq κ] (es:List (EntV κ α)) (k:κ):mdel (es.map kvE) k=(delE es k).map kvE:=by
  unfold mdel midx delE
  induction es with
  | nil=>rfl
  | cons e es ih=>
    simp only [List.map_cons,List.findIdx?_cons,List.eraseP_cons,kvE]
    by_cases h:e.key=k
    · simp [h]
    · simp only [h,decide_false,Bool.false_eq_true,if_false,cond_false]
      cases hm:List.findIdx? (fun p:κ × Value=>decide (p.1=k)) (es.map kvE) with
      | none=>rw [hm] at ih;simp [ih,kvE]
      | some j=>rw [hm] at ih;simp only [Option.map_some,List.eraseIdx_cons_succ,List.map_cons];rw [← ih];rfl
theorem Znd_ (es:List (EntV UInt32 LockM)) (k:UInt32):(delE es k).map stE=Xn' (es.map stE) k:=by
  unfold delE Xn'
  induction es with
  | nil=>rfl
  | cons e es ih=>
    simp only [List.map_cons,List.eraseP_cons,stE]
    by_cases h:e.key=k
    · simp [h]
    · simp only [h,decide_false,cond_false,List.map_cons,stE];rw [← ih]
theorem ZlH_ {κ α:Type} [DecidableEq κ] {E z:Nat} {enc:α→List Value} {es:List (EntV κ α)} {k:κ} {S:ZN'} (h:Ents E z enc es S):Ents E z enc (delE es k) S:=KI' (List.eraseP_sublist.map _) h
section
variable {P : Program} {g : World} {Γ : Env} {L M : List HP} {dst : Option Tmp} {t : TypeId} {pos : String} {aft : Array Edge} {gd : Option (Nat × Bool)}
theorem Zne_ {T T2 s:TypeId} {b0 b1:Nat} {x y:Operand} {a b:SpanM} (hT:P.underlying T=some (.struct #[⟨ "From",s,0,false, "", "",b0⟩,⟨ "To",s,1,false, "", "",b1⟩])) (hs:P.underlying s=some .string)
    (hs1:ZK' P s=some none) (hp:P.stoodInHeld T=false) (hm:P.eqGuardType P.depth T=false) (hx:ev Γ x=some a.v) (hy:ev Γ y=some b.v) :
    EO P g ⟨dst,.binOp .eql T x y T2,t,pos,aft,gd⟩ Γ L (.bool (eqS a b)):=Xl' hx hy fun w=>by
  have hf:P.fieldsOf T=#[⟨ "From",s,0,false, "", "",b0⟩,⟨ "To",s,1,false, "", "",b1⟩]:=by unfold Program.fieldsOf;rw [hT]
  have hE:∀ w,(Op.equalIn 10000 T (.agg #[.string a.a,.string a.b]) (.agg #[.string b.a,.string b.b])).run P w=.ok (eqS a b) w:=fun w=>by
    rw [show (10000:Nat)=9999+1 from rfl,run_equalIn_struct w 9999 T _ _ (by rw [hf];exact hT) hp,hf]
    simp only [Op.eqFields,Sem.run_bind]
    rw [if_pos (by decide)]
    simp only [Sem.run_bind]
    rw [Jy' hs1 _ 0 (.string a.a) rfl]
    simp only [Result.andThen_ok]
    rw [Jy' hs1 _ 0 (.string b.a) rfl]
    simp only [Result.andThen_ok]
    rw [show (9999:Nat)=9998+1 from rfl,run_equalIn_string w 9998 s a.a b.a hs]
    simp only [Result.andThen_ok]
    unfold eqS sEq
    rw [← beq_toListBytes,← beq_toListBytes]
    cases hk:a.a == b.a with
    | false=>simp [hk]
    | true=>
      simp only [Bool.not_true,Bool.false_eq_true,if_false,Bool.true_and]
      rw [if_pos (by decide)]
      simp only [Sem.run_bind]
      rw [Jy' hs1 _ 1 (.string a.b) rfl]
      simp only [Result.andThen_ok]
      rw [Jy' hs1 _ 1 (.string b.b) rfl]
      simp only [Result.andThen_ok]
      rw [run_equalIn_string w 9998 s a.b b.b hs]
      simp only [Result.andThen_ok]
      rw [← beq_toListBytes]
      cases hv:a.b == b.b <;> simp [hv]
  show (do eqGuard .eql T x y (.agg #[.string a.a,.string a.b]) (.agg #[.string b.a,.string b.b]);binOp .eql T (.agg #[.string a.a,.string a.b]) (.agg #[.string b.a,.string b.b]):Sem Value).run P w=_
  rw [Sem.run_bind,run_eqGuard_agg w .eql T x y _ _ hm]
  simp only [Result.andThen_ok]
  rw [run_eql_struct,hE];rfl
end
def YK' (n:UInt32) (es:List (EntV UInt32 LockM)):List (UInt32 × LockM):=es.flatMap fun e=>if e.key=n then [] else e.ws.map fun l=>(e.key,l)
theorem Zh8_ (n:UInt32) (A B:List (EntV UInt32 LockM)) (e:EntV UInt32 LockM):YK' n (A++e::B)=YK' n A++((if e.key=n then [] else e.ws.map fun l=>(e.key,l))++YK' n B):=by
  unfold YK';rw [List.flatMap_append,List.flatMap_cons]
theorem Zh9_ (n:UInt32) (A B:List (EntV UInt32 LockM)):YK' n (A++B)=YK' n A++YK' n B:=by unfold YK';rw [List.flatMap_append]
theorem Zia_ (n:UInt32) (es:List (EntV UInt32 LockM)):(YK' n es).length≤totL (es.map stE):=by
  unfold YK' totL
  induction es with
  | nil=>simp
  | cons e es ih=>
    simp only [List.flatMap_cons,List.length_append,List.map_cons,List.sum_cons,stE]
    have:(if e.key=n then [] else e.ws.map fun l=>(e.key,l)).length≤e.ws.length:=by split <;> simp
    omega
theorem Zcn_ {n k:UInt32} {l:LockM} {es:List (EntV UInt32 LockM)}:(k,l) ∈ YK' n es↔k≠n∧∃ ls,(k,ls) ∈ es.map stE∧l ∈ ls:=by
  unfold YK'
  rw [List.mem_flatMap]
  constructor
  · rintro ⟨e,he,h⟩
    split at h
    · cases h
    · rename_i hne
      obtain ⟨l',hl',h2⟩:=List.mem_map.1 h
      cases h2
      exact ⟨hne,e.ws,List.mem_map.2 ⟨e,he,rfl⟩,hl'⟩
  · rintro ⟨h1,ls,h2,h3⟩
    obtain ⟨e,he,h4⟩:=List.mem_map.1 h2
    simp only [stE,Prod.mk.injEq] at h4
    obtain ⟨rfl,rfl⟩:=h4
    exact ⟨e,he,by rw [if_neg h1];exact List.mem_map.2 ⟨l,h3,rfl⟩⟩
theorem ZjY_ {a b:List UInt32} (ha:a.Pairwise fun x y=>x < y) (hb:b.Pairwise fun x y=>x < y) (h:∀ x,x ∈ a↔x ∈ b):a=b:=by
  have na:a.Nodup:=List.nodup_iff_pairwise_ne.2 (ha.imp fun h e=>by subst e;exact absurd h (UInt32.lt_irrefl _))
  have nb:b.Nodup:=List.nodup_iff_pairwise_ne.2 (hb.imp fun h e=>by subst e;exact absurd h (UInt32.lt_irrefl _))
  exact ZdG_ ((List.perm_ext_iff_of_nodup na nb).2 h) (ha.imp UInt32.le_of_lt) (hb.imp UInt32.le_of_lt)
theorem Zib_ {L:LkT} (hn:(L.map (·.1)).Nodup) (n:UInt32) (p:SpanM) (w:Bool):(wayL L n p w).Pairwise fun x y=>x < y:=by
  have h1:(wayL L n p w).Pairwise fun x y=>decide (x≤y)=true:=List.pairwise_mergeSort (fun a b c h1 h2=>by simp only [decide_eq_true_eq] at *;exact UInt32.le_trans h1 h2) (fun a b=>by
    rcases UInt32.le_total a b with h | h <;> simp [h]) _
  have h2:(wayL L n p w).Nodup:=by
    unfold wayL
    exact (List.mergeSort_perm _ _).nodup_iff.2 (hn.sublist (List.filter_sublist.map _))
  refine (h1.and (List.nodup_iff_pairwise_ne.1 h2)).imp fun {x y} ⟨h3,h4⟩=>?_
  exact UInt32.lt_of_le_of_ne (by simpa using h3) h4
end Go.SL
