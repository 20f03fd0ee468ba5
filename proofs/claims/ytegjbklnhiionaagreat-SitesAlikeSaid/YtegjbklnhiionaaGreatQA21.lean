/- MD MI NM SLA NK SLB SLC TA NN: rules and walks, several texts in one. -/
import Derived.Test.YtegjbklnhiionaaGreatQA20
import Derived.WideLaws
import Derived.Laws.DeepStrings4
import Derived.Test.YtegjbklnhiionaaGreatProg
import Derived.KernelRfl
set_option linter.unusedSimpArgs false
set_option linter.unusedVariables false
set_option linter.unusedSectionVars false
namespace Go.SL
open Go
theorem GamOk.mono {s:GamV} {b c:Nat} (h:GamOk s b) (hb:b≤c) (hc:c≤1000000000):GamOk s c:=
  ⟨h.dok,h.hat,h.waits,h.rising,Nat.le_trans h.sum hb,Nat.le_trans h.looks hb,h.ids,h.own,hc⟩
structure AloneI (n:UInt32) (rows:List RowM) (at0:Nat) (s:GamV) (t:TxV) (b:Nat) (done:List OpM) (told:List (List RowM)):Prop where
  ok:GamOk s b
  calm:Calm s t
  id:t.id=n
  txs:s.txs=[t]
  hrows:s.rows=rows
  quiet:Quiet s.d
  at_:s.at_≤at0
  does:Does rows t.own done told
theorem AloneI.step {n:UInt32} {rows:List RowM} {at0:Nat} {s:GamV} {t:TxV} {b:Nat} {done:List OpM} {told:List (List RowM)} (h:AloneI n rows at0 s t b done told) (x:OpM) :
    (opOk x=false∧doG s n x=.err s 1)∨(opOk x=true∧Zp' x=true∧doG s n x=.put t (Z1' x))∨(opOk x=true∧Zp' x=false∧doG s n x=.look t):=by
  cases hx:opOk x with
  | false=>exact .inl ⟨rfl,ZmJ_ hx⟩
  | true=>
    rcases h.calm.do_ hx with ⟨hw,e⟩ | ⟨hw,e⟩ <;> rw [h.id] at e
    · exact .inr (.inl ⟨rfl,hw,e⟩)
    · exact .inr (.inr ⟨rfl,hw,e⟩)
theorem AloneI.put {n:UInt32} {rows:List RowM} {at0:Nat} {s:GamV} {t:TxV} {b:Nat} {done:List OpM} {told:List (List RowM)} (h:AloneI n rows at0 s t b done told) (hb:b+1≤1000000000) {x:OpM} (hx:opOk x=true) (hw:Zp' x=true) (sv:SV) :
    AloneI n rows at0 (putG s t.id (Z1' x) sv) { t with own:=t.own++[Z1' x],sv:=sv } (b+1) (done++[x]) (told++[[]]):=
  ⟨h.ok.put hb (by rw [h.txs];simp) _ (Vo' hx hw) sv,h.calm.put h.ok _ sv,h.id,by simp [putG,putT,h.txs],h.hrows,h.quiet,h.at_,h.does.write hx hw⟩
theorem AloneI.look {n:UInt32} {rows:List RowM} {at0:Nat} {s:GamV} {t:TxV} {b:Nat} {done:List OpM} {told:List (List RowM)} (h:AloneI n rows at0 s t b done told) (hb:b+1≤1000000000) {x:OpM} (hx:opOk x=true) (hw:Zp' x=false) :
    AloneI n rows at0 (Q4' s t (Zi' x)) t (b+1) (done++[x]) (told++[ZU' (Zv' s.rows t.own) (Zi' x) 256]):=
  ⟨h.ok.look hb t _,h.calm.look _,h.id,h.txs,h.hrows,h.quiet,h.at_,by rw [h.hrows];exact h.does.read (h.hrows ▸ h.ok.rising) hx hw⟩
theorem AloneI.mono {n:UInt32} {rows:List RowM} {at0:Nat} {s:GamV} {t:TxV} {b c:Nat} {done:List OpM} {told:List (List RowM)} (h:AloneI n rows at0 s t b done told) (hb:b≤c) (hc:c≤1000000000):AloneI n rows at0 s t c done told:=
  ⟨h.ok.mono hb hc,h.calm,h.id,h.txs,h.hrows,h.quiet,h.at_,h.does⟩
theorem AloneI.com {n:UInt32} {rows:List RowM} {at0:Nat} {s:GamV} {t:TxV} {b:Nat} {done:List OpM} {told:List (List RowM)} (h:AloneI n rows at0 s t b done told) (hb:t.own.length≤80) (ha:at0≤1000) :
    X7' s n=0∧(comG s n).rows=(runM rows done).2∧(comG s n).txs=[]∧(comG s n).last=s.last∧(comG s n).nums=JD' s.nums t.num t.own∧Quiet (comG s n).d∧(comG s n).at_≤at0+82∧(∀ y ∈ (comG s n).looks,y ∈ s.looks):=by
  obtain ⟨e1,e2,e3,e4,e5,e6,e7,e8,e9⟩:=Zlt_ h.calm h.ok h.quiet hb (by decide) (Nat.le_trans h.at_ ha)
  rw [h.id] at e1 e2 e3 e4 e5 e6 e7 e8 e9
  exact ⟨e1,by rw [e3,h.hrows,h.does.left],by rw [e6,h.txs];simp [delT,h.id],e5,e4,e7,by have:=h.at_;omega,e9⟩
theorem AloneI.abo {n:UInt32} {rows:List RowM} {at0:Nat} {s:GamV} {t:TxV} {b:Nat} {done:List OpM} {told:List (List RowM)} (h:AloneI n rows at0 s t b done told):K4' s n=0∧(aboG s n).rows=rows:=by
  have hf:=h.calm.find
  rw [h.id] at hf
  simp [K4',aboG,hf,Yl',h.hrows]
theorem AloneI.first {d:DiskM} (hq:Quiet d) (q:Nat):AloneI 1 [] 0 ⟨d,0,[],[],1,[],[tx1 q]⟩ (tx1 q) 0 [] []:=
  ⟨(Zj0_ d q).2 ▸ (ZgJ_ hq).beg 1 q,⟨by simp [Z7',tx1],by simp,by simp,by simp⟩,rfl,rfl,rfl,hq,Nat.le_refl _,Does.nil _⟩
end Go.SL
namespace Go.SL
open Go
def DoR.e (s:GamV) (x:OpM):DoR→DoE GamV
  | .err s' e=>.err s' e
  | .put t c=>.put fun sv=>putG s t.id c sv
  | .look t=>.look (Q4' s t (Zi' x)) (ZU' (Zv' s.rows t.own) (Zi' x) 256)
theorem UM' {ts:List TxV} {n:UInt32} {c:ChgM} {sv:SV} {u:TxV} (h:u ∈ putT ts n c sv):∃ v ∈ ts,u.id=v.id∧u.num=v.num∧u.own=if v.id=n then v.own++[c] else v.own:=by
  unfold putT at h
  obtain ⟨v,hv,rfl⟩:=List.mem_map.1 h
  refine ⟨v,hv,?_⟩
  split <;> simp
theorem ZmK_ {ts:List TxV} {n:UInt32} {c:ChgM} {sv:SV} {v:TxV} (h:v ∈ ts):∃ u ∈ putT ts n c sv,u.id=v.id∧u.num=v.num:=by
  refine ⟨if v.id=n then { v with own:=v.own++[c],sv:=sv } else v,List.mem_map.2 ⟨v,h,rfl⟩,?_⟩
  split <;> simp
theorem Zlu_ (ts:List TxV) (n:UInt32) (c:ChgM) (sv:SV):(putT ts n c sv).map (·.id)=ts.map (·.id):=by
  unfold putT
  rw [List.map_map]
  refine List.map_congr_left fun o _=>?_
  simp only [Function.comp]
  split <;> rfl
def NzG (s:GamV):Prop:=∀ t ∈ s.txs,t.id≠0
theorem NzG.beg {s:GamV} (h:NzG s) (n:UInt32) (q:Nat):NzG (begG s n q):=by
  unfold begG
  split
  · rename_i hE
    have h0:n≠0:=by intro e;simp [XE',e] at hE
    intro t ht
    rcases List.mem_append.1 ht with ht | ht
    · exact h t ht
    · obtain rfl:=List.mem_singleton.1 ht
      exact h0
  · exact h
theorem NzG.ends {s:GamV} (h:NzG s) (n:UInt32):NzG (Yl' s n):=fun t ht=>h t (UL'.mem ht)
theorem NzG.com {s:GamV} (h:NzG s) (n:UInt32):NzG (comG s n):=by
  unfold comG
  cases hf:Z7' s.txs n with
  | none=>exact h
  | some t=>
    simp only [Qw']
    split
    · exact h.ends n
    · exact h.ends n
theorem Zc0_ {s:GamV} {n:UInt32} {x:OpM}:(∃ s' e,doG s n x=.err s' e∧e≠0∧e≠10∧(s'=s∨s'=Yl' s n))∨∃ t,Z7' s.txs n=some t∧opOk x=true∧((Zp' x=true∧doG s n x=.put t (Z1' x))∨(Zp' x=false∧doG s n x=.look t)):=by
  unfold doG
  split
  · rename_i hx
    cases hf:Z7' s.txs n with
    | none=>exact .inl ⟨s,6,rfl,by decide,by decide,.inl rfl⟩
    | some t=>
      simp only
      split
      · exact .inl ⟨_,9,rfl,by decide,by decide,.inr rfl⟩
      · split
        · exact .inl ⟨s,8,rfl,by decide,by decide,.inl rfl⟩
        · split
          · rename_i hw
            exact .inr ⟨t,rfl,hx,.inl ⟨hw,rfl⟩⟩
          · rename_i hw
            exact .inr ⟨t,rfl,hx,.inr ⟨by simpa using hw,rfl⟩⟩
  · exact .inl ⟨s,1,rfl,by decide,by decide,.inl rfl⟩
structure FrG (s:GamV) (ids:List UInt32) (n:UInt32) (own:List ChgM) (rs:List RowM) (c k b:Nat):Prop where
  ok:GamOk s b
  nz:NzG s
  ids:s.txs.map (·.id)=ids
  own:∀ t ∈ s.txs,t.own=if t.id=n then own else []
  rows:s.rows=rs
  quiet:Quiet s.d
  at_:s.at_≤82 * c
  last:s.last.toNat≤b
  kl:k≤s.last.toNat
  nums:∀ e ∈ s.nums,e.2.toNat≤k
  tnum:∀ t ∈ s.txs,k < t.num.toNat∧t.num.toNat≤s.last.toNat
  lk:∀ x ∈ s.looks,x.1.toNat≤k∨∃ t ∈ s.txs,t.id=n∧x.1=t.num
section
variable {s : GamV} {ids : List UInt32} {n : UInt32} {own : List ChgM} {rs : List RowM} {c k b : Nat}
theorem FrG.find (h:FrG s ids n own rs c k b) (hn:n ∈ ids):∃ t,Z7' s.txs n=some t∧t.own=own∧t ∈ s.txs∧t.id=n:=by
  cases hf:Z7' s.txs n with
  | none=>exact absurd hn (by rw [← h.ids];exact Zaw_ hf)
  | some t=>exact ⟨t,rfl,by rw [h.own t (YW' hf),if_pos (X9' hf).1],YW' hf,(X9' hf).1⟩
theorem FrG.beg (h:FrG s ids n [] rs c k b) (hb:b+1≤1000000000) (j:UInt32) (h0:j≠0) (hj:j ∉ ids) (hl:ids.length < 32):XE' s j=0∧∀ q,FrG (begG s j q) (ids++[j]) n [] rs c k (b+1):=by
  have hf:Z7' s.txs j=none:=by
    cases hf:Z7' s.txs j with
    | none=>rfl
    | some t=>exact absurd (List.mem_map.2 ⟨t,YW' hf,(X9' hf).1⟩) (by rw [h.ids];exact hj)
  have hlen:s.txs.length=ids.length:=by rw [← h.ids,List.length_map]
  have hE:XE' s j=0:=by
    unfold XE'
    rw [if_neg h0,hf,hlen]
    simp;omega
  have hls:=h.last
  have hl1:(s.last+1).toNat=s.last.toNat+1:=by
    rw [UInt32.toNat_add];show (s.last.toNat+1) % 4294967296=_;omega
  refine ⟨hE,fun q=>?_⟩
  have hok:=(h.ok.beg j q).mono (Nat.le_succ b) hb
  have hnz:=h.nz.beg j q
  unfold begG at hok hnz ⊢
  rw [if_pos hE] at hok hnz ⊢
  refine ⟨hok,hnz,by simp [h.ids],fun t ht=>?_,h.rows,h.quiet,h.at_,by show (s.last+1).toNat≤_;omega,by have:=h.kl;show k≤(s.last+1).toNat;omega,h.nums,fun t ht=>?_,fun x hx=>?_⟩
  · rcases List.mem_append.1 ht with ht | ht
    · exact h.own t ht
    · obtain rfl:=List.mem_singleton.1 ht
      simp
  · show k < t.num.toNat∧t.num.toNat≤(s.last+1).toNat
    have:=h.kl
    rcases List.mem_append.1 ht with ht | ht
    · have:=h.tnum t ht;omega
    · obtain rfl:=List.mem_singleton.1 ht
      simp only;omega
  · rcases h.lk x hx with h1 | ⟨t,ht,h1⟩
    · exact .inl h1
    · exact .inr ⟨t,List.mem_append.2 (.inl ht),h1⟩
theorem FrG.quietly (h:FrG s ids n own rs c k b) {t:TxV} (ht:t ∈ s.txs) (hid:t.id=n) (p:SpanM) (w:Bool):Kx' s t p w=false∧Yv' s.txs t.id p=[]:=by
  have hu:Yv' s.txs t.id p=[]:=by
    unfold Yv'
    rw [List.map_eq_nil_iff,List.filter_eq_nil_iff]
    intro o ho
    by_cases e:o.id=t.id
    · simp [e]
    · have:=h.own o ho
      rw [if_neg (by rw [← hid];exact e)] at this
      simp [Qg',this]
  refine ⟨?_,hu⟩
  have hk:=h.tnum t ht
  have h1:Xx' s.nums t.num p=false:=by
    unfold Xx'
    rw [List.any_eq_false]
    intro e he
    have:=h.nums e he
    have:¬ t.num < e.2:=by rw [UInt32.lt_iff_toNat_lt];omega
    simp [this]
  have h2:(s.looks.any fun x=>decide (t.num < x.1) && meet x.2 p)=false:=by
    rw [List.any_eq_false]
    intro x hx
    have:¬ t.num < x.1:=by
      rw [UInt32.lt_iff_toNat_lt]
      rcases h.lk x hx with h3 | ⟨u,hu,hui,e⟩
      · omega
      · have:u=t:=by
          obtain ⟨A,B,e2⟩:=KN' ht
          by_cases hne:u=t
          · exact hne
          · have:=Zat_ (e2 ▸ h.ok.ids) u (by rw [e2] at hu;simp only [List.mem_append,List.mem_cons] at hu ⊢;rcases hu with hu | hu | hu;exact .inl hu;exact absurd hu hne;exact .inr hu)
            exact absurd (hui.trans hid.symm) this
        rw [e,this];omega
    simp [this]
  unfold Kx'
  rw [h1,hu,h2];simp
theorem FrG.does (h:FrG s ids n own rs c k b) (hn:n ∈ ids) {x:OpM} (hx:opOk x=true):∃ t,t ∈ s.txs∧t.id=n∧t.own=own∧doG s n x=if Zp' x then .put t (Z1' x) else .look t:=by
  obtain ⟨t,hf,ho,ht,hid⟩:=h.find hn
  obtain ⟨h1,h2⟩:=h.quietly ht hid (Zi' x) (Zp' x)
  refine ⟨t,ht,hid,ho,?_⟩
  unfold doG
  rw [hx,hf];simp only [if_true]
  rw [h1,h2];simp
theorem FrG.put (h:FrG s ids n own rs c k b) (hb:b+1≤1000000000) {t:TxV} (ht:t ∈ s.txs) (hid:t.id=n) {x:OpM} (hx:opOk x=true) (hw:Zp' x=true) (sv:SV):FrG (putG s t.id (Z1' x) sv) ids n (own++[Z1' x]) rs c k (b+1):=by
  have hok:=h.ok.put hb ht (Z1' x) (Vo' hx hw) sv
  refine ⟨hok,fun u hu=>?_,by show (putT _ _ _ _).map _=_;rw [Zlu_];exact h.ids,fun u hu=>?_,h.rows,h.quiet,h.at_,Nat.le_succ_of_le h.last,h.kl,h.nums,fun u hu=>?_,fun y hy=>?_⟩
  · obtain ⟨v,hv,e,_,_⟩:=UM' hu
    rw [e];exact h.nz v hv
  · obtain ⟨v,hv,e,_,e2⟩:=UM' hu
    rw [e2,e,h.own v hv,hid]
    split <;> simp
  · obtain ⟨v,hv,_,e,_⟩:=UM' hu
    rw [e];exact h.tnum v hv
  · rcases h.lk y hy with h1 | ⟨v,hv,h1,h2⟩
    · exact .inl h1
    · obtain ⟨u,hu,e1,e2⟩:=ZmK_ (n:=t.id) (c:=Z1' x) (sv:=sv) hv
      exact .inr ⟨u,hu,e1.trans h1,h2.trans e2.symm⟩
theorem FrG.look (h:FrG s ids n own rs c k b) (hb:b+1≤1000000000) {t:TxV} (ht:t ∈ s.txs) (hid:t.id=n) (p:SpanM):FrG (Q4' s t p) ids n own rs c k (b+1):=by
  refine ⟨h.ok.look hb t p,h.nz,h.ids,h.own,h.rows,h.quiet,h.at_,Nat.le_succ_of_le h.last,h.kl,h.nums,h.tnum,fun y hy=>?_⟩
  rcases List.mem_append.1 hy with hy | hy
  · exact h.lk y hy
  · obtain rfl:=List.mem_singleton.1 hy
    exact .inr ⟨t,ht,hid,rfl⟩
theorem FrG.alone (h:FrG s [n] n own rs c k b) {t:TxV} (hf:Z7' s.txs n=some t):delT s.txs n=[]:=by
  have h2:s.txs.length=1:=by have:=congrArg List.length h.ids;simpa using this
  obtain ⟨u,hu⟩:=List.length_eq_one_iff.1 h2
  rw [hu] at hf ⊢
  have:=YW' hf
  rw [List.mem_singleton] at this
  unfold delT
  rw [← this,List.eraseP_cons_of_pos (by simpa using (X9' hf).1)]
theorem FrG.com (h:FrG s ids n own rs c k b) (hb:b+1≤1000000000) (hn:n ∈ ids) (hl:own.length≤80) (hc:c≤40) :
    X7' s n=0∧(ids=[n]→k < (XT' s n).toNat∧∀ m,FrG (comG s n) [] m [] (Zv' rs own) (c+1) (XT' s n).toNat (b+1)):=by
  obtain ⟨t,hf,ho,ht,hid⟩:=h.find hn
  have hlen:=UK' t
  have hcl:=(Xy' t.own).2 (h.ok.own t ht)
  have hat:=h.at_
  rw [ho] at hcl hlen
  have hfit:Ky' s t:=⟨by omega,by rw [h.quiet.len];unfold secs;omega⟩
  have hN:XT' s n=t.num:=by simp only [XT',hf,if_pos hfit]
  have hS:comG s n={ Yl' s n with d:=(addW s.d s.at_ (frame (recG t)) (secs (recG t).length)).sync,at_:=s.at_+secs (recG t).length,rows:=Zv' s.rows t.own,nums:=JD' s.nums t.num t.own }:=by
    simp only [comG,hf,Qw',if_pos hfit]
  refine ⟨by simp only [X7',hf,if_pos hfit],fun hids=>?_⟩
  subst hids
  have hd:=h.alone hf
  have hk:=h.tnum t ht
  rw [hN]
  refine ⟨hk.1,fun m=>?_⟩
  have htx:(comG s n).txs=[]:=by rw [Qh' hf];exact hd
  have hlast:(comG s n).last=s.last:=by rw [hS];rfl
  refine ⟨(h.ok.com n).mono (Nat.le_succ b) hb,h.nz.com n,by rw [htx];rfl,(by rw [htx];intro u hu;cases hu),?_,?_,?_,by rw [hlast];exact Nat.le_succ_of_le h.last,by rw [hlast];exact hk.2,?_,(by rw [htx];intro u hu;cases hu),?_⟩
  · rw [hS,← h.rows,← ho]
  · rw [hS];exact h.quiet.add _ _ _
  · rw [hS];show s.at_+secs (recG t).length≤82 * (c+1);unfold secs;omega
  · rw [hS]
    exact Zi2_ (p:=fun v=>v.toNat≤t.num.toNat) (fun y hy=>by have:=h.nums y hy;omega) (Nat.le_refl _) t.own
  · rw [hS]
    intro x hx
    have hx:=(List.mem_filter.1 hx).1
    left
    rcases h.lk x hx with h1 | ⟨u,hu,hui,e⟩
    · omega
    · have h2:s.txs.length=1:=by have:=congrArg List.length h.ids;simpa using this
      obtain ⟨v,hv⟩:=List.length_eq_one_iff.1 h2
      rw [hv,List.mem_singleton] at hu ht
      rw [e,hu,ht];exact Nat.le_refl _
theorem FrG.abo (h:FrG s ids n own rs c k b) (hn:n ∈ ids):K4' s n=0∧(ids=[n]→∀ m,FrG (aboG s n) [] m [] rs c s.last.toNat b):=by
  obtain ⟨t,hf,ho,ht,hid⟩:=h.find hn
  refine ⟨by simp [K4',hf],fun hids m=>?_⟩
  subst hids
  have hd:=h.alone hf
  have hS:aboG s n=Yl' s n:=by simp [aboG,hf]
  rw [hS]
  have htx:(Yl' s n).txs=[]:=hd
  have hkl:=h.kl
  refine ⟨h.ok.ends n,h.nz.ends n,by rw [htx];rfl,(by rw [htx];intro u hu;cases hu),h.rows,h.quiet,h.at_,h.last,Nat.le_refl _,fun e he=>by have:=h.nums e he;omega,(by rw [htx];intro u hu;cases hu),fun x hx=>?_⟩
  have hx:=(List.mem_filter.1 hx).1
  left
  rcases h.lk x hx with h1 | ⟨u,hu,hui,e⟩
  · omega
  · rw [e];exact (h.tnum u hu).2
end
theorem Zax_ (n:UInt32):FrG (gam0 (Z8' 4096).sync) [] n [] [] 0 0 0:=by
  have hq:Quiet (Z8' 4096).sync:=⟨Xb'.ok.sync,by show (Z8' 4096).seen.length=4096;rw [Xb'.ok.len];exact Xb'.len,rfl⟩
  refine ⟨ZgJ_ hq,(by intro t ht;cases ht),rfl,(by intro t ht;cases ht),rfl,hq,Nat.zero_le _,Nat.zero_le _,Nat.zero_le _,(by intro t ht;cases ht),(by intro t ht;cases ht),by intro t ht;cases ht⟩
noncomputable def Vu':EngM where
  St:=GamV
  Ok:=fun s b=>GamOk s b∧NzG s
  first:=gam0 (Z8' 4096).sync
  begE:=XE'
  begS:=begG
  doS:=fun s n x=>(doG s n x).e s x
  comE:=X7'
  comN:=XT'
  comS:=comG
  aboE:=K4'
  aboS:=aboG
  rows:=GamV.rows
  okFirst:=⟨(Zax_ 0).ok,(Zax_ 0).nz⟩
  okMono:=fun h hb hc=>⟨h.1.mono hb hc,h.2⟩
  okBB:=fun h=>h.1.bb
  okBeg:=fun h n q=>⟨h.1.beg n q,h.2.beg n q⟩
  okErr:=fun {s b n x s' e} h he=>by
    rcases Zc0_ (s:=s) (n:=n) (x:=x) with ⟨s2,e2,h1,h2,h3,h4⟩ | ⟨t,_,_,⟨_,h1⟩ | ⟨_,h1⟩⟩
    · rw [h1] at he
      cases he
      rcases h4 with rfl | rfl
      · exact ⟨h,h2,h3⟩
      · exact ⟨⟨h.1.ends n,h.2.ends n⟩,h2,h3⟩
    · rw [h1] at he;cases he
    · rw [h1] at he;cases he
  okPut:=fun {s b n x f} h hb he=>by
    rcases Zc0_ (s:=s) (n:=n) (x:=x) with ⟨s2,e2,h1,h2,h3,h4⟩ | ⟨t,hf,hx,⟨hw,h1⟩ | ⟨_,h1⟩⟩
    · rw [h1] at he;cases he
    · rw [h1] at he
      cases he
      refine ⟨fun sv=>⟨h.1.put hb (YW' hf) _ (Vo' hx hw) sv,fun u hu=>?_⟩,hx⟩
      obtain ⟨v,hv,e,_,_⟩:=UM' hu
      rw [e];exact h.2 v hv
    · rw [h1] at he;cases he
  okLook:=fun {s b n x s' r} h hb he=>by
    rcases Zc0_ (s:=s) (n:=n) (x:=x) with ⟨s2,e2,h1,h2,h3,h4⟩ | ⟨t,hf,hx,⟨hw,h1⟩ | ⟨_,h1⟩⟩
    · rw [h1] at he;cases he
    · rw [h1] at he;cases he
    · rw [h1] at he
      cases he
      exact ⟨⟨h.1.look hb t _,h.2⟩,by unfold ZU';simp;omega,hx⟩
  okCom:=fun h hb n=>⟨(h.1.com n).mono (Nat.le_succ _) hb,h.2.com n⟩
  okAbo:=fun {s b} h n=>⟨h.1.abo n,by
    unfold aboG
    split
    · exact h.2.ends n
    · exact h.2⟩
  rowsLe:=fun h=>by have:=h.1.sum;omega
  rising:=fun h=>h.1.rising
  doBad:=fun hx=>by simp [doG,hx,DoR.e]
  doNone:=fun {s b x} h hx=>by
    have hf:Z7' s.txs 0=none:=by
      cases hf:Z7' s.txs 0 with
      | none=>rfl
      | some t=>exact absurd (X9' hf).1 (h.2 t (YW' hf))
    simp [doG,hx,hf,DoR.e]
  Fr:=FrG
  frOk:=fun h=>⟨h.ok,h.nz⟩
  frRows:=fun h=>h.rows
  frFirst:=Zax_
  frBeg:=fun h hb j h0 hj hl=>h.beg hb j h0 hj hl
  frPut:=fun {s ids n own rs c k b x} h hb hn hx hw=>by
    obtain ⟨t,ht,hid,ho,e⟩:=h.does hn hx
    rw [hw,if_pos rfl] at e
    refine ⟨fun sv=>putG s t.id (Z1' x) sv,by rw [e];rfl,fun sv=>h.put hb ht hid hx hw sv⟩
  frLook:=fun {s ids n own rs c k b x} h hb hn hx hw=>by
    obtain ⟨t,ht,hid,ho,e⟩:=h.does hn hx
    rw [hw,if_neg (by simp)] at e
    refine ⟨Q4' s t (Zi' x),by rw [e,← ho,← h.rows];rfl,h.look hb ht hid _⟩
  frCom:=fun h hb hn hl hc=>h.com hb hn hl hc
  frAbo:=fun h hn=>by
    obtain ⟨e,h2⟩:=h.abo hn
    exact ⟨e,fun hid=>⟨_,h.kl,h2 hid⟩⟩
  frAbE:=fun {s ids n own rs c k b j} h hj=>by
    cases hf:Z7' s.txs j with
    | none=>exact absurd hj (by rw [← h.ids];exact Zaw_ hf)
    | some t=>simp [K4',hf]
end Go.SL
namespace Go.SL
open Go
end Go.SL
namespace Go.SL
open Go
def metB (P:Program) (T:TypeId) (name:String) (f:FuncId):Bool:=(match P.underlying T with | some (.pointer _)=>true | _=>false) &&
  match (P.info? T).bind fun i=>i.methods.find? (·.name == name) with
  | some m=>m.path.isEmpty && (m.func == some (f,true))
  | none=>false
section
variable {P : Program} {r : Option Nat} {g : World} {Γ : Env} {L M : List HP} {dst : Option Tmp} {t : TypeId} {pos : String} {aft : Array Edge} {gd : Option (Nat × Bool)}
theorem Zh6_ {T:TypeId} {name:String} {f:FuncId} (h:metB P T name f=true) (n:Nat) (v:Value) (w:World):(method (n+1) T v name).run P w=.ok (f,v) w:=by
  unfold metB at h
  rw [Bool.and_eq_true] at h
  obtain ⟨h1,h2⟩:=h
  split at h1
  case h_2=>cases h1
  rename_i E hE
  split at h2
  case h_2=>cases h2
  rename_i m hm
  rw [Bool.and_eq_true,Array.isEmpty_iff,beq_iff_eq] at h2
  obtain ⟨h3,h4⟩:=h2
  cases hi:P.info? T with
  | none=>rw [hi] at hm;cases hm
  | some i=>
    rw [hi] at hm
    have hm:i.methods.find? (·.name == name)=some m:=hm
    unfold method
    simp only [Sem.run_bind,Jh' hi,Result.andThen_ok,hm,h3,follow,Sem.run_pure,h4,receiverAt,run_underlying hE,Place.get,Array.toList_empty]
theorem Qi' {T:TypeId} {name:String} {f:FuncId} (h:metB P T name f=true) (hf:Zh' P f=true) (v:Value) (args:Array Value) (w:World):(callMethod (.iface T v) name args).run P w=.ok (.enter f (#[v]++args)) w:=by
  unfold callMethod
  obtain ⟨n,hn⟩:∃ n,P.types.size+Made.depth=n+1:=by
    have h0:0 < Made.depth:=by decide
    exact ⟨P.types.size+Made.depth - 1,by omega⟩
  have hp:(program:Sem Program).run P w=.ok P w:=rfl
  simp only [Sem.run_bind,hp,Result.andThen_ok,hn,Zh6_ h n v w]
  exact Xf' hf _ w
theorem JG' {f:FuncId} {T:TypeId} {name:String} {v:Value} {x:Operand} {az:List Operand} {ts:Array TypeId} {args:List Value} {Pre R:List HP} {T':(Value→List HP→Prop)→List HP→Prop} {K:Value→List HP→Prop} (hm:metB P T name f=true) (hs:Spec P g f (v::args) Pre T') (hf:Zh' P f=true)
    (hK:T' K R) (hx:ev Γ x=some (.iface T v):=by rfl) (ha:evs Γ az=some args:=by rfl) (hL:Split L Pre R:=by repeat first | exact .nil | exact Pick.z | apply Pick.s | apply Split.cons):HO P r g ⟨dst,.call ⟨.invoke x name,az.toArray,ts⟩,t,pos,aft,gd⟩ Γ L K:=
  HO.enter (by simp) hs hL (fun a w hΓ=>by
    have h1:az.toArray.map a.eval=args.toArray:=JU' ha (fun x u _ hx=>Z4' hx hΓ)
    show (do let d ← resolve a.eval ⟨.invoke x name,az.toArray,ts⟩ t;invoke d.target d.args:Sem Next).run P w=_
    simp only [resolve,h1,Z4' hx hΓ,Sem.run_bind,Sem.run_pure,Result.andThen_ok,invoke]
    have e:(#[Value.iface T v]++args.toArray)[0]?=some (.iface T v):=by simp
    simp only [e]
    rw [Qi' hm hf]
    simp) hK
theorem CallV.of_met {f:FuncId} {T:TypeId} {name:String} {v:Value} {args:List Value} {Pre:List HP} {T':(Value→List HP→Prop)→List HP→Prop} (hm:metB P T name f=true) (hs:Spec P g f (v::args) Pre T') (hf:Zh' P f=true):CallV P g (.func (.method name) #[.iface T v] #[]) args Pre T':=
  fun R K w _ hw hT=>⟨{ target:=.fn (.method name) #[],args:=#[.iface T v]++args.toArray },.enter f (v::args).toArray,w,fun w=>rfl,by
    have e:(#[Value.iface T v]++args.toArray)[0]?=some (.iface T v):=by simp
    simp only [invoke,e]
    rw [Qi' hm hf]
    simp,hs R K w hw hT⟩
theorem CallV.of_metx {f:FuncId} {I T:TypeId} {name:String} {v:Value} {ms:Array (String × TypeId)} {args:List Value} {Pre:List HP} {T':(Value→List HP→Prop)→List HP→Prop} (hI:P.underlying I=some (.interface ms)) (hm:metB P T name f=true) (hs:Spec P g f (v::args) Pre T') (hf:Zh' P f=true):CallV P g (.func (.methodOf I name) #[] #[]) (.iface T v::args) Pre T':=
  fun R K w _ hw hT=>⟨{ target:=.fn (.methodOf I name) #[],args:=#[]++(Value.iface T v::args).toArray },.enter f (v::args).toArray,w,fun w=>rfl,by
    have e:(#[]++(Value.iface T v::args).toArray)[0]?=some (.iface T v):=by simp
    simp only [invoke,e,Sem.run_bind,run_underlying hI,Result.andThen_ok,Sem.run_pure]
    rw [Qi' hm hf]
    simp,hs R K w hw hT⟩
theorem Zfd_ {T E:TypeId} {x:Operand} {v:Value} (hT:P.underlying T=some (.pointer E)) (hx:ev Γ x=some v:=by rfl):EO P g ⟨dst,.makeInterface T x,t,pos,aft,gd⟩ Γ L (.iface T v):=
  .of (by simp) fun ρ hρ w _=>by
    have h1:=hρ x v (by simp [Op.operands]) hx
    show ((do pure (Next.value (← Instr.makeInterface T (ρ x))):Sem Next)).run P w=_
    rw [h1]
    simp only [Instr.makeInterface,Sem.run_bind,run_underlying hT,Result.andThen_ok,Sem.run_pure]
theorem ZmL_ {xt yt T:TypeId} {x y:Operand} {v:Value} (hI:P.underlying xt=some (.interface (P.methodsAt xt))) (hx:ev Γ x=some (.iface T v):=by rfl) (hy:ev Γ y=some .nilIface:=by rfl):EO P g ⟨dst,.binOp .neq xt x y yt,t,pos,aft,gd⟩ Γ L (.bool true):=Xm' hx hy fun w=>by
  simp only [eqGuard,Sem.run_bind]
  exact run_neq_held_nil w xt T v hI
end
end Go.SL
namespace Go.SL
open Go
structure SiX where
  loc:Bool
  sp:List SpanM
structure BndV where
  g:UInt32
  tx:UInt32
  sv:SV
  sp:List SpanM
structure SiteV (σ:Type) where
  st:σ
  l:List (TxU UInt32 SiX)
  bs:List BndV
def kvB (b:BndV):UInt32 × Value:=(b.g,.agg #[.int .u32 b.tx.toNat,b.sv.v])
def K5' (bs:List BndV) (g:UInt32):Option BndV:=bs.find? fun b=>decide (b.g=g)
def delB (bs:List BndV) (g:UInt32):List BndV:=bs.eraseP fun b=>decide (b.g=g)
def setB (bs:List BndV) (b:BndV):List BndV:=match bs.findIdx? (fun o=>decide (o.g=b.g)) with
  | some i=>bs.set i b
  | none=>bs++[b]
theorem Zfe_ (bs:List BndV) (g:UInt32):mget (bs.map kvB) g=(K5' bs g).map fun b=>(kvB b).2:=by
  unfold mget K5'
  induction bs with
  | nil=>rfl
  | cons e es ih=>
    simp only [List.map_cons,List.find?_cons,kvB]
    by_cases h:e.g=g
    · simp [h]
    · simp only [h,decide_false];exact ih
theorem Zff_ (bs:List BndV) (b:BndV):mset (bs.map kvB) b.g (kvB b).2=(setB bs b).map kvB:=by
  have h:midx (bs.map kvB) b.g=bs.findIdx? (fun o=>decide (o.g=b.g)):=by
    unfold midx;rw [List.findIdx?_map];rfl
  unfold mset setB
  rw [h]
  cases List.findIdx? (fun o:BndV=>decide (o.g=b.g)) bs with
  | none=>simp [kvB]
  | some i=>simp [kvB,List.map_set]
theorem Zlv_ (bs:List BndV) (g:UInt32):mdel (bs.map kvB) g=(delB bs g).map kvB:=by
  unfold mdel midx delB
  induction bs with
  | nil=>rfl
  | cons t ts ih=>
    simp only [List.map_cons,List.findIdx?_cons,List.eraseP_cons,kvB]
    by_cases h:t.g=g
    · simp [h]
    · simp only [h,decide_false,Bool.false_eq_true,if_false,cond_false]
      cases hm:List.findIdx? (fun p:UInt32 × Value=>decide (p.1=g)) (ts.map kvB) with
      | none=>rw [hm] at ih;simp [ih,kvB]
      | some j=>rw [hm] at ih;simp only [Option.map_some,List.eraseIdx_cons_succ,List.map_cons];rw [← ih];rfl
def putU (ts:List (TxU UInt32 SiX)) (t:TxU UInt32 SiX):List (TxU UInt32 SiX):=match ts.findIdx? (fun o=>decide (o.id=t.id)) with
  | some i=>ts.set i t
  | none=>ts++[t]
theorem Zj2_ (ts:List (TxU UInt32 SiX)) (t:TxU UInt32 SiX):mset (ts.map kvU) t.id (.pointer (some ⟨t.q,0,none⟩))=(putU ts t).map kvU:=by
  have h:midx (ts.map kvU) t.id=ts.findIdx? (fun o=>decide (o.id=t.id)):=by
    unfold midx;rw [List.findIdx?_map];rfl
  unfold mset putU
  rw [h]
  cases List.findIdx? (fun o:TxU UInt32 SiX=>decide (o.id=t.id)) ts with
  | none=>simp [kvU]
  | some i=>simp [kvU,List.map_set]
theorem Zfg_ {ts:List (TxU UInt32 SiX)} {t:TxU UInt32 SiX} (h:Zs' ts t.id=none):putU ts t=ts++[t]:=by
  unfold putU
  rw [List.findIdx?_eq_none_iff.2 (fun x hx=>by have:=JC' h;simp only [decide_eq_false_iff_not];exact fun e=>this (List.mem_map.2 ⟨x,hx,e⟩))]
def anyS (p:SpanM) (l:List SpanM):Bool:=l.any fun x=>meet p x
def Z9' (a b:List SpanM):Bool:=a.any fun p=>anyS p b
def XN' (bs:List BndV) (n:UInt32) (p:SpanM):Bool:=bs.any fun b=>b.tx != n && anyS p b.sp
def keyU:ByteArray:=⟨#[95]⟩
def keyZ:ByteArray:=⟨#[95,122,122,122,122,122,122,122,122,122,122,122,122,122,122,122]⟩
def resS:SpanM:=⟨keyU,keyZ⟩
def mayS (bs:List BndV) (n:UInt32) (loc:Bool) (p:SpanM):Nat:=if loc && (XN' bs n p || meet p resS) then 10 else if XN' bs n p then 8 else 0
def K6' (x:OpM):Bool:=!(x.kind < 1 || decide (4 < x.kind))
section
variable {M : EngM}
def DoE.lift (v:SiteV M.St):DoE M.St→DoE (SiteV M.St)
  | .err s e=>.err { v with st:=s } e
  | .put f=>.put fun sv=>{ v with st:=f sv }
  | .look s r=>.look { v with st:=s } r
def doSi (v:SiteV M.St) (n:UInt32) (x:OpM):DoE (SiteV M.St):=match Zs' v.l n with
  | none=>(M.doS v.st n x).lift v
  | some t=>if K6' x then (if mayS v.bs n t.x.loc (Zi' x)=0 then match M.doS v.st n x with
        | .err s e=>.err { v with st:=s,l:=if e=9 then delU v.l n else v.l } e
        | .put f=>.put fun sv=>{ v with st:=f sv,l:=setU v.l n { t.x with sp:=t.x.sp++[Zi' x] } }
        | .look s r=>.look { v with st:=s,l:=setU v.l n { t.x with sp:=t.x.sp++[Zi' x] } } r
      else .err v (if opOk x then mayS v.bs n t.x.loc (Zi' x) else 1))
    else (M.doS v.st n x).lift v
def UN' (v:SiteV M.St) (n:UInt32) (loc:Bool) (q q2:Nat):SiteV M.St:={ v with st:=M.begS v.st n q,l:=if M.begE v.st n=0 then putU v.l ⟨n,q2,⟨loc,[]⟩⟩ else v.l }
def ZcC_ (v:SiteV M.St) (n:UInt32):SiteV M.St:={ v with st:=M.comS v.st n,l:=delU v.l n }
def ZaW_ (v:SiteV M.St) (n:UInt32):SiteV M.St:={ v with st:=M.aboS v.st n,l:=delU v.l n }
def YZ' (v:SiteV M.St) (n g:UInt32) (l:List SpanM):Nat:=
  if (g == 0 || l.length == 0 || l.any fun p=>!meet p p) then 1
  else if (n != 0 && (Zs' v.l n).isNone) then 6
  else if (v.bs.any fun b=>b.g != g && Z9' b.sp l) then 11
  else if (v.l.any fun t=>t.id != n && Z9' t.x.sp l) then 11 else 0
def XR' (v:SiteV M.St) (n g:UInt32) (sv:SV) (l:List SpanM):SiteV M.St:=if YZ' v n g l=0 then { v with bs:=setB v.bs ⟨g,n,sv,l⟩ } else v
def UO' (v:SiteV M.St) (g:UInt32):Nat:=if (K5' v.bs g).isSome then 0 else 6
def Zfh_ (v:SiteV M.St) (g:UInt32):SiteV M.St:={ v with bs:=delB v.bs g }
structure SiOk (v:SiteV M.St) (b:Nat):Prop where
  ok:M.Ok v.st b
  ids:(v.l.map (·.id)).Nodup
  lens:∀ t ∈ v.l,t.x.sp.length≤b
  ll:v.l.length≤b
  bl:v.bs.length≤b
  bsp:∀ x ∈ v.bs,x.sp.length≤68719476736
end
end Go.SL
namespace Go.SL
open Go
theorem Spec.bun2 {P:Program} {g:World} {f:FuncId} {args:List Value} {A B:HP} {T T':(Value→List HP→Prop)→List HP→Prop} (h:Spec P g f args [A,B] T)
    (hT:∀ K R,T' K R→T (fun v N=>∃ N',K v N'∧∀ S,Zm' N S→Zm' N' S) R):Spec P g f args [bun [A,B]] T':=fun R K w hw hk=>
  (h R _ w (hw.conv fun _=>Yx') (hT K R hk)).mono fun e w' ⟨v,N,h1,⟨N',h2,h3⟩,h4⟩=>⟨v,N',h1,h2,h4.conv h3⟩
theorem Spec.bunF {P:Program} {g:World} {f:FuncId} {args:List Value} {A B:HP} {T T':(Value→List HP→Prop)→List HP→Prop} (h:Spec P g f args [A] T)
    (hT:∀ K R,T' K R→T (fun v N=>∃ N',K v N'∧∀ S,Zm' N S→Zm' N' S) (B::R)):Spec P g f args [bun [A,B]] T':=fun R K w hw hk=>
  (h (B::R) _ w (hw.conv fun _=>Yx') (hT K R hk)).mono fun e w' ⟨v,N,h1,⟨N',h2,h3⟩,h4⟩=>⟨v,N',h1,h2,h4.conv h3⟩
theorem bun2 {A B:HP} {R:List HP}:∀ S,Zm' (A::B::R) S→Zm' (bun [A,B]::R) S:=fun _ h=>Yz' (L:=[A,B]) h
theorem ZaX_ {A B C:HP} {R:List HP}:∀ S,Zm' (A::B::C::R) S→Zm' (A::bun [B,C]::R) S:=fun _ h=>ZV' (fun _=>bun2 _) h
structure Eng (P:Program) (g:World) (rt:TypeId) (M:EngM) where
  T:TypeId
  pc:Nat→Nat→M.St→HP
  fB:FuncId
  fD:FuncId
  fC:FuncId
  fA:FuncId
  fR:FuncId
  mB:metB P T "Begin" fB=true
  mD:metB P T "Do" fD=true
  mC:metB P T "Commit" fC=true
  mA:metB P T "Abort" fA=true
  mR:metB P T "Rows" fR=true
  cB:Zh' P fB=true
  cD:Zh' P fD=true
  cC:Zh' P fC=true
  cA:Zh' P fA=true
  cR:Zh' P fR=true
  sB:∀ {p dp:Nat} {s:M.St} (n:UInt32),Spec P g fB [.pointer (some ⟨p,0,none⟩),.int .u32 n.toNat] [pc p dp s] fun K R=>∀ q,K (.int .i64 (M.begE s n)) (pc p dp (M.begS s n q)::R)
  sD:∀ {p dp b:Nat} {s:M.St} (n:UInt32) (x:OpM),M.Ok s b→Spec P g fD [.pointer (some ⟨p,0,none⟩),.int .u32 n.toNat,x.v] [pc p dp s] fun K R=>match M.doS s n x with
    | .err s' e=>K (.tuple #[.agg #[.slice none 0 0],.int .i64 e]) (pc p dp s'::R)
    | .put f=>∀ sv,K (.tuple #[.agg #[.slice none 0 0],.int .i64 0]) (pc p dp (f sv)::R)
    | .look s' rows=>∀ a m c,K (.tuple #[.agg #[.slice a m c],.int .i64 0]) (Sl rt 2 RowM.c (.slice a m c) rows::pc p dp s'::R)
  sC:∀ {p dp b:Nat} {s:M.St} (n:UInt32),M.Ok s b→b+1≤1000000000→Spec P g fC [.pointer (some ⟨p,0,none⟩),.int .u32 n.toNat] [pc p dp s] fun K R=>K (.tuple #[.int .u32 (M.comN s n).toNat,.int .i64 (M.comE s n)]) (pc p dp (M.comS s n)::R)
  sA:∀ {p dp b:Nat} {s:M.St} (n:UInt32),M.Ok s b→Spec P g fA [.pointer (some ⟨p,0,none⟩),.int .u32 n.toNat] [pc p dp s] fun K R=>K (.int .i64 (M.aboE s n)) (pc p dp (M.aboS s n)::R)
  sR:∀ {p dp b:Nat} {s:M.St},M.Ok s b→Spec P g fR [.pointer (some ⟨p,0,none⟩)] [pc p dp s] fun K R=>∀ a m c,K (.slice a m c) (Sl rt 2 RowM.c (.slice a m c) (M.rows s)::pc p dp s::R)
end Go.SL
namespace Go.SL
open Go
def Bnds (E:Nat) (bs:List BndV):HP:=bun (bs.map fun b=>Sl E 2 SpanM.c b.sv.v b.sp)
section
variable {E : Nat} {bs A B : List BndV} {b : BndV}
theorem ZbA_ {L:List HP} {S:ZN'} (h:Zm' L S):Zm' (Bnds E []::L) S:=Yz' (L:=[]) h
theorem ZbB_ (h:bs=A++b::B):∀ S,Bnds E bs S→∃ _:Unit,Zm' [Sl E 2 SpanM.c b.sv.v b.sp,Bnds E (A++B)] S:=fun S hS=>by
  subst h
  refine ⟨(),?_⟩
  have hS:Zm' ((A++b::B).map fun b=>Sl E 2 SpanM.c b.sv.v b.sp) S:=hS
  rw [List.map_append,List.map_cons] at hS
  have h1:=Y7' hS
  obtain ⟨S1,S2,a,b',c,d,e⟩:=h1
  refine ⟨S1,S2,a,b',c,d,?_⟩
  rw [Bnds,List.map_append]
  exact Yz' (M:=[]) (S:=S2) (by simpa using e)
theorem Jo':∀ S,Zm' [Sl E 2 SpanM.c b.sv.v b.sp,Bnds E (A++B)] S→Bnds E (A++b::B) S:=fun S hS=>by
  show Zm' ((A++b::B).map fun b=>Sl E 2 SpanM.c b.sv.v b.sp) S
  rw [List.map_append,List.map_cons]
  refine X0' ?_
  obtain ⟨S1,S2,a,b',c,d,e⟩:=hS
  refine ⟨S1,S2,a,b',c,d,?_⟩
  rw [Bnds,List.map_append] at e
  have:=Yx' (M:=[]) e
  simpa using this
theorem Zfi_ {bs':List BndV} (h:bs'.Sublist bs) {S:ZN'} (hS:Bnds E bs S):Bnds E bs' S:=Ku' (h.map _) hS
theorem Zfj_:∀ S,Zm' [Sl E 2 SpanM.c b.sv.v b.sp,Bnds E bs] S→Bnds E (setB bs b) S:=fun S hS=>by
  unfold setB
  split
  · rename_i i hi
    obtain ⟨h1,_,_⟩:=List.findIdx?_eq_some_iff_getElem.1 hi
    rw [List.set_eq_take_append_cons_drop,if_pos h1]
    refine Jo' S (ZV' (fun S h=>?_) hS)
    obtain ⟨S1,S2,a,b',c,d,e⟩:=h
    refine ⟨S1,S2,a,b',c,Zfi_ ?_ d,e⟩
    conv=>rhs;rw [← List.take_append_drop i bs]
    exact List.Sublist.append (List.Sublist.refl _) (List.drop_sublist_drop_left bs (Nat.le_succ i))
  · refine Jo' (A:=bs) (B:=[]) S ?_
    rw [List.append_nil];exact hS
theorem Zlw_ {g:UInt32}:∀ S,Bnds E bs S→Bnds E (delB bs g) S:=fun S hS=>Zfi_ List.eraseP_sublist hS
end
theorem Zj3_ {L:List HP} {S:ZN'} (h:Zm' [bun L] S):bun L S:=by
  have:=Yx' (L:=L) (M:=[]) h
  rw [List.append_nil] at this;exact this
theorem ZnZ_ (bs:List BndV) (g:UInt32):∃ z:UInt32 × SV,(mget (bs.map kvB) g).getD (.agg #[.int .u32 ((0:UInt32).toNat:Nat),.slice none 0 0])=.agg #[.int .u32 z.1.toNat,z.2.v]:=by
  rw [Zfe_]
  cases K5' bs g with
  | none=>exact ⟨(0,⟨none,0,0⟩),rfl⟩
  | some y=>exact ⟨(y.tx,y.sv),rfl⟩
section
variable {P : Program} {r : Option Nat} {g : World} {Γ : Env} {L M : List HP} {dst : Option Tmp} {t : TypeId} {pos : String} {aft : Array Edge} {gd : Option (Nat × Bool)}
theorem ZmM_ {x i:Operand} {T e kt:TypeId} {d:TypeDesc} {n:UInt32} {bs:List BndV} {m:Value} {zz:UInt32 × SV} (hzz:(mget (bs.map kvB) n).getD (.agg #[.int .u32 ((0:UInt32).toNat:Nat),.slice none 0 0])=.agg #[.int .u32 zz.1.toNat,zz.2.v])
    (ht:P.underlying T=some (.map kt e)) (hk:KeyOk P kt d eU32) (hz:(P.info? e).bind (·.zero)=some (.agg #[.int .u32 0,.slice none 0 0])) (hx:ev Γ x=some m:=by rfl) (hi:ev Γ i=some (.int .u32 n.toNat):=by rfl) (hp:Pick L (Mp eU32 m (List.map kvB bs)) M:=by repeat first | exact .z | apply Pick.s) :
    EO P g ⟨dst,.lookup T x i true,t,pos,aft,gd⟩ Γ L (.tuple #[.agg #[.int .u32 zz.1.toNat,zz.2.v],.bool (K5' bs n).isSome]):=by
  have h:=Zb2_ (g:=g) (L:=L) (dst:=dst) (t:=t) (pos:=pos) (aft:=aft) (gd:=gd) (x:=x) (i:=i) (k:=n) ht hk hz Zaa_ hx hi hp
  rw [show (mget (bs.map kvB) n).isSome=(K5' bs n).isSome by rw [Zfe_];cases K5' bs n <;> rfl] at h
  rw [show (mget (bs.map kvB) n).getD (.agg #[.int .u32 0,.slice none 0 0])=.agg #[.int .u32 zz.1.toNat,zz.2.v] from hzz] at h
  exact h
theorem ZnA_ {T:TypeId} {x:Operand} {v:Value} (hx:ev Γ x=some (.iface T v):=by rfl):EO P g ⟨dst,.nilCheck x,t,pos,aft,gd⟩ Γ L (.iface T v):=
  .of (by simp) fun ρ hρ w _=>by simp [execOp,hρ x _ (by simp [Op.operands]) hx]
theorem CallV.frame {A B C:HP} {y val:Value} {args:List Value} (h:CallV P g y args [B] fun K R=>K val (C::R)):CallV P g y args [A,B] fun K R=>K val (C::A::R):=
  fun R K w r hw hT=>h (A::R) K w r (hw.conv fun _=>Js') hT
end
section
variable {TP : TxU UInt32 SiX → List HP}
theorem QO' {ts ts':List (TxU UInt32 SiX)} (h:ts'.Sublist ts) {S:ZN'} (hS:TxsU TP ts S):TxsU TP ts' S:=Ku' (h.map _) hS
theorem Zlx_ {ts:List (TxU UInt32 SiX)} {t:TxU UInt32 SiX}:∀ S,Zm' (TP t++[TxsU TP ts]) S→TxsU TP (putU ts t) S:=fun S hS=>by
  unfold putU
  split
  · rename_i i hi
    obtain ⟨h1,_,_⟩:=List.findIdx?_eq_some_iff_getElem.1 hi
    rw [List.set_eq_take_append_cons_drop,if_pos h1]
    refine Yb' S ?_
    obtain ⟨S1,S2,a,b',c,d,e⟩:=Jg' hS
    refine Xa' ⟨S1,S2,a,b',c,d,?_⟩
    obtain ⟨S3,S4,a2,b2,c2,d2,e2⟩:=e
    refine ⟨S3,S4,a2,b2,c2,QO' ?_ d2,e2⟩
    conv=>rhs;rw [← List.take_append_drop i ts]
    exact List.Sublist.append (List.Sublist.refl _) (List.drop_sublist_drop_left ts (Nat.le_succ i))
  · refine Yb' (A:=ts) (B:=[]) S ?_
    rw [List.append_nil];exact hS
end
end Go.SL
namespace Go.SL.Fc
open Go Go.Proofs Go.SL
theorem k154:Zh' Tryz.prog 154=true:=by kernel_rfl
theorem k155:Zh' Tryz.prog 155=true:=by kernel_rfl
theorem k156:Zh' Tryz.prog 156=true:=by kernel_rfl
theorem k157:Zh' Tryz.prog 157=true:=by kernel_rfl
theorem k159:Zh' Tryz.prog 159=true:=by kernel_rfl
theorem k193:Zh' Tryz.prog 193=true:=by kernel_rfl
theorem k194:Zh' Tryz.prog 194=true:=by kernel_rfl
theorem k195:Zh' Tryz.prog 195=true:=by kernel_rfl
theorem k196:Zh' Tryz.prog 196=true:=by kernel_rfl
theorem k198:Zh' Tryz.prog 198=true:=by kernel_rfl
theorem k250:Zh' Tryz.prog 250=true:=by kernel_rfl
theorem k251:Zh' Tryz.prog 251=true:=by kernel_rfl
theorem k252:Zh' Tryz.prog 252=true:=by kernel_rfl
theorem k253:Zh' Tryz.prog 253=true:=by kernel_rfl
theorem k255:Zh' Tryz.prog 255=true:=by kernel_rfl
end Go.SL.Fc
namespace Go.SL
open Go Go.Proofs Fc
noncomputable def QP' {g:World}:Eng Tryz.prog g 105 Vt' where
 T:=108
 pc:=fun p dp s=>bun [As p dp s,TxsU TPA s.txs]
 fB:=155
 mB:=by kernel_rfl
 cB:=k155
 fD:=157
 mD:=by kernel_rfl
 cD:=k157
 fC:=156
 mC:=by kernel_rfl
 cC:=k156
 fA:=154
 mA:=by kernel_rfl
 cA:=k154
 fR:=159
 mR:=by kernel_rfl
 cR:=k159
 sB:=fun n=>Spec.bun2 (ZfT_ n) fun K R h q=>⟨_,h q,bun2⟩
 sD:=fun {p dp b s} n x h=>Spec.bun2 (Zlh_ n x h.1) fun K R hT=>by
  revert hT
  rw [show Vt'.doS s n x=(doA s n x).e from rfl]
  cases (doA s n x) with
  | err s' e=>exact fun h=>⟨_,h,bun2⟩
  | put s'=>exact fun h=>⟨_,h ⟨none,0,0⟩,bun2⟩
  | look s' r=>exact fun h a m c=>⟨_,h a m c,ZaX_⟩
 sC:=fun n h hb=>Spec.bun2 (Ze6_ n h.1 hb) fun K R h=>⟨_,h,bun2⟩
 sA:=fun n h=>Spec.bun2 (ZfU_ n h.1) fun K R h=>⟨_,h,bun2⟩
 sR:=fun h=>Spec.bunF (ZhK_ h.1) fun K R h a m c=>⟨_,h a m c,ZaX_⟩
noncomputable def Xv' {g:World}:Eng Tryz.prog g 105 Ym' where
 T:=111
 pc:=fun p dp s=>bun [Bs p dp s,TxsU TPB s.txs]
 fB:=194
 mB:=by kernel_rfl
 cB:=k194
 fD:=196
 mD:=by kernel_rfl
 cD:=k196
 fC:=195
 mC:=by kernel_rfl
 cC:=k195
 fA:=193
 mA:=by kernel_rfl
 cA:=k193
 fR:=198
 mR:=by kernel_rfl
 cR:=k198
 sB:=fun n=>Spec.bun2 (ZfX_ n) fun K R h q=>⟨_,h q,bun2⟩
 sD:=fun {p dp b s} n x h=>Spec.bun2 (Zlo_ n x h.1) fun K R hT=>by
  revert hT
  rw [show Ym'.doS s n x=(doB s n x).e from rfl]
  cases (doB s n x) with
  | err s' e=>exact fun h=>⟨_,h,bun2⟩
  | put s'=>exact fun h=>⟨_,h ⟨none,0,0⟩,bun2⟩
  | look s' r=>exact fun h a m c=>⟨_,h a m c,ZaX_⟩
 sC:=fun n h hb=>Spec.bun2 (Zfb_ n h.1 hb) fun K R h=>⟨_,h,bun2⟩
 sA:=fun n h=>Spec.bun2 (ZfY_ n h.1) fun K R h=>⟨_,h,bun2⟩
 sR:=fun h=>Spec.bunF (ZhZ_ h.1) fun K R h a m c=>⟨_,h a m c,ZaX_⟩
noncomputable def QQ' {g:World}:Eng Tryz.prog g 105 Vu' where
 T:=114
 pc:=fun p dp s=>bun [Gs p dp s,Txs s.txs]
 fB:=251
 mB:=by kernel_rfl
 cB:=k251
 fD:=253
 mD:=by kernel_rfl
 cD:=k253
 fC:=252
 mC:=by kernel_rfl
 cC:=k252
 fA:=250
 mA:=by kernel_rfl
 cA:=k250
 fR:=255
 mR:=by kernel_rfl
 cR:=k255
 sB:=fun n=>Spec.bun2 (Zh3_ n) fun K R h q=>⟨_,h q,bun2⟩
 sD:=fun {p dp b s} n x h=>Spec.bun2 (ZmG_ n x h.1) fun K R hT=>by
  revert hT
  rw [show Vu'.doS s n x=(doG s n x).e s x from rfl]
  cases (doG s n x) with
  | err s' e=>exact fun h=>⟨_,h,bun2⟩
  | put t c=>exact fun h sv=>⟨_,h sv,bun2⟩
  | look t=>exact fun h a m c=>⟨_,h a m c,ZaX_⟩
 sC:=fun n h hb=>Spec.bun2 (Zf2_ n h.1) fun K R h=>⟨_,h,bun2⟩
 sA:=fun n h=>Spec.bun2 (Zh4_ n h.1) fun K R h=>⟨_,h,bun2⟩
 sR:=fun h=>Spec.bunF (Zh5_ (by have:=h.1.sum;have:=h.1.bb;omega)) fun K R h a m c=>⟨_,h a m c,ZaX_⟩
noncomputable def Zn0_ (g:World) (en:Nat):(M:EngM) × Eng Tryz.prog g 105 M:=if en=1 then ⟨Vt',QP'⟩ else if en=2 then ⟨Ym',Xv'⟩ else ⟨Vu',QQ'⟩
end Go.SL
namespace Go.SL
open Go
theorem Xk' {α:Type} (f:α→Bool) (A B:List α) (y:α):(A++y::B).any f=(f y || (A++B).any f):=by
  rw [List.any_append,List.any_cons,List.any_append]
  cases A.any f <;> cases f y <;> rfl
theorem KQ' {x:OpM} (h:opOk x=true):K6' x=true:=by
  unfold opOk at h
  simp only [Bool.and_eq_true,decide_eq_true_eq] at h
  obtain ⟨⟨⟨⟨h1,h2⟩,_⟩,_⟩,_⟩:=h
  unfold K6'
  have e1:¬ x.kind < 1:=by rw [UInt8.lt_iff_toNat_lt];show ¬ x.kind.toNat < 1;omega
  have e2:¬ 4 < x.kind:=by rw [UInt8.lt_iff_toNat_lt];show ¬ 4 < x.kind.toNat;omega
  simp [e1,e2]
section
variable {M : EngM} {v : SiteV M.St} {n g : UInt32} {x : OpM} {ids : List UInt32} {own : List ChgM} {rs : List RowM} {c k b : Nat} {l : List SpanM}
theorem Vv' (h:opOk x=false):doSi v n x=.err v 1:=by
  have hd:=M.doBad (s:=v.st) (n:=n) (x:=x) h
  unfold doSi
  cases Zs' v.l n with
  | none=>simp only [hd];rfl
  | some t=>
    simp only [hd,h]
    split
    · split
      · rfl
      · rfl
    · rfl
theorem Zc1_ {t:TxU UInt32 SiX} (hf:Zs' v.l n=some t) (hF:M.Fr v.st ids n own rs c k b) (hn:n ∈ ids) (hx:opOk x=true) (hb:b+1≤1000000000) :
    (mayS v.bs n t.x.loc (Zi' x)≠0∧doSi v n x=.err v (mayS v.bs n t.x.loc (Zi' x))) ∨
    (mayS v.bs n t.x.loc (Zi' x)=0∧Zp' x=true∧∃ f:SV→M.St,doSi v n x=.put (fun sv=>{ v with st:=f sv,l:=setU v.l n { t.x with sp:=t.x.sp++[Zi' x] } })∧∀ sv,M.Fr (f sv) ids n (own++[Z1' x]) rs c k (b+1)) ∨
    (mayS v.bs n t.x.loc (Zi' x)=0∧Zp' x=false∧∃ s':M.St,doSi v n x=.look { v with st:=s',l:=setU v.l n { t.x with sp:=t.x.sp++[Zi' x] } } (ZU' (Zv' rs own) (Zi' x) 256)∧M.Fr s' ids n own rs c k (b+1)):=by
  by_cases hm:mayS v.bs n t.x.loc (Zi' x)=0
  · right
    cases hw:Zp' x with
    | true=>
      obtain ⟨f,e,h1⟩:=M.frPut hF hb hn hx hw
      refine .inl ⟨hm,rfl,f,?_,h1⟩
      unfold doSi;rw [hf];simp only [KQ' hx,if_true,hm,e]
    | false=>
      obtain ⟨s',e,h1⟩:=M.frLook hF hb hn hx hw
      refine .inr ⟨hm,rfl,s',?_,h1⟩
      unfold doSi;rw [hf];simp only [KQ' hx,if_true,hm,e]
  · left
    refine ⟨hm,?_⟩
    unfold doSi;rw [hf];simp only [KQ' hx,if_true,hm,if_false,hx]
def badS (g:UInt32) (l:List SpanM):Bool:=g == 0 || l.length == 0 || l.any fun p=>!meet p p
theorem Zfk_ (hb:v.bs=[]) (hn:n≠0→(Zs' v.l n).isSome=true):YZ' v n g l=if badS g l then 1 else if (v.l.any fun t=>t.id != n && Z9' t.x.sp l) then 11 else 0:=by
  unfold YZ' badS
  rw [hb]
  have h1:(n != 0 && (Zs' v.l n).isNone)=false:=by
    by_cases e:n=0
    · simp [e]
    · have:=hn e
      cases h:Zs' v.l n with
      | none=>rw [h] at this;cases this
      | some t=>simp
  rw [h1]
  simp
end
end Go.SL
