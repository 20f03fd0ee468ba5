import Derived.Test.YtegjbklnhiionaaGreatQP20
import Derived.WideLaws
import Derived.Laws.DeepStrings4
set_option linter.unusedSimpArgs false
set_option linter.unusedVariables false
set_option linter.unusedSectionVars false
namespace Go.SL
open Go
def ZiD_ {σ:Type} (S:σ→σ→Prop):DoE σ→DoE σ→Prop
 | .err s e,.err t f=>e=f∧S s t
 | .put f,.put g=>∀ sv sv',S (f sv) (g sv')
 | .look s r,.look t q=>r=q∧S s t
 | _,_=>False
structure SimM (M:EngM) where
 S:M.St→M.St→Prop
 first:S M.first M.first
 rows:∀ {s t},S s t→M.rows s=M.rows t
 beg:∀ {s t},S s t→∀ n,M.begE s n=M.begE t n∧∀ q q',S (M.begS s n q) (M.begS t n q')
 do_:∀ {s t},S s t→∀ n x,ZiD_ S (M.doS s n x) (M.doS t n x)
 com:∀ {s t},S s t→∀ n,M.comE s n=M.comE t n∧M.comN s n=M.comN t n∧S (M.comS s n) (M.comS t n)
 abo:∀ {s t},S s t→∀ n,M.aboE s n=M.aboE t n∧S (M.aboS s n) (M.aboS t n)
def nqT (t:TxT):TxT:={ t with q:=0 }
def nqS (s:StV):StV:={ s with txs:=s.txs.map nqT }
def DoS.nq:DoS→DoS
 | .err s e=>.err (nqS s) e
 | .put s=>.put (nqS s)
 | .look s r=>.look (nqS s) r
theorem K2' (ts:List TxT) (n:UInt32):Zs' (ts.map nqT) n=(Zs' ts n).map nqT:=by
 unfold Zs'
 rw [List.find?_map]
 rfl
theorem Zft_ (ts:List TxT) (n:UInt32):delU (ts.map nqT) n=(delU ts n).map nqT:=by
 unfold delU
 induction ts with
 | nil=>rfl
 | cons t ts ih=>
  simp only [List.map_cons,List.eraseP_cons]
  by_cases h:t.id=n
  ·have h':(nqT t).id=n:=h
   simp [h,h']
  ·have h':¬ (nqT t).id=n:=h
   simp only [h,h',decide_false,cond_false,List.map_cons]
   rw [ih]
theorem Zkw_ (ts:List TxT) (n:UInt32) (x:TX):setU (ts.map nqT) n x=(setU ts n x).map nqT:=by
 unfold setU
 rw [List.map_map,List.map_map]
 refine List.map_congr_left fun t _=>?_
 simp only [Function.comp]
 by_cases h:t.id=n
 ·rw [if_pos h,if_pos (show (nqT t).id=n from h)];rfl
 ·rw [if_neg h,if_neg (show ¬ (nqT t).id=n from h)]
theorem Zl3_ (ts:List TxT) (n:UInt32):Kx' (ts.map nqT) n=Kx' ts n:=by
 unfold Kx'
 rw [List.flatMap_map]
 refine congrArg List.flatten (List.map_congr_left fun t _=>?_)
 show (if t.id=n then [] else (t.x.waits.filter fun w=>(Zs' (ts.map nqT) w).isSome).map fun w=>(t.id,w))=_
 have e:(fun w=>(Zs' (ts.map nqT) w).isSome)=fun w=>(Zs' ts w).isSome:=by
  funext w;rw [K2'];cases Zs' ts w <;> rfl
 rw [e]
theorem Zns_ (ts:List TxT) (n:UInt32) (way:List UInt32):Vh' (ts.map nqT) n way=Vh' ts n way:=by
 unfold Vh';rw [Zl3_]
structure NqK (I:Kind):Prop where
 do_:∀ s n x,I.doS (nqS s) n x=(I.doS s n x).nq
 chk:∀ s x,I.chk (nqS s) x=I.chk s x
 ends:∀ s n,I.ends (nqS s) n=nqS (I.ends s n)
theorem Zc7_ (s:StV) (n:UInt32):begE (nqS s) n=begE s n:=by
 unfold begE
 have e1:(nqS s).txs=s.txs.map nqT:=rfl
 rw [e1,K2',List.length_map]
 cases Zs' s.txs n <;> rfl
theorem Zhb_ (s:StV) (n:UInt32) (q:Nat):nqS (begS (nqS s) n 0)=nqS (begS s n q):=by
 unfold begS
 rw [Zc7_]
 split
 ·show nqS _=nqS _
  unfold nqS
  simp only [List.map_append,List.map_map,List.map_cons,List.map_nil]
  rfl
 ·show nqS (nqS s)=nqS s
  unfold nqS
  simp only [List.map_map]
  rfl
section
variable {I : Kind}
theorem Zc8_ (h:NqK I) (s:StV) (n:UInt32):comE I (nqS s) n=comE I s n:=by
 unfold comE
 have e1:(nqS s).txs=s.txs.map nqT:=rfl
 rw [e1,K2']
 cases Zs' s.txs n with
 | none=>rfl
 | some t=>
  show (if I.chk (nqS s) t.x then 9 else if Y1' (nqS s) t.x then 0 else 5)=_
  rw [h.chk];rfl
theorem Zhc_ (h:NqK I) (s:StV) (n:UInt32):comS I (nqS s) n=nqS (comS I s n):=by
 unfold comS
 have e1:(nqS s).txs=s.txs.map nqT:=rfl
 rw [e1,K2']
 cases Zs' s.txs n with
 | none=>rfl
 | some t=>
  show (if I.chk (nqS s) t.x then I.ends (nqS s) n else if Y1' (nqS s) t.x then addS (I.ends (nqS s) n) t.x.own else I.ends (nqS s) n)=nqS (if I.chk s t.x then I.ends s n else if Y1' s t.x then addS (I.ends s n) t.x.own else I.ends s n)
  rw [h.chk,h.ends]
  split
  ·rfl
  ·by_cases hf:Y1' s t.x
   ·rw [if_pos hf,if_pos (show Y1' (nqS s) t.x from hf)];rfl
   ·rw [if_neg hf,if_neg (show ¬ Y1' (nqS s) t.x from hf)]
theorem Zhd_ (h:NqK I) (s:StV) (n:UInt32):aboS I (nqS s) n=nqS (aboS I s n):=by
 unfold aboS
 have e1:(nqS s).txs=s.txs.map nqT:=rfl
 rw [e1,K2']
 cases Zs' s.txs n with
 | none=>rfl
 | some t=>exact h.ends s n
theorem Zhe_ (s:StV) (n:UInt32):aboE (nqS s) n=aboE s n:=by
 unfold aboE
 have e1:(nqS s).txs=s.txs.map nqT:=rfl
 rw [e1,K2']
 cases Zs' s.txs n <;> rfl
theorem Zhf_ (h:NqK I) (s:StV) (n:UInt32):comN I (nqS s) n=comN I s n:=by
 unfold comN;rw [Zc8_ h];rfl
noncomputable def simS {G:Good I} (Z:FrK G) (h:NqK I):SimM (engS Z) where
 S:=fun s t=>nqS s=nqS t
 first:=rfl
 rows:=fun {s t} e=>by
  show s.rows=t.rows
  have e2:nqS s=nqS t:=e
  have h2:=congrArg StV.H e2
  have:s.H=t.H:=h2
  unfold StV.rows;rw [this]
 beg:=fun {s t} e n=>by
  have e:nqS s=nqS t:=e
  refine ⟨?_,fun q q'=>?_⟩
  ·show begE s n=begE t n
   rw [← Zc7_ s,e,Zc7_ t]
  ·show nqS (begS s n q)=nqS (begS t n q')
   rw [← Zhb_ s n q,e,Zhb_ t n q']
 do_:=fun {s t} e n x=>by
  have e:nqS s=nqS t:=e
  have h1:(I.doS s n x).nq=(I.doS t n x).nq:=by rw [← h.do_ s,e,h.do_ t]
  show ZiD_ _ (I.doS s n x).e (I.doS t n x).e
  cases h2:I.doS s n x <;> cases h3:I.doS t n x <;> rw [h2,h3] at h1 <;> simp only [DoS.nq,DoS.err.injEq,DoS.put.injEq,DoS.look.injEq,reduceCtorEq] at h1
  ·exact ⟨h1.2,h1.1⟩
  ·exact fun _ _=>h1
  ·exact ⟨h1.2,h1.1⟩
 com:=fun {s t} e n=>by
  have e:nqS s=nqS t:=e
  refine ⟨?_,?_,?_⟩
  ·show comE I s n=comE I t n
   rw [← Zc8_ h s,e,Zc8_ h t]
  ·show comN I s n=comN I t n
   rw [← Zhf_ h s,e,Zhf_ h t]
  ·show nqS (comS I s n)=nqS (comS I t n)
   rw [← Zhc_ h s,e,Zhc_ h t]
 abo:=fun {s t} e n=>by
  have e:nqS s=nqS t:=e
  refine ⟨?_,?_⟩
  ·show aboE s n=aboE t n
   rw [← Zhe_ s,e,Zhe_ t]
  ·show nqS (aboS I s n)=nqS (aboS I t n)
   rw [← Zhd_ h s,e,Zhd_ h t]
end
theorem Zl4_:NqK YH' where
 do_:=fun s n x=>by
  show doA (nqS s) n x=(doA s n x).nq
  unfold doA
  have e1:(nqS s).txs=s.txs.map nqT:=rfl
  have e2:(nqS s).locks=s.locks:=rfl
  rw [e1,e2,K2']
  cases opOk x with
  | false=>rfl
  | true=>
   simp only [if_true]
   cases hf:Zs' s.txs n with
   | none=>rfl
   | some t=>
    have e3:(nqT t).x=t.x:=rfl
    simp only [Option.map_some,e3,Zkw_,Zns_]
    split
    ·split
     ·show DoS.err (Xo' _ n) 9=DoS.err (nqS (Xo' _ n)) 9
      congr 1
      simp only [Xo',nqS,Zft_]
     ·rfl
    ·split <;> rfl
 chk:=fun _ _=>rfl
 ends:=fun s n=>by
  show Xo' (nqS s) n=nqS (Xo' s n)
  simp only [Xo',nqS,Zft_]
theorem Zl5_ (ts:List TxT) (m:UInt32):XM' (ts.map nqT) m=XM' ts m:=by
 unfold XM'
 simp only [List.foldl_map]
 rfl
theorem Znt_:NqK YG' where
 do_:=fun s n x=>by
  show doB (nqS s) n x=(doB s n x).nq
  unfold doB
  have e1:(nqS s).txs=s.txs.map nqT:=rfl
  rw [e1,K2']
  cases opOk x with
  | false=>rfl
  | true=>
   simp only [if_true]
   cases hf:Zs' s.txs n with
   | none=>rfl
   | some t=>
    have e3:(nqT t).x=t.x:=rfl
    simp only [Option.map_some,e3,Zkw_]
    split <;> rfl
 chk:=fun _ _=>rfl
 ends:=fun s n=>by
  show Xa' (nqS s) n=nqS (Xa' s n)
  simp only [Xa',nqS,Zft_,Zl5_]
noncomputable def Zl6_:SimM KE':=simS Zkv_ Zl4_
noncomputable def Znu_:SimM Yk':=simS ZmF_ Znt_
end Go.SL
namespace Go.SL
open Go
theorem GamOk.mono {s:GamV} {b c:Nat} (h:GamOk s b) (hb:b≤c) (hc:c≤1000000000):GamOk s c:=
  ⟨h.dok,h.hat,h.waits,h.rising,Nat.le_trans h.sum hb,Nat.le_trans h.looks hb,h.ids,h.own,hc⟩
structure AloneI (n:UInt32) (rows:List RowM) (at0:Nat) (s:GamV) (t:TxV) (b:Nat) (done:List OpM) (told:List (List RowM)):Prop where
  ok:GamOk s b
  calm:Calm s t
  id:t.id=n
  txs:s.txs=[t]
  hrows:s.rows=rows
  quiet:Quiet s.d
  at_:s.at_≤at0
  does:Does rows t.own done told
theorem AloneI.step {n:UInt32} {rows:List RowM} {at0:Nat} {s:GamV} {t:TxV} {b:Nat} {done:List OpM} {told:List (List RowM)} (h:AloneI n rows at0 s t b done told) (x:OpM) :
    (opOk x=false∧doG s n x=.err s 1)∨(opOk x=true∧Zp' x=true∧doG s n x=.put t (Z4' x))∨(opOk x=true∧Zp' x=false∧doG s n x=.look t):=by
  cases hx:opOk x with
  | false=>exact .inl ⟨rfl,Znr_ hx⟩
  | true=>
    rcases h.calm.do_ hx with ⟨hw,e⟩ | ⟨hw,e⟩ <;> rw [h.id] at e
    · exact .inr (.inl ⟨rfl,hw,e⟩)
    · exact .inr (.inr ⟨rfl,hw,e⟩)
theorem AloneI.put {n:UInt32} {rows:List RowM} {at0:Nat} {s:GamV} {t:TxV} {b:Nat} {done:List OpM} {told:List (List RowM)} (h:AloneI n rows at0 s t b done told) (hb:b+1≤1000000000) {x:OpM} (hx:opOk x=true) (hw:Zp' x=true) (sv:SV) :
    AloneI n rows at0 (putG s t.id (Z4' x) sv) { t with own:=t.own++[Z4' x],sv:=sv } (b+1) (done++[x]) (told++[[]]):=
  ⟨h.ok.put hb (by rw [h.txs];simp) _ (VB' hx hw) sv,h.calm.put h.ok _ sv,h.id,by simp [putG,putT,h.txs],h.hrows,h.quiet,h.at_,h.does.write hx hw⟩
theorem AloneI.look {n:UInt32} {rows:List RowM} {at0:Nat} {s:GamV} {t:TxV} {b:Nat} {done:List OpM} {told:List (List RowM)} (h:AloneI n rows at0 s t b done told) (hb:b+1≤1000000000) {x:OpM} (hx:opOk x=true) (hw:Zp' x=false) :
    AloneI n rows at0 (Jn' s t (Zi' x)) t (b+1) (done++[x]) (told++[ZT' (Zw' s.rows t.own) (Zi' x) 256]):=
  ⟨h.ok.look hb t _,h.calm.look _,h.id,h.txs,h.hrows,h.quiet,h.at_,by rw [h.hrows];exact h.does.read (h.hrows ▸ h.ok.rising) hx hw⟩
theorem AloneI.mono {n:UInt32} {rows:List RowM} {at0:Nat} {s:GamV} {t:TxV} {b c:Nat} {done:List OpM} {told:List (List RowM)} (h:AloneI n rows at0 s t b done told) (hb:b≤c) (hc:c≤1000000000):AloneI n rows at0 s t c done told:=
  ⟨h.ok.mono hb hc,h.calm,h.id,h.txs,h.hrows,h.quiet,h.at_,h.does⟩
theorem AloneI.com {n:UInt32} {rows:List RowM} {at0:Nat} {s:GamV} {t:TxV} {b:Nat} {done:List OpM} {told:List (List RowM)} (h:AloneI n rows at0 s t b done told) (hb:t.own.length≤80) (ha:at0≤1000) :
    Xp' s n=0∧(comG s n).rows=(runM rows done).2∧(comG s n).txs=[]∧(comG s n).last=s.last∧(comG s n).nums=JI' s.nums t.num t.own∧Quiet (comG s n).d∧(comG s n).at_≤at0+82∧(∀ y ∈ (comG s n).looks,y ∈ s.looks):=by
  obtain ⟨e1,e2,e3,e4,e5,e6,e7,e8,e9⟩:=Zl2_ h.calm h.ok h.quiet hb (by decide) (Nat.le_trans h.at_ ha)
  rw [h.id] at e1 e2 e3 e4 e5 e6 e7 e8 e9
  exact ⟨e1,by rw [e3,h.hrows,h.does.left],by rw [e6,h.txs];simp [delT,h.id],e5,e4,e7,by have:=h.at_;omega,e9⟩
theorem AloneI.abo {n:UInt32} {rows:List RowM} {at0:Nat} {s:GamV} {t:TxV} {b:Nat} {done:List OpM} {told:List (List RowM)} (h:AloneI n rows at0 s t b done told):Jo' s n=0∧(aboG s n).rows=rows:=by
  have hf:=h.calm.find
  rw [h.id] at hf
  simp [Jo',aboG,hf,Yj',h.hrows]
theorem AloneI.first {d:DiskM} (hq:Quiet d) (q:Nat):AloneI 1 [] 0 ⟨d,0,[],[],1,[],[tx1 q]⟩ (tx1 q) 0 [] []:=
  ⟨(Zku_ d q).2 ▸ (Zg9_ hq).beg 1 q,⟨by simp [ZV',tx1],by simp,by simp,by simp⟩,rfl,rfl,rfl,hq,Nat.le_refl _,Does.nil _⟩
end Go.SL
namespace Go.SL
open Go
def DoR.e (s:GamV) (x:OpM):DoR→DoE GamV
 | .err s' e=>.err s' e
 | .put t c=>.put fun sv=>putG s t.id c sv
 | .look t=>.look (Jn' s t (Zi' x)) (ZT' (Zw' s.rows t.own) (Zi' x) 256)
theorem US' {ts:List TxV} {n:UInt32} {c:ChgM} {sv:SV} {u:TxV} (h:u ∈ putT ts n c sv):∃ v ∈ ts,u.id=v.id∧u.num=v.num∧u.own=if v.id=n then v.own++[c] else v.own:=by
 unfold putT at h
 obtain ⟨v,hv,rfl⟩:=List.mem_map.1 h
 refine ⟨v,hv,?_⟩
 split <;> simp
theorem Znv_ {ts:List TxV} {n:UInt32} {c:ChgM} {sv:SV} {v:TxV} (h:v ∈ ts):∃ u ∈ putT ts n c sv,u.id=v.id∧u.num=v.num:=by
 refine ⟨if v.id=n then { v with own:=v.own++[c],sv:=sv } else v,List.mem_map.2 ⟨v,h,rfl⟩,?_⟩
 split <;> simp
theorem Zl7_ (ts:List TxV) (n:UInt32) (c:ChgM) (sv:SV):(putT ts n c sv).map (·.id)=ts.map (·.id):=by
 unfold putT
 rw [List.map_map]
 refine List.map_congr_left fun o _=>?_
 simp only [Function.comp]
 split <;> rfl
def NzG (s:GamV):Prop:=∀ t ∈ s.txs,t.id≠0
theorem NzG.beg {s:GamV} (h:NzG s) (n:UInt32) (q:Nat):NzG (begG s n q):=by
 unfold begG
 split
 ·rename_i hE
  have h0:n≠0:=by intro e;simp [Xb',e] at hE
  intro t ht
  rcases List.mem_append.1 ht with ht | ht
  ·exact h t ht
  ·obtain rfl:=List.mem_singleton.1 ht
   exact h0
 ·exact h
theorem NzG.ends {s:GamV} (h:NzG s) (n:UInt32):NzG (Yj' s n):=fun t ht=>h t (UR'.mem ht)
theorem NzG.com {s:GamV} (h:NzG s) (n:UInt32):NzG (comG s n):=by
 unfold comG
 cases hf:ZV' s.txs n with
 | none=>exact h
 | some t=>
  simp only [Kr']
  split
  ·exact h.ends n
  ·exact h.ends n
theorem Zc9_ {s:GamV} {n:UInt32} {x:OpM}:(∃ s' e,doG s n x=.err s' e∧e≠0∧e≠10∧(s'=s∨s'=Yj' s n))∨∃ t,ZV' s.txs n=some t∧opOk x=true∧((Zp' x=true∧doG s n x=.put t (Z4' x))∨(Zp' x=false∧doG s n x=.look t)):=by
 unfold doG
 split
 ·rename_i hx
  cases hf:ZV' s.txs n with
  | none=>exact .inl ⟨s,6,rfl,by decide,by decide,.inl rfl⟩
  | some t=>
   simp only
   split
   ·exact .inl ⟨_,9,rfl,by decide,by decide,.inr rfl⟩
   ·split
    ·exact .inl ⟨s,8,rfl,by decide,by decide,.inl rfl⟩
    ·split
     ·rename_i hw
      exact .inr ⟨t,rfl,hx,.inl ⟨hw,rfl⟩⟩
     ·rename_i hw
      exact .inr ⟨t,rfl,hx,.inr ⟨by simpa using hw,rfl⟩⟩
 ·exact .inl ⟨s,1,rfl,by decide,by decide,.inl rfl⟩
structure FrG (s:GamV) (ids:List UInt32) (n:UInt32) (own:List ChgM) (rs:List RowM) (c k b:Nat):Prop where
 ok:GamOk s b
 nz:NzG s
 ids:s.txs.map (·.id)=ids
 own:∀ t ∈ s.txs,t.own=if t.id=n then own else []
 rows:s.rows=rs
 quiet:Quiet s.d
 at_:s.at_≤82 * c
 last:s.last.toNat≤b
 kl:k≤s.last.toNat
 nums:∀ e ∈ s.nums,e.2.toNat≤k
 tnum:∀ t ∈ s.txs,k < t.num.toNat∧t.num.toNat≤s.last.toNat
 lk:∀ x ∈ s.looks,x.1.toNat≤k∨∃ t ∈ s.txs,t.id=n∧x.1=t.num
section
variable {s : GamV} {ids : List UInt32} {n : UInt32} {own : List ChgM} {rs : List RowM} {c k b : Nat}
theorem FrG.find (h:FrG s ids n own rs c k b) (hn:n ∈ ids):∃ t,ZV' s.txs n=some t∧t.own=own∧t ∈ s.txs∧t.id=n:=by
 cases hf:ZV' s.txs n with
 | none=>exact absurd hn (by rw [← h.ids];exact ZaD_ hf)
 | some t=>exact ⟨t,rfl,by rw [h.own t (YZ' hf),if_pos (Jh' hf).1],YZ' hf,(Jh' hf).1⟩
theorem FrG.beg (h:FrG s ids n [] rs c k b) (hb:b+1≤1000000000) (j:UInt32) (h0:j≠0) (hj:j ∉ ids) (hl:ids.length < 32):Xb' s j=0∧∀ q,FrG (begG s j q) (ids++[j]) n [] rs c k (b+1):=by
 have hf:ZV' s.txs j=none:=by
  cases hf:ZV' s.txs j with
  | none=>rfl
  | some t=>exact absurd (List.mem_map.2 ⟨t,YZ' hf,(Jh' hf).1⟩) (by rw [h.ids];exact hj)
 have hlen:s.txs.length=ids.length:=by rw [← h.ids,List.length_map]
 have hE:Xb' s j=0:=by
  unfold Xb'
  rw [if_neg h0,hf,hlen]
  simp;omega
 have hls:=h.last
 have hl1:(s.last+1).toNat=s.last.toNat+1:=by
  rw [UInt32.toNat_add];show (s.last.toNat+1) % 4294967296=_;omega
 refine ⟨hE,fun q=>?_⟩
 have hok:=(h.ok.beg j q).mono (Nat.le_succ b) hb
 have hnz:=h.nz.beg j q
 unfold begG at hok hnz ⊢
 rw [if_pos hE] at hok hnz ⊢
 refine ⟨hok,hnz,by simp [h.ids],fun t ht=>?_,h.rows,h.quiet,h.at_,by show (s.last+1).toNat≤_;omega,by have:=h.kl;show k≤(s.last+1).toNat;omega,h.nums,fun t ht=>?_,fun x hx=>?_⟩
 ·rcases List.mem_append.1 ht with ht | ht
  ·exact h.own t ht
  ·obtain rfl:=List.mem_singleton.1 ht
   simp
 ·show k < t.num.toNat∧t.num.toNat≤(s.last+1).toNat
  have:=h.kl
  rcases List.mem_append.1 ht with ht | ht
  ·have:=h.tnum t ht;omega
  ·obtain rfl:=List.mem_singleton.1 ht
   simp only;omega
 ·rcases h.lk x hx with h1 | ⟨t,ht,h1⟩
  ·exact .inl h1
  ·exact .inr ⟨t,List.mem_append.2 (.inl ht),h1⟩
theorem FrG.quietly (h:FrG s ids n own rs c k b) {t:TxV} (ht:t ∈ s.txs) (hid:t.id=n) (p:SpanM) (w:Bool):Jm' s t p w=false∧Yl' s.txs t.id p=[]:=by
 have hu:Yl' s.txs t.id p=[]:=by
  unfold Yl'
  rw [List.map_eq_nil_iff,List.filter_eq_nil_iff]
  intro o ho
  by_cases e:o.id=t.id
  ·simp [e]
  ·have:=h.own o ho
   rw [if_neg (by rw [← hid];exact e)] at this
   simp [Qu',this]
 refine ⟨?_,hu⟩
 have hk:=h.tnum t ht
 have h1:Xv' s.nums t.num p=false:=by
  unfold Xv'
  rw [List.any_eq_false]
  intro e he
  have:=h.nums e he
  have:¬ t.num < e.2:=by rw [UInt32.lt_iff_toNat_lt];omega
  simp [this]
 have h2:(s.looks.any fun x=>decide (t.num < x.1) && meet x.2 p)=false:=by
  rw [List.any_eq_false]
  intro x hx
  have:¬ t.num < x.1:=by
   rw [UInt32.lt_iff_toNat_lt]
   rcases h.lk x hx with h3 | ⟨u,hu,hui,e⟩
   ·omega
   ·have:u=t:=by
     obtain ⟨A,B,e2⟩:=KZ' ht
     by_cases hne:u=t
     ·exact hne
     ·have:=ZaA_ (e2 ▸ h.ok.ids) u (by rw [e2] at hu;simp only [List.mem_append,List.mem_cons] at hu ⊢;rcases hu with hu | hu | hu;exact .inl hu;exact absurd hu hne;exact .inr hu)
      exact absurd (hui.trans hid.symm) this
    rw [e,this];omega
  simp [this]
 unfold Jm'
 rw [h1,hu,h2];simp
theorem FrG.does (h:FrG s ids n own rs c k b) (hn:n ∈ ids) {x:OpM} (hx:opOk x=true):∃ t,t ∈ s.txs∧t.id=n∧t.own=own∧doG s n x=if Zp' x then .put t (Z4' x) else .look t:=by
 obtain ⟨t,hf,ho,ht,hid⟩:=h.find hn
 obtain ⟨h1,h2⟩:=h.quietly ht hid (Zi' x) (Zp' x)
 refine ⟨t,ht,hid,ho,?_⟩
 unfold doG
 rw [hx,hf];simp only [if_true]
 rw [h1,h2];simp
theorem FrG.put (h:FrG s ids n own rs c k b) (hb:b+1≤1000000000) {t:TxV} (ht:t ∈ s.txs) (hid:t.id=n) {x:OpM} (hx:opOk x=true) (hw:Zp' x=true) (sv:SV):FrG (putG s t.id (Z4' x) sv) ids n (own++[Z4' x]) rs c k (b+1):=by
 have hok:=h.ok.put hb ht (Z4' x) (VB' hx hw) sv
 refine ⟨hok,fun u hu=>?_,by show (putT _ _ _ _).map _=_;rw [Zl7_];exact h.ids,fun u hu=>?_,h.rows,h.quiet,h.at_,Nat.le_succ_of_le h.last,h.kl,h.nums,fun u hu=>?_,fun y hy=>?_⟩
 ·obtain ⟨v,hv,e,_,_⟩:=US' hu
  rw [e];exact h.nz v hv
 ·obtain ⟨v,hv,e,_,e2⟩:=US' hu
  rw [e2,e,h.own v hv,hid]
  split <;> simp
 ·obtain ⟨v,hv,_,e,_⟩:=US' hu
  rw [e];exact h.tnum v hv
 ·rcases h.lk y hy with h1 | ⟨v,hv,h1,h2⟩
  ·exact .inl h1
  ·obtain ⟨u,hu,e1,e2⟩:=Znv_ (n:=t.id) (c:=Z4' x) (sv:=sv) hv
   exact .inr ⟨u,hu,e1.trans h1,h2.trans e2.symm⟩
theorem FrG.look (h:FrG s ids n own rs c k b) (hb:b+1≤1000000000) {t:TxV} (ht:t ∈ s.txs) (hid:t.id=n) (p:SpanM):FrG (Jn' s t p) ids n own rs c k (b+1):=by
 refine ⟨h.ok.look hb t p,h.nz,h.ids,h.own,h.rows,h.quiet,h.at_,Nat.le_succ_of_le h.last,h.kl,h.nums,h.tnum,fun y hy=>?_⟩
 rcases List.mem_append.1 hy with hy | hy
 ·exact h.lk y hy
 ·obtain rfl:=List.mem_singleton.1 hy
  exact .inr ⟨t,ht,hid,rfl⟩
theorem FrG.alone (h:FrG s [n] n own rs c k b) {t:TxV} (hf:ZV' s.txs n=some t):delT s.txs n=[]:=by
 have h2:s.txs.length=1:=by have:=congrArg List.length h.ids;simpa using this
 obtain ⟨u,hu⟩:=List.length_eq_one_iff.1 h2
 rw [hu] at hf ⊢
 have:=YZ' hf
 rw [List.mem_singleton] at this
 unfold delT
 rw [← this,List.eraseP_cons_of_pos (by simpa using (Jh' hf).1)]
theorem FrG.com (h:FrG s ids n own rs c k b) (hb:b+1≤1000000000) (hn:n ∈ ids) (hl:own.length≤80) (hc:c≤40) :
  Xp' s n=0∧(ids=[n]→k < (Xh' s n).toNat∧∀ m,FrG (comG s n) [] m [] (Zw' rs own) (c+1) (Xh' s n).toNat (b+1)):=by
 obtain ⟨t,hf,ho,ht,hid⟩:=h.find hn
 have hlen:=UQ' t
 have hcl:=(XK' t.own).2 (h.ok.own t ht)
 have hat:=h.at_
 rw [ho] at hcl hlen
 have hfit:JL' s t:=⟨by omega,by rw [h.quiet.len];unfold secs;omega⟩
 have hN:Xh' s n=t.num:=by simp only [Xh',hf,if_pos hfit]
 have hS:comG s n={ Yj' s n with d:=(addW s.d s.at_ (frame (recG t)) (secs (recG t).length)).sync,at_:=s.at_+secs (recG t).length,rows:=Zw' s.rows t.own,nums:=JI' s.nums t.num t.own }:=by
  simp only [comG,hf,Kr',if_pos hfit]
 refine ⟨by simp only [Xp',hf,if_pos hfit],fun hids=>?_⟩
 subst hids
 have hd:=h.alone hf
 have hk:=h.tnum t ht
 rw [hN]
 refine ⟨hk.1,fun m=>?_⟩
 have htx:(comG s n).txs=[]:=by rw [Qv' hf];exact hd
 have hlast:(comG s n).last=s.last:=by rw [hS];rfl
 refine ⟨(h.ok.com n).mono (Nat.le_succ b) hb,h.nz.com n,by rw [htx];rfl,(by rw [htx];intro u hu;cases hu),?_,?_,?_,by rw [hlast];exact Nat.le_succ_of_le h.last,by rw [hlast];exact hk.2,?_,(by rw [htx];intro u hu;cases hu),?_⟩
 ·rw [hS,← h.rows,← ho]
 ·rw [hS];exact h.quiet.add _ _ _
 ·rw [hS];show s.at_+secs (recG t).length≤82 * (c+1);unfold secs;omega
 ·rw [hS]
  exact Zjz_ (p:=fun v=>v.toNat≤t.num.toNat) (fun y hy=>by have:=h.nums y hy;omega) (Nat.le_refl _) t.own
 ·rw [hS]
  intro x hx
  have hx:=(List.mem_filter.1 hx).1
  left
  rcases h.lk x hx with h1 | ⟨u,hu,hui,e⟩
  ·omega
  ·have h2:s.txs.length=1:=by have:=congrArg List.length h.ids;simpa using this
   obtain ⟨v,hv⟩:=List.length_eq_one_iff.1 h2
   rw [hv,List.mem_singleton] at hu ht
   rw [e,hu,ht];exact Nat.le_refl _
theorem FrG.abo (h:FrG s ids n own rs c k b) (hn:n ∈ ids):Jo' s n=0∧(ids=[n]→∀ m,FrG (aboG s n) [] m [] rs c s.last.toNat b):=by
 obtain ⟨t,hf,ho,ht,hid⟩:=h.find hn
 refine ⟨by simp [Jo',hf],fun hids m=>?_⟩
 subst hids
 have hd:=h.alone hf
 have hS:aboG s n=Yj' s n:=by simp [aboG,hf]
 rw [hS]
 have htx:(Yj' s n).txs=[]:=hd
 have hkl:=h.kl
 refine ⟨h.ok.ends n,h.nz.ends n,by rw [htx];rfl,(by rw [htx];intro u hu;cases hu),h.rows,h.quiet,h.at_,h.last,Nat.le_refl _,fun e he=>by have:=h.nums e he;omega,(by rw [htx];intro u hu;cases hu),fun x hx=>?_⟩
 have hx:=(List.mem_filter.1 hx).1
 left
 rcases h.lk x hx with h1 | ⟨u,hu,hui,e⟩
 ·omega
 ·rw [e];exact (h.tnum u hu).2
end
theorem ZaE_ (n:UInt32):FrG (gam0 (Z0' 4096).sync) [] n [] [] 0 0 0:=by
 have hq:Quiet (Z0' 4096).sync:=⟨YQ'.ok.sync,by show (Z0' 4096).seen.length=4096;rw [YQ'.ok.len];exact YQ'.len,rfl⟩
 refine ⟨Zg9_ hq,(by intro t ht;cases ht),rfl,(by intro t ht;cases ht),rfl,hq,Nat.zero_le _,Nat.zero_le _,Nat.zero_le _,(by intro t ht;cases ht),(by intro t ht;cases ht),by intro t ht;cases ht⟩
noncomputable def KF':EngM where
 St:=GamV
 Ok:=fun s b=>GamOk s b∧NzG s
 first:=gam0 (Z0' 4096).sync
 begE:=Xb'
 begS:=begG
 doS:=fun s n x=>(doG s n x).e s x
 comE:=Xp'
 comN:=Xh'
 comS:=comG
 aboE:=Jo'
 aboS:=aboG
 rows:=GamV.rows
 okFirst:=⟨(ZaE_ 0).ok,(ZaE_ 0).nz⟩
 okMono:=fun h hb hc=>⟨h.1.mono hb hc,h.2⟩
 okBB:=fun h=>h.1.bb
 okBeg:=fun h n q=>⟨h.1.beg n q,h.2.beg n q⟩
 okErr:=fun {s b n x s' e} h he=>by
  rcases Zc9_ (s:=s) (n:=n) (x:=x) with ⟨s2,e2,h1,h2,h3,h4⟩ | ⟨t,_,_,⟨_,h1⟩ | ⟨_,h1⟩⟩
  ·rw [h1] at he
   cases he
   rcases h4 with rfl | rfl
   ·exact ⟨h,h2,h3⟩
   ·exact ⟨⟨h.1.ends n,h.2.ends n⟩,h2,h3⟩
  ·rw [h1] at he;cases he
  ·rw [h1] at he;cases he
 okPut:=fun {s b n x f} h hb he=>by
  rcases Zc9_ (s:=s) (n:=n) (x:=x) with ⟨s2,e2,h1,h2,h3,h4⟩ | ⟨t,hf,hx,⟨hw,h1⟩ | ⟨_,h1⟩⟩
  ·rw [h1] at he;cases he
  ·rw [h1] at he
   cases he
   refine ⟨fun sv=>⟨h.1.put hb (YZ' hf) _ (VB' hx hw) sv,fun u hu=>?_⟩,hx⟩
   obtain ⟨v,hv,e,_,_⟩:=US' hu
   rw [e];exact h.2 v hv
  ·rw [h1] at he;cases he
 okLook:=fun {s b n x s' r} h hb he=>by
  rcases Zc9_ (s:=s) (n:=n) (x:=x) with ⟨s2,e2,h1,h2,h3,h4⟩ | ⟨t,hf,hx,⟨hw,h1⟩ | ⟨_,h1⟩⟩
  ·rw [h1] at he;cases he
  ·rw [h1] at he;cases he
  ·rw [h1] at he
   cases he
   exact ⟨⟨h.1.look hb t _,h.2⟩,by unfold ZT';simp;omega,hx⟩
 okCom:=fun h hb n=>⟨(h.1.com n).mono (Nat.le_succ _) hb,h.2.com n⟩
 okAbo:=fun {s b} h n=>⟨h.1.abo n,by
  unfold aboG
  split
  ·exact h.2.ends n
  ·exact h.2⟩
 rowsLe:=fun h=>by have:=h.1.sum;omega
 rising:=fun h=>h.1.rising
 doBad:=fun hx=>by simp [doG,hx,DoR.e]
 doNone:=fun {s b x} h hx=>by
  have hf:ZV' s.txs 0=none:=by
   cases hf:ZV' s.txs 0 with
   | none=>rfl
   | some t=>exact absurd (Jh' hf).1 (h.2 t (YZ' hf))
  simp [doG,hx,hf,DoR.e]
 Fr:=FrG
 frOk:=fun h=>⟨h.ok,h.nz⟩
 frRows:=fun h=>h.rows
 frFirst:=ZaE_
 frBeg:=fun h hb j h0 hj hl=>h.beg hb j h0 hj hl
 frPut:=fun {s ids n own rs c k b x} h hb hn hx hw=>by
  obtain ⟨t,ht,hid,ho,e⟩:=h.does hn hx
  rw [hw,if_pos rfl] at e
  refine ⟨fun sv=>putG s t.id (Z4' x) sv,by rw [e];rfl,fun sv=>h.put hb ht hid hx hw sv⟩
 frLook:=fun {s ids n own rs c k b x} h hb hn hx hw=>by
  obtain ⟨t,ht,hid,ho,e⟩:=h.does hn hx
  rw [hw,if_neg (by simp)] at e
  refine ⟨Jn' s t (Zi' x),by rw [e,← ho,← h.rows];rfl,h.look hb ht hid _⟩
 frCom:=fun h hb hn hl hc=>h.com hb hn hl hc
 frAbo:=fun h hn=>by
  obtain ⟨e,h2⟩:=h.abo hn
  exact ⟨e,fun hid=>⟨_,h.kl,h2 hid⟩⟩
 frAbE:=fun {s ids n own rs c k b j} h hj=>by
  cases hf:ZV' s.txs j with
  | none=>exact absurd hj (by rw [← h.ids];exact ZaD_ hf)
  | some t=>simp [Jo',hf]
end Go.SL
namespace Go.SL
open Go
def nqV (t:TxV):TxV:={ t with q:=0,sv:=⟨none,0,0⟩ }
def nqG (s:GamV):GamV:={ s with txs:=s.txs.map nqV }
theorem Qw' (ts:List TxV) (n:UInt32):ZV' (ts.map nqV) n=(ZV' ts n).map nqV:=by
  unfold ZV'
  rw [List.find?_map]
  rfl
theorem Znw_ (ts:List TxV) (n:UInt32):delT (ts.map nqV) n=(delT ts n).map nqV:=by
  unfold delT
  induction ts with
  | nil=>rfl
  | cons t ts ih=>
    simp only [List.map_cons,List.eraseP_cons]
    by_cases h:t.id=n
    · have h':(nqV t).id=n:=h
      simp [h,h']
    · have h':¬ (nqV t).id=n:=h
      simp only [h,h',decide_false,cond_false,List.map_cons]
      rw [ih]
theorem Znx_ (ts:List TxV) (m:UInt32):minL (ts.map nqV) m=minL ts m:=by
  unfold minL
  simp only [List.foldl_map]
  rfl
theorem UT' (s:GamV) (n:UInt32):Yj' (nqG s) n=nqG (Yj' s n):=by
  simp only [Yj',nqG,Znw_,Znx_]
theorem ZdN_ (ts:List TxV) (n:UInt32) (p:SpanM):Yl' (ts.map nqV) n p=Yl' ts n p:=by
  unfold Yl'
  rw [List.filter_map,List.map_map]
  rfl
theorem Zl8_ (s:GamV) (t:TxV) (p:SpanM) (w:Bool):Jm' (nqG s) (nqV t) p w=Jm' s t p w:=by
  unfold Jm'
  show (Xv' s.nums t.num p || (w && ((Yl' (s.txs.map nqV) t.id p).any (fun n=>decide (t.num < n)) || _)))=_
  rw [ZdN_];rfl
theorem Zom_ (s:GamV):nqG (nqG s)=nqG s:=by
  unfold nqG
  simp only [List.map_map]
  rfl
theorem ZbG_ (s:GamV) (n:UInt32):Xb' (nqG s) n=Xb' s n:=by
  unfold Xb'
  have e1:(nqG s).txs=s.txs.map nqV:=rfl
  rw [e1,Qw',List.length_map]
  cases ZV' s.txs n <;> rfl
theorem Zfu_ (s:GamV) (n:UInt32) (q:Nat):nqG (begG (nqG s) n 0)=nqG (begG s n q):=by
  unfold begG
  rw [ZbG_]
  split
  · unfold nqG
    simp only [List.map_append,List.map_map,List.map_cons,List.map_nil]
    rfl
  · exact Zom_ s
theorem Zhg_ (s:GamV) (n:UInt32) (c:ChgM) (sv sv':SV):nqG (putG (nqG s) n c sv)=nqG (putG s n c sv'):=by
  unfold putG nqG putT
  simp only [List.map_map]
  congr 1
  refine List.map_congr_left fun t _=>?_
  simp only [Function.comp]
  by_cases h:t.id=n
  · rw [if_pos h,if_pos (show (nqV t).id=n from h)];rfl
  · rw [if_neg h,if_neg (show ¬ (nqV t).id=n from h)];rfl
theorem Zkx_ (s:GamV) (n:UInt32) (x:OpM):match doG s n x,doG (nqG s) n x with
    | .err a e,.err b f=>e=f∧b=nqG a
    | .put t c,.put u d=>c=d∧u=nqV t
    | .look t,.look u=>u=nqV t
    | _,_=>False:=by
  unfold doG
  have e1:(nqG s).txs=s.txs.map nqV:=rfl
  rw [e1,Qw']
  cases opOk x with
  | false=>exact ⟨rfl,rfl⟩
  | true=>
    simp only [if_true]
    cases hf:ZV' s.txs n with
    | none=>exact ⟨rfl,rfl⟩
    | some t=>
      simp only [Option.map_some,Zl8_,ZdN_]
      have e2:(nqV t).id=t.id:=rfl
      have e3:(nqV t).num=t.num:=rfl
      rw [e2,e3]
      by_cases h1:Jm' s t (Zi' x) (Zp' x)=true
      · rw [if_pos h1,if_pos h1];exact ⟨rfl,UT' s n⟩
      · rw [if_neg h1,if_neg h1]
        by_cases h2:((Yl' s.txs t.id (Zi' x)).any fun m=>decide (m < t.num))=true
        · rw [if_pos h2,if_pos h2];exact ⟨rfl,rfl⟩
        · rw [if_neg h2,if_neg h2]
          by_cases h3:Zp' x=true
          · rw [if_pos h3,if_pos h3];exact ⟨rfl,rfl⟩
          · rw [if_neg h3,if_neg h3]
theorem Zfv_ {s t:GamV} (e:nqG s=nqG t):s.rows=t.rows:=by
  have h:=congrArg GamV.rows e
  exact h
theorem UU' (s:GamV) (n:UInt32):Xp' (nqG s) n=Xp' s n∧Xh' (nqG s) n=Xh' s n:=by
  unfold Xp' Xh'
  have e1:(nqG s).txs=s.txs.map nqV:=rfl
  rw [e1,Qw']
  cases ZV' s.txs n with
  | none=>exact ⟨rfl,rfl⟩
  | some t=>exact ⟨rfl,rfl⟩
theorem Zfw_ (s:GamV) (n:UInt32):comG (nqG s) n=nqG (comG s n):=by
  unfold comG
  have e1:(nqG s).txs=s.txs.map nqV:=rfl
  rw [e1,Qw']
  cases ZV' s.txs n with
  | none=>rfl
  | some t=>
    show Kr' (nqG s) n (nqV t)=nqG (Kr' s n t)
    simp only [Kr']
    have e2:recG (nqV t)=recG t:=rfl
    by_cases hf:JL' s t
    · rw [if_pos hf,if_pos (show JL' (nqG s) (nqV t) from hf),UT'];rfl
    · rw [if_neg hf,if_neg (show ¬ JL' (nqG s) (nqV t) from hf),UT']
noncomputable def Zl9_:SimM KF' where
  S:=fun s t=>nqG s=nqG t
  first:=rfl
  rows:=Zfv_
  beg:=fun {s t} e n=>by
    have e:nqG s=nqG t:=e
    refine ⟨?_,fun q q'=>?_⟩
    · show Xb' s n=Xb' t n
      rw [← ZbG_ s,e,ZbG_ t]
    · show nqG (begG s n q)=nqG (begG t n q')
      rw [← Zfu_ s n q,e,Zfu_ t n q']
  do_:=fun {s t} e n x=>by
    have e:nqG s=nqG t:=e
    show ZiD_ _ ((doG s n x).e s x) ((doG t n x).e t x)
    have h1:=Zkx_ s n x
    have h2:=Zkx_ t n x
    rw [e] at h1
    have hr:=Zfv_ e
    cases h3:doG s n x <;> cases h4:doG t n x <;> cases h5:doG (nqG t) n x <;> rw [h3,h5] at h1 <;> rw [h4,h5] at h2 <;> simp only at h1 h2
    · exact ⟨h1.1.trans h2.1.symm,h1.2.symm.trans h2.2⟩
    · intro sv sv'
      rename_i a c a' c' u d
      obtain ⟨hc1,h1⟩:=h1
      obtain ⟨hc2,h2⟩:=h2
      have hcc:c=c':=hc1.trans hc2.symm
      subst hcc
      have hid:a.id=a'.id:=by
        have h:=congrArg TxV.id (h1.symm.trans h2)
        exact h
      show nqG (putG s a.id c sv)=nqG (putG t a'.id c sv')
      rw [← Zhg_ s a.id c sv,e,hid,Zhg_ t a'.id c sv sv']
    · rename_i a a' u
      have h6:nqV a=nqV a':=h1.symm.trans h2
      have ho:a.own=a'.own:=by
        have h:=congrArg TxV.own h6
        exact h
      have hn:a.num=a'.num:=by
        have h:=congrArg TxV.num h6
        exact h
      refine ⟨by rw [hr,ho],?_⟩
      show nqG (Jn' s a (Zi' x))=nqG (Jn' t a' (Zi' x))
      have h7:nqG (Jn' s a (Zi' x))=Jn' (nqG s) a (Zi' x):=rfl
      have h8:nqG (Jn' t a' (Zi' x))=Jn' (nqG t) a' (Zi' x):=rfl
      rw [h7,h8,e];unfold Jn';rw [hn]
  com:=fun {s t} e n=>by
    have e:nqG s=nqG t:=e
    refine ⟨?_,?_,?_⟩
    · show Xp' s n=Xp' t n
      rw [← (UU' s n).1,e,(UU' t n).1]
    · show Xh' s n=Xh' t n
      rw [← (UU' s n).2,e,(UU' t n).2]
    · show nqG (comG s n)=nqG (comG t n)
      rw [← Zfw_ s,e,Zfw_ t]
  abo:=fun {s t} e n=>by
    have e:nqG s=nqG t:=e
    have hE:∀ s:GamV,Jo' (nqG s) n=Jo' s n:=fun s=>by
      unfold Jo'
      have e1:(nqG s).txs=s.txs.map nqV:=rfl
      rw [e1,Qw']
      cases ZV' s.txs n <;> rfl
    have hS:∀ s:GamV,aboG (nqG s) n=nqG (aboG s n):=fun s=>by
      unfold aboG
      have e1:(nqG s).txs=s.txs.map nqV:=rfl
      rw [e1,Qw']
      cases ZV' s.txs n with
      | none=>rfl
      | some t=>exact UT' s n
    refine ⟨?_,?_⟩
    · show Jo' s n=Jo' t n
      rw [← hE s,e,hE t]
    · show nqG (aboG s n)=nqG (aboG t n)
      rw [← hS s,e,hS t]
end Go.SL
namespace Go.SL
open Go
def metB (P:Program) (T:TypeId) (name:String) (f:FuncId):Bool:=(match P.underlying T with | some (.pointer _)=>true | _=>false) &&
  match (P.info? T).bind fun i=>i.methods.find? (·.name == name) with
  | some m=>m.path.isEmpty && (m.func == some (f,true))
  | none=>false
section
variable {P : Program} {r : Option Nat} {g : World} {Γ : Env} {L M : List HP} {dst : Option Tmp} {t : TypeId} {pos : String} {aft : Array Edge} {gd : Option (Nat × Bool)}
theorem ZiE_ {T:TypeId} {name:String} {f:FuncId} (h:metB P T name f=true) (n:Nat) (v:Value) (w:World):(method (n+1) T v name).run P w=.ok (f,v) w:=by
  unfold metB at h
  rw [Bool.and_eq_true] at h
  obtain ⟨h1,h2⟩:=h
  split at h1
  case h_2=>cases h1
  rename_i E hE
  split at h2
  case h_2=>cases h2
  rename_i m hm
  rw [Bool.and_eq_true,Array.isEmpty_iff,beq_iff_eq] at h2
  obtain ⟨h3,h4⟩:=h2
  cases hi:P.info? T with
  | none=>rw [hi] at hm;cases hm
  | some i=>
    rw [hi] at hm
    have hm:i.methods.find? (·.name == name)=some m:=hm
    unfold method
    simp only [Sem.run_bind,Jq' hi,Result.andThen_ok,hm,h3,follow,Sem.run_pure,h4,receiverAt,run_underlying hE,Place.get,Array.toList_empty]
theorem Qx' {T:TypeId} {name:String} {f:FuncId} (h:metB P T name f=true) (hf:Zh' P f=true) (v:Value) (args:Array Value) (w:World):(callMethod (.iface T v) name args).run P w=.ok (.enter f (#[v]++args)) w:=by
  unfold callMethod
  obtain ⟨n,hn⟩:∃ n,P.types.size+Made.depth=n+1:=by
    have h0:0 < Made.depth:=by decide
    exact ⟨P.types.size+Made.depth - 1,by omega⟩
  have hp:(program:Sem Program).run P w=.ok P w:=rfl
  simp only [Sem.run_bind,hp,Result.andThen_ok,hn,ZiE_ h n v w]
  exact Xr' hf _ w
theorem Yi' {f:FuncId} {T:TypeId} {name:String} {v:Value} {x:Operand} {az:List Operand} {ts:Array TypeId} {args:List Value} {Pre R:List HP} {T':(Value→List HP→Prop)→List HP→Prop} {K:Value→List HP→Prop} (hm:metB P T name f=true) (hs:Spec P g f (v::args) Pre T') (hf:Zh' P f=true)
    (hK:T' K R) (hx:ev Γ x=some (.iface T v):=by rfl) (ha:evs Γ az=some args:=by rfl) (hL:Split L Pre R:=by repeat first | exact .nil | exact Pick.z | apply Pick.s | apply Split.cons):HO P r g ⟨dst,.call ⟨.invoke x name,az.toArray,ts⟩,t,pos,aft,gd⟩ Γ L K:=
  HO.enter (by simp) hs hL (fun a w hΓ=>by
    have h1:az.toArray.map a.eval=args.toArray:=J3' ha (fun x u _ hx=>Z5' hx hΓ)
    show (do let d ← resolve a.eval ⟨.invoke x name,az.toArray,ts⟩ t;invoke d.target d.args:Sem Next).run P w=_
    simp only [resolve,h1,Z5' hx hΓ,Sem.run_bind,Sem.run_pure,Result.andThen_ok,invoke]
    have e:(#[Value.iface T v]++args.toArray)[0]?=some (.iface T v):=by simp
    simp only [e]
    rw [Qx' hm hf]
    simp) hK
theorem CallV.of_met {f:FuncId} {T:TypeId} {name:String} {v:Value} {args:List Value} {Pre:List HP} {T':(Value→List HP→Prop)→List HP→Prop} (hm:metB P T name f=true) (hs:Spec P g f (v::args) Pre T') (hf:Zh' P f=true):CallV P g (.func (.method name) #[.iface T v] #[]) args Pre T':=
  fun R K w _ hw hT=>⟨{ target:=.fn (.method name) #[],args:=#[.iface T v]++args.toArray },.enter f (v::args).toArray,w,fun w=>rfl,by
    have e:(#[Value.iface T v]++args.toArray)[0]?=some (.iface T v):=by simp
    simp only [invoke,e]
    rw [Qx' hm hf]
    simp,hs R K w hw hT⟩
theorem CallV.of_metx {f:FuncId} {I T:TypeId} {name:String} {v:Value} {ms:Array (String × TypeId)} {args:List Value} {Pre:List HP} {T':(Value→List HP→Prop)→List HP→Prop} (hI:P.underlying I=some (.interface ms)) (hm:metB P T name f=true) (hs:Spec P g f (v::args) Pre T') (hf:Zh' P f=true):CallV P g (.func (.methodOf I name) #[] #[]) (.iface T v::args) Pre T':=
  fun R K w _ hw hT=>⟨{ target:=.fn (.methodOf I name) #[],args:=#[]++(Value.iface T v::args).toArray },.enter f (v::args).toArray,w,fun w=>rfl,by
    have e:(#[]++(Value.iface T v::args).toArray)[0]?=some (.iface T v):=by simp
    simp only [invoke,e,Sem.run_bind,run_underlying hI,Result.andThen_ok,Sem.run_pure]
    rw [Qx' hm hf]
    simp,hs R K w hw hT⟩
theorem Uq' {T E:TypeId} {x:Operand} {v:Value} (hT:P.underlying T=some (.pointer E)) (hx:ev Γ x=some v:=by rfl):EO P g ⟨dst,.makeInterface T x,t,pos,aft,gd⟩ Γ L (.iface T v):=
  .of (by simp) fun ρ hρ w _=>by
    have h1:=hρ x v (by simp [Op.operands]) hx
    show ((do pure (Next.value (← Instr.makeInterface T (ρ x))):Sem Next)).run P w=_
    rw [h1]
    simp only [Instr.makeInterface,Sem.run_bind,run_underlying hT,Result.andThen_ok,Sem.run_pure]
theorem Zny_ {xt yt T:TypeId} {x y:Operand} {v:Value} (hI:P.underlying xt=some (.interface (P.methodsAt xt))) (hx:ev Γ x=some (.iface T v):=by rfl) (hy:ev Γ y=some .nilIface:=by rfl):EO P g ⟨dst,.binOp .neq xt x y yt,t,pos,aft,gd⟩ Γ L (.bool true):=Xl' hx hy fun w=>by
  simp only [eqGuard,Sem.run_bind]
  exact run_neq_held_nil w xt T v hI
end
end Go.SL
namespace Go.SL
open Go
structure SiX where
  loc:Bool
  sp:List SpanM
structure BndV where
  g:UInt32
  tx:UInt32
  sv:SV
  sp:List SpanM
structure SiteV (σ:Type) where
  st:σ
  l:List (TxU UInt32 SiX)
  bs:List BndV
def kvB (b:BndV):UInt32 × Value:=(b.g,.agg #[.int .u32 b.tx.toNat,b.sv.v])
def Qh' (bs:List BndV) (g:UInt32):Option BndV:=bs.find? fun b=>decide (b.g=g)
def delB (bs:List BndV) (g:UInt32):List BndV:=bs.eraseP fun b=>decide (b.g=g)
def setB (bs:List BndV) (b:BndV):List BndV:=match bs.findIdx? (fun o=>decide (o.g=b.g)) with
  | some i=>bs.set i b
  | none=>bs++[b]
theorem Zfx_ (bs:List BndV) (g:UInt32):mget (bs.map kvB) g=(Qh' bs g).map fun b=>(kvB b).2:=by
  unfold mget Qh'
  induction bs with
  | nil=>rfl
  | cons e es ih=>
    simp only [List.map_cons,List.find?_cons,kvB]
    by_cases h:e.g=g
    · simp [h]
    · simp only [h,decide_false];exact ih
theorem Zfy_ (bs:List BndV) (b:BndV):mset (bs.map kvB) b.g (kvB b).2=(setB bs b).map kvB:=by
  have h:midx (bs.map kvB) b.g=bs.findIdx? (fun o=>decide (o.g=b.g)):=by
    unfold midx;rw [List.findIdx?_map];rfl
  unfold mset setB
  rw [h]
  cases List.findIdx? (fun o:BndV=>decide (o.g=b.g)) bs with
  | none=>simp [kvB]
  | some i=>simp [kvB,List.map_set]
theorem Zma_ (bs:List BndV) (g:UInt32):mdel (bs.map kvB) g=(delB bs g).map kvB:=by
  unfold mdel midx delB
  induction bs with
  | nil=>rfl
  | cons t ts ih=>
    simp only [List.map_cons,List.findIdx?_cons,List.eraseP_cons,kvB]
    by_cases h:t.g=g
    · simp [h]
    · simp only [h,decide_false,Bool.false_eq_true,if_false,cond_false]
      cases hm:List.findIdx? (fun p:UInt32 × Value=>decide (p.1=g)) (ts.map kvB) with
      | none=>rw [hm] at ih;simp [ih,kvB]
      | some j=>rw [hm] at ih;simp only [Option.map_some,List.eraseIdx_cons_succ,List.map_cons];rw [← ih];rfl
def putU (ts:List (TxU UInt32 SiX)) (t:TxU UInt32 SiX):List (TxU UInt32 SiX):=match ts.findIdx? (fun o=>decide (o.id=t.id)) with
  | some i=>ts.set i t
  | none=>ts++[t]
theorem Zky_ (ts:List (TxU UInt32 SiX)) (t:TxU UInt32 SiX):mset (ts.map kvU) t.id (.pointer (some ⟨t.q,0,none⟩))=(putU ts t).map kvU:=by
  have h:midx (ts.map kvU) t.id=ts.findIdx? (fun o=>decide (o.id=t.id)):=by
    unfold midx;rw [List.findIdx?_map];rfl
  unfold mset putU
  rw [h]
  cases List.findIdx? (fun o:TxU UInt32 SiX=>decide (o.id=t.id)) ts with
  | none=>simp [kvU]
  | some i=>simp [kvU,List.map_set]
theorem Zmb_ {ts:List (TxU UInt32 SiX)} {t:TxU UInt32 SiX} (h:Zs' ts t.id=none):putU ts t=ts++[t]:=by
  unfold putU
  rw [List.findIdx?_eq_none_iff.2 (fun x hx=>by have:=JH' h;simp only [decide_eq_false_iff_not];exact fun e=>this (List.mem_map.2 ⟨x,hx,e⟩))]
theorem Zfz_ {ts:List (TxU UInt32 SiX)} {t x:TxU UInt32 SiX} (h:x ∈ putU ts t):x=t∨x ∈ ts:=by
  unfold putU at h
  split at h
  · rcases List.mem_or_eq_of_mem_set h with h | h
    · exact .inr h
    · exact .inl h
  · rcases List.mem_append.1 h with h | h
    · exact .inr h
    · exact .inl (List.mem_singleton.1 h)
theorem Zmc_ (ts:List (TxU UInt32 SiX)) (t:TxU UInt32 SiX):(putU ts t).length≤ts.length+1:=by
  unfold putU;split <;> simp
theorem Zmd_ {ts:List (TxU UInt32 SiX)} (hn:(ts.map (·.id)).Nodup) (t:TxU UInt32 SiX):((putU ts t).map (·.id)).Nodup:=by
  unfold putU
  split
  · rename_i i hi
    obtain ⟨h1,h2,_⟩:=List.findIdx?_eq_some_iff_getElem.1 hi
    have e:(ts.set i t).map (·.id)=ts.map (·.id):=by
      rw [List.map_set]
      refine List.ext_getElem? fun j=>?_
      rw [List.getElem?_set]
      split
      · rename_i hj
        subst hj
        rw [if_pos (by simpa using h1),List.getElem?_map,List.getElem?_eq_getElem h1]
        simp only [decide_eq_true_eq] at h2
        simp [h2]
      · rfl
    rw [e];exact hn
  · rename_i hi
    rw [List.map_append,List.map_cons,List.map_nil]
    refine List.nodup_append.2 ⟨hn,by simp,?_⟩
    intro a ha c hc
    rw [List.mem_singleton] at hc
    subst hc
    obtain ⟨x,hx,rfl⟩:=List.mem_map.1 ha
    have:=List.findIdx?_eq_none_iff.1 hi x hx
    simpa using this
def anyS (p:SpanM) (l:List SpanM):Bool:=l.any fun x=>meet p x
def Z9' (a b:List SpanM):Bool:=a.any fun p=>anyS p b
def XJ' (bs:List BndV) (n:UInt32) (p:SpanM):Bool:=bs.any fun b=>b.tx != n && anyS p b.sp
def keyU:ByteArray:=⟨#[95]⟩
def keyZ:ByteArray:=⟨#[95,122,122,122,122,122,122,122,122,122,122,122,122,122,122,122]⟩
def resS:SpanM:=⟨keyU,keyZ⟩
def mayS (bs:List BndV) (n:UInt32) (loc:Bool) (p:SpanM):Nat:=if loc && (XJ' bs n p || meet p resS) then 10 else if XJ' bs n p then 8 else 0
def KG' (x:OpM):Bool:=!(x.kind < 1 || decide (4 < x.kind))
section
variable {M : EngM}
def DoE.lift (v:SiteV M.St):DoE M.St→DoE (SiteV M.St)
  | .err s e=>.err { v with st:=s } e
  | .put f=>.put fun sv=>{ v with st:=f sv }
  | .look s r=>.look { v with st:=s } r
def doSi (v:SiteV M.St) (n:UInt32) (x:OpM):DoE (SiteV M.St):=match Zs' v.l n with
  | none=>(M.doS v.st n x).lift v
  | some t=>if KG' x then (if mayS v.bs n t.x.loc (Zi' x)=0 then match M.doS v.st n x with
        | .err s e=>.err { v with st:=s,l:=if e=9 then delU v.l n else v.l } e
        | .put f=>.put fun sv=>{ v with st:=f sv,l:=setU v.l n { t.x with sp:=t.x.sp++[Zi' x] } }
        | .look s r=>.look { v with st:=s,l:=setU v.l n { t.x with sp:=t.x.sp++[Zi' x] } } r
      else .err v (if opOk x then mayS v.bs n t.x.loc (Zi' x) else 1))
    else (M.doS v.st n x).lift v
def Qi' (v:SiteV M.St) (n:UInt32) (loc:Bool) (q q2:Nat):SiteV M.St:={ v with st:=M.begS v.st n q,l:=if M.begE v.st n=0 then putU v.l ⟨n,q2,⟨loc,[]⟩⟩ else v.l }
def Za1_ (v:SiteV M.St) (n:UInt32):SiteV M.St:={ v with st:=M.comS v.st n,l:=delU v.l n }
def UV' (v:SiteV M.St) (n:UInt32):SiteV M.St:={ v with st:=M.aboS v.st n,l:=delU v.l n }
def Y3' (v:SiteV M.St) (n g:UInt32) (l:List SpanM):Nat:=
  if (g == 0 || l.length == 0 || l.any fun p=>!meet p p) then 1
  else if (n != 0 && (Zs' v.l n).isNone) then 6
  else if (v.bs.any fun b=>b.g != g && Z9' b.sp l) then 11
  else if (v.l.any fun t=>t.id != n && Z9' t.x.sp l) then 11 else 0
def X0' (v:SiteV M.St) (n g:UInt32) (sv:SV) (l:List SpanM):SiteV M.St:=if Y3' v n g l=0 then { v with bs:=setB v.bs ⟨g,n,sv,l⟩ } else v
def UW' (v:SiteV M.St) (g:UInt32):Nat:=if (Qh' v.bs g).isSome then 0 else 6
def ZfA_ (v:SiteV M.St) (g:UInt32):SiteV M.St:={ v with bs:=delB v.bs g }
structure SiOk (v:SiteV M.St) (b:Nat):Prop where
  ok:M.Ok v.st b
  ids:(v.l.map (·.id)).Nodup
  lens:∀ t ∈ v.l,t.x.sp.length≤b
  ll:v.l.length≤b
  bl:v.bs.length≤b
  bsp:∀ x ∈ v.bs,x.sp.length≤68719476736
end
end Go.SL
namespace Go.SL
open Go
theorem Spec.bun2 {P:Program} {g:World} {f:FuncId} {args:List Value} {A B:HP} {T T':(Value→List HP→Prop)→List HP→Prop} (h:Spec P g f args [A,B] T)
    (hT:∀ K R,T' K R→T (fun v N=>∃ N',K v N'∧∀ S,Zo' N S→Zo' N' S) R):Spec P g f args [bun [A,B]] T':=fun R K w hw hk=>
  (h R _ w (hw.conv fun _=>Yx') (hT K R hk)).mono fun e w' ⟨v,N,h1,⟨N',h2,h3⟩,h4⟩=>⟨v,N',h1,h2,h4.conv h3⟩
theorem Spec.bunF {P:Program} {g:World} {f:FuncId} {args:List Value} {A B:HP} {T T':(Value→List HP→Prop)→List HP→Prop} (h:Spec P g f args [A] T)
    (hT:∀ K R,T' K R→T (fun v N=>∃ N',K v N'∧∀ S,Zo' N S→Zo' N' S) (B::R)):Spec P g f args [bun [A,B]] T':=fun R K w hw hk=>
  (h (B::R) _ w (hw.conv fun _=>Yx') (hT K R hk)).mono fun e w' ⟨v,N,h1,⟨N',h2,h3⟩,h4⟩=>⟨v,N',h1,h2,h4.conv h3⟩
theorem bun2 {A B:HP} {R:List HP}:∀ S,Zo' (A::B::R) S→Zo' (bun [A,B]::R) S:=fun _ h=>YB' (L:=[A,B]) h
theorem Za2_ {A B C:HP} {R:List HP}:∀ S,Zo' (A::B::C::R) S→Zo' (A::bun [B,C]::R) S:=fun _ h=>ZU' (fun _=>bun2 _) h
structure Eng (P:Program) (g:World) (rt:TypeId) (M:EngM) where
  T:TypeId
  pc:Nat→Nat→M.St→HP
  fB:FuncId
  fD:FuncId
  fC:FuncId
  fA:FuncId
  fR:FuncId
  mB:metB P T "Begin" fB=true
  mD:metB P T "Do" fD=true
  mC:metB P T "Commit" fC=true
  mA:metB P T "Abort" fA=true
  mR:metB P T "Rows" fR=true
  cB:Zh' P fB=true
  cD:Zh' P fD=true
  cC:Zh' P fC=true
  cA:Zh' P fA=true
  cR:Zh' P fR=true
  sB:∀ {p dp:Nat} {s:M.St} (n:UInt32),Spec P g fB [.pointer (some ⟨p,0,none⟩),.int .u32 n.toNat] [pc p dp s] fun K R=>∀ q,K (.int .i64 (M.begE s n)) (pc p dp (M.begS s n q)::R)
  sD:∀ {p dp b:Nat} {s:M.St} (n:UInt32) (x:OpM),M.Ok s b→Spec P g fD [.pointer (some ⟨p,0,none⟩),.int .u32 n.toNat,x.v] [pc p dp s] fun K R=>match M.doS s n x with
    | .err s' e=>K (.tuple #[.agg #[.slice none 0 0],.int .i64 e]) (pc p dp s'::R)
    | .put f=>∀ sv,K (.tuple #[.agg #[.slice none 0 0],.int .i64 0]) (pc p dp (f sv)::R)
    | .look s' rows=>∀ a m c,K (.tuple #[.agg #[.slice a m c],.int .i64 0]) (Sl rt 2 RowM.c (.slice a m c) rows::pc p dp s'::R)
  sC:∀ {p dp b:Nat} {s:M.St} (n:UInt32),M.Ok s b→b+1≤1000000000→Spec P g fC [.pointer (some ⟨p,0,none⟩),.int .u32 n.toNat] [pc p dp s] fun K R=>K (.tuple #[.int .u32 (M.comN s n).toNat,.int .i64 (M.comE s n)]) (pc p dp (M.comS s n)::R)
  sA:∀ {p dp b:Nat} {s:M.St} (n:UInt32),M.Ok s b→Spec P g fA [.pointer (some ⟨p,0,none⟩),.int .u32 n.toNat] [pc p dp s] fun K R=>K (.int .i64 (M.aboE s n)) (pc p dp (M.aboS s n)::R)
  sR:∀ {p dp b:Nat} {s:M.St},M.Ok s b→Spec P g fR [.pointer (some ⟨p,0,none⟩)] [pc p dp s] fun K R=>∀ a m c,K (.slice a m c) (Sl rt 2 RowM.c (.slice a m c) (M.rows s)::pc p dp s::R)
end Go.SL
namespace Go.SL
open Go
def Bnds (E:Nat) (bs:List BndV):HP:=bun (bs.map fun b=>Sl E 2 SpanM.c b.sv.v b.sp)
section
variable {E : Nat} {bs A B : List BndV} {b : BndV}
theorem ZbH_ {L:List HP} {S:ZN'} (h:Zo' L S):Zo' (Bnds E []::L) S:=YB' (L:=[]) h
theorem ZbI_ (h:bs=A++b::B):∀ S,Bnds E bs S→∃ _:Unit,Zo' [Sl E 2 SpanM.c b.sv.v b.sp,Bnds E (A++B)] S:=fun S hS=>by
  subst h
  refine ⟨(),?_⟩
  have hS:Zo' ((A++b::B).map fun b=>Sl E 2 SpanM.c b.sv.v b.sp) S:=hS
  rw [List.map_append,List.map_cons] at hS
  have h1:=Xe' hS
  obtain ⟨S1,S2,a,b',c,d,e⟩:=h1
  refine ⟨S1,S2,a,b',c,d,?_⟩
  rw [Bnds,List.map_append]
  exact YB' (M:=[]) (S:=S2) (by simpa using e)
theorem Jv':∀ S,Zo' [Sl E 2 SpanM.c b.sv.v b.sp,Bnds E (A++B)] S→Bnds E (A++b::B) S:=fun S hS=>by
  show Zo' ((A++b::B).map fun b=>Sl E 2 SpanM.c b.sv.v b.sp) S
  rw [List.map_append,List.map_cons]
  refine X7' ?_
  obtain ⟨S1,S2,a,b',c,d,e⟩:=hS
  refine ⟨S1,S2,a,b',c,d,?_⟩
  rw [Bnds,List.map_append] at e
  have:=Yx' (M:=[]) e
  simpa using this
theorem ZfB_ {bs':List BndV} (h:bs'.Sublist bs) {S:ZN'} (hS:Bnds E bs S):Bnds E bs' S:=KI' (h.map _) hS
theorem ZfC_:∀ S,Zo' [Sl E 2 SpanM.c b.sv.v b.sp,Bnds E bs] S→Bnds E (setB bs b) S:=fun S hS=>by
  unfold setB
  split
  · rename_i i hi
    obtain ⟨h1,_,_⟩:=List.findIdx?_eq_some_iff_getElem.1 hi
    rw [List.set_eq_take_append_cons_drop,if_pos h1]
    refine Jv' S (ZU' (fun S h=>?_) hS)
    obtain ⟨S1,S2,a,b',c,d,e⟩:=h
    refine ⟨S1,S2,a,b',c,ZfB_ ?_ d,e⟩
    conv=>rhs;rw [← List.take_append_drop i bs]
    exact List.Sublist.append (List.Sublist.refl _) (List.drop_sublist_drop_left bs (Nat.le_succ i))
  · refine Jv' (A:=bs) (B:=[]) S ?_
    rw [List.append_nil];exact hS
theorem Zme_ {g:UInt32}:∀ S,Bnds E bs S→Bnds E (delB bs g) S:=fun S hS=>ZfB_ List.eraseP_sublist hS
end
theorem Zkz_ {L:List HP} {S:ZN'} (h:Zo' [bun L] S):bun L S:=by
  have:=Yx' (L:=L) (M:=[]) h
  rw [List.append_nil] at this;exact this
theorem ZoK_ (bs:List BndV) (g:UInt32):∃ z:UInt32 × SV,(mget (bs.map kvB) g).getD (.agg #[.int .u32 ((0:UInt32).toNat:Nat),.slice none 0 0])=.agg #[.int .u32 z.1.toNat,z.2.v]:=by
  rw [Zfx_]
  cases Qh' bs g with
  | none=>exact ⟨(0,⟨none,0,0⟩),rfl⟩
  | some y=>exact ⟨(y.tx,y.sv),rfl⟩
section
variable {P : Program} {r : Option Nat} {g : World} {Γ : Env} {L M : List HP} {dst : Option Tmp} {t : TypeId} {pos : String} {aft : Array Edge} {gd : Option (Nat × Bool)}
theorem Znz_ {x i:Operand} {T e kt:TypeId} {d:TypeDesc} {n:UInt32} {bs:List BndV} {m:Value} {zz:UInt32 × SV} (hzz:(mget (bs.map kvB) n).getD (.agg #[.int .u32 ((0:UInt32).toNat:Nat),.slice none 0 0])=.agg #[.int .u32 zz.1.toNat,zz.2.v])
    (ht:P.underlying T=some (.map kt e)) (hk:KeyOk P kt d eU32) (hz:(P.info? e).bind (·.zero)=some (.agg #[.int .u32 0,.slice none 0 0])) (hx:ev Γ x=some m:=by rfl) (hi:ev Γ i=some (.int .u32 n.toNat):=by rfl) (hp:Pick L (Mp eU32 m (List.map kvB bs)) M:=by repeat first | exact .z | apply Pick.s) :
    EO P g ⟨dst,.lookup T x i true,t,pos,aft,gd⟩ Γ L (.tuple #[.agg #[.int .u32 zz.1.toNat,zz.2.v],.bool (Qh' bs n).isSome]):=by
  have h:=Zb9_ (g:=g) (L:=L) (dst:=dst) (t:=t) (pos:=pos) (aft:=aft) (gd:=gd) (x:=x) (i:=i) (k:=n) ht hk hz Zag_ hx hi hp
  rw [show (mget (bs.map kvB) n).isSome=(Qh' bs n).isSome by rw [Zfx_];cases Qh' bs n <;> rfl] at h
  rw [show (mget (bs.map kvB) n).getD (.agg #[.int .u32 0,.slice none 0 0])=.agg #[.int .u32 zz.1.toNat,zz.2.v] from hzz] at h
  exact h
theorem Zon_ {T:TypeId} {x:Operand} {v:Value} (hx:ev Γ x=some (.iface T v):=by rfl):EO P g ⟨dst,.nilCheck x,t,pos,aft,gd⟩ Γ L (.iface T v):=
  .of (by simp) fun ρ hρ w _=>by simp [execOp,hρ x _ (by simp [Op.operands]) hx]
theorem CallV.frame {A B C:HP} {y val:Value} {args:List Value} (h:CallV P g y args [B] fun K R=>K val (C::R)):CallV P g y args [A,B] fun K R=>K val (C::A::R):=
  fun R K w r hw hT=>h (A::R) K w r (hw.conv fun _=>Jz') hT
end
section
variable {TP : TxU UInt32 SiX → List HP}
theorem Q4' {ts ts':List (TxU UInt32 SiX)} (h:ts'.Sublist ts) {S:ZN'} (hS:TxsU TP ts S):TxsU TP ts' S:=KI' (h.map _) hS
theorem Zmf_ {ts:List (TxU UInt32 SiX)} {t:TxU UInt32 SiX}:∀ S,Zo' (TP t++[TxsU TP ts]) S→TxsU TP (putU ts t) S:=fun S hS=>by
  unfold putU
  split
  · rename_i i hi
    obtain ⟨h1,_,_⟩:=List.findIdx?_eq_some_iff_getElem.1 hi
    rw [List.set_eq_take_append_cons_drop,if_pos h1]
    refine Yb' S ?_
    obtain ⟨S1,S2,a,b',c,d,e⟩:=Jp' hS
    refine Xj' ⟨S1,S2,a,b',c,d,?_⟩
    obtain ⟨S3,S4,a2,b2,c2,d2,e2⟩:=e
    refine ⟨S3,S4,a2,b2,c2,Q4' ?_ d2,e2⟩
    conv=>rhs;rw [← List.take_append_drop i ts]
    exact List.Sublist.append (List.Sublist.refl _) (List.drop_sublist_drop_left ts (Nat.le_succ i))
  · refine Yb' (A:=ts) (B:=[]) S ?_
    rw [List.append_nil];exact hS
end
end Go.SL
namespace Go.SL.Fc
open Go Go.Proofs Go.SL
theorem k154:Zh' Tryz.prog 154=true:=by kernel_rfl
theorem k155:Zh' Tryz.prog 155=true:=by kernel_rfl
theorem k156:Zh' Tryz.prog 156=true:=by kernel_rfl
theorem k157:Zh' Tryz.prog 157=true:=by kernel_rfl
theorem k159:Zh' Tryz.prog 159=true:=by kernel_rfl
theorem k193:Zh' Tryz.prog 193=true:=by kernel_rfl
theorem k194:Zh' Tryz.prog 194=true:=by kernel_rfl
theorem k195:Zh' Tryz.prog 195=true:=by kernel_rfl
theorem k196:Zh' Tryz.prog 196=true:=by kernel_rfl
theorem k198:Zh' Tryz.prog 198=true:=by kernel_rfl
theorem k250:Zh' Tryz.prog 250=true:=by kernel_rfl
theorem k251:Zh' Tryz.prog 251=true:=by kernel_rfl
theorem k252:Zh' Tryz.prog 252=true:=by kernel_rfl
theorem k253:Zh' Tryz.prog 253=true:=by kernel_rfl
theorem k255:Zh' Tryz.prog 255=true:=by kernel_rfl
end Go.SL.Fc
namespace Go.SL
open Go Go.Proofs Fc
noncomputable def JR' {g:World}:Eng Tryz.prog g 105 KE' where
 T:=108
 pc:=fun p dp s=>bun [As p dp s,TxsU TPA s.txs]
 fB:=155
 mB:=by kernel_rfl
 cB:=k155
 fD:=157
 mD:=by kernel_rfl
 cD:=k157
 fC:=156
 mC:=by kernel_rfl
 cC:=k156
 fA:=154
 mA:=by kernel_rfl
 cA:=k154
 fR:=159
 mR:=by kernel_rfl
 cR:=k159
 sB:=fun n=>Spec.bun2 (Zgg_ n) fun K R h q=>⟨_,h q,bun2⟩
 sD:=fun {p dp b s} n x h=>Spec.bun2 (ZlQ_ n x h.1) fun K R hT=>by
  revert hT
  rw [show KE'.doS s n x=(doA s n x).e from rfl]
  cases (doA s n x) with
  | err s' e=>exact fun h=>⟨_,h,bun2⟩
  | put s'=>exact fun h=>⟨_,h ⟨none,0,0⟩,bun2⟩
  | look s' r=>exact fun h a m c=>⟨_,h a m c,Za2_⟩
 sC:=fun n h hb=>Spec.bun2 (Zfm_ n h.1 hb) fun K R h=>⟨_,h,bun2⟩
 sA:=fun n h=>Spec.bun2 (Zgh_ n h.1) fun K R h=>⟨_,h,bun2⟩
 sR:=fun h=>Spec.bunF (Zih_ h.1) fun K R h a m c=>⟨_,h a m c,Za2_⟩
noncomputable def Xc' {g:World}:Eng Tryz.prog g 105 Yk' where
 T:=111
 pc:=fun p dp s=>bun [Bs p dp s,TxsU TPB s.txs]
 fB:=194
 mB:=by kernel_rfl
 cB:=k194
 fD:=196
 mD:=by kernel_rfl
 cD:=k196
 fC:=195
 mC:=by kernel_rfl
 cC:=k195
 fA:=193
 mA:=by kernel_rfl
 cA:=k193
 fR:=198
 mR:=by kernel_rfl
 cR:=k198
 sB:=fun n=>Spec.bun2 (Zgk_ n) fun K R h q=>⟨_,h q,bun2⟩
 sD:=fun {p dp b s} n x h=>Spec.bun2 (ZlX_ n x h.1) fun K R hT=>by
  revert hT
  rw [show Yk'.doS s n x=(doB s n x).e from rfl]
  cases (doB s n x) with
  | err s' e=>exact fun h=>⟨_,h,bun2⟩
  | put s'=>exact fun h=>⟨_,h ⟨none,0,0⟩,bun2⟩
  | look s' r=>exact fun h a m c=>⟨_,h a m c,Za2_⟩
 sC:=fun n h hb=>Spec.bun2 (Zfr_ n h.1 hb) fun K R h=>⟨_,h,bun2⟩
 sA:=fun n h=>Spec.bun2 (Zgl_ n h.1) fun K R h=>⟨_,h,bun2⟩
 sR:=fun h=>Spec.bunF (Ziw_ h.1) fun K R h a m c=>⟨_,h a m c,Za2_⟩
noncomputable def JS' {g:World}:Eng Tryz.prog g 105 KF' where
 T:=114
 pc:=fun p dp s=>bun [Gs p dp s,Txs s.txs]
 fB:=251
 mB:=by kernel_rfl
 cB:=k251
 fD:=253
 mD:=by kernel_rfl
 cD:=k253
 fC:=252
 mC:=by kernel_rfl
 cC:=k252
 fA:=250
 mA:=by kernel_rfl
 cA:=k250
 fR:=255
 mR:=by kernel_rfl
 cR:=k255
 sB:=fun n=>Spec.bun2 (ZiA_ n) fun K R h q=>⟨_,h q,bun2⟩
 sD:=fun {p dp b s} n x h=>Spec.bun2 (Zno_ n x h.1) fun K R hT=>by
  revert hT
  rw [show KF'.doS s n x=(doG s n x).e s x from rfl]
  cases (doG s n x) with
  | err s' e=>exact fun h=>⟨_,h,bun2⟩
  | put t c=>exact fun h sv=>⟨_,h sv,bun2⟩
  | look t=>exact fun h a m c=>⟨_,h a m c,Za2_⟩
 sC:=fun n h hb=>Spec.bun2 (Zgp_ n h.1) fun K R h=>⟨_,h,bun2⟩
 sA:=fun n h=>Spec.bun2 (ZiB_ n h.1) fun K R h=>⟨_,h,bun2⟩
 sR:=fun h=>Spec.bunF (ZiC_ (by have:=h.1.sum;have:=h.1.bb;omega)) fun K R h a m c=>⟨_,h a m c,Za2_⟩
noncomputable def Zd1_ (g:World) (en:Nat):(M:EngM) × Eng Tryz.prog g 105 M:=if en=1 then ⟨KE',JR'⟩ else if en=2 then ⟨Yk',Xc'⟩ else ⟨KF',JS'⟩
noncomputable def ZoL_ (g:World) (en:Nat):SimM (Zd1_ g en).1:=by
 unfold Zd1_
 by_cases h:en=1
 ·rw [if_pos h];exact Zl6_
 ·rw [if_neg h]
  by_cases h2:en=2
  ·rw [if_pos h2];exact Znu_
  ·rw [if_neg h2];exact Zl9_
end Go.SL
namespace Go.SL
open Go
theorem Xx' {α:Type} (f:α→Bool) (A B:List α) (y:α):(A++y::B).any f=(f y || (A++B).any f):=by
  rw [List.any_append,List.any_cons,List.any_append]
  cases A.any f <;> cases f y <;> rfl
theorem K3' {x:OpM} (h:opOk x=true):KG' x=true:=by
  unfold opOk at h
  simp only [Bool.and_eq_true,decide_eq_true_eq] at h
  obtain ⟨⟨⟨⟨h1,h2⟩,_⟩,_⟩,_⟩:=h
  unfold KG'
  have e1:¬ x.kind < 1:=by rw [UInt8.lt_iff_toNat_lt];show ¬ x.kind.toNat < 1;omega
  have e2:¬ 4 < x.kind:=by rw [UInt8.lt_iff_toNat_lt];show ¬ 4 < x.kind.toNat;omega
  simp [e1,e2]
section
variable {M : EngM} {v : SiteV M.St} {n g : UInt32} {x : OpM} {ids : List UInt32} {own : List ChgM} {rs : List RowM} {c k b : Nat} {l : List SpanM}
theorem Qy' (h:opOk x=false):doSi v n x=.err v 1:=by
  have hd:=M.doBad (s:=v.st) (n:=n) (x:=x) h
  unfold doSi
  cases Zs' v.l n with
  | none=>simp only [hd];rfl
  | some t=>
    simp only [hd,h]
    split
    · split
      · rfl
      · rfl
    · rfl
theorem Zda_ {t:TxU UInt32 SiX} (hf:Zs' v.l n=some t) (hF:M.Fr v.st ids n own rs c k b) (hn:n ∈ ids) (hx:opOk x=true) (hb:b+1≤1000000000) :
    (mayS v.bs n t.x.loc (Zi' x)≠0∧doSi v n x=.err v (mayS v.bs n t.x.loc (Zi' x))) ∨
    (mayS v.bs n t.x.loc (Zi' x)=0∧Zp' x=true∧∃ f:SV→M.St,doSi v n x=.put (fun sv=>{ v with st:=f sv,l:=setU v.l n { t.x with sp:=t.x.sp++[Zi' x] } })∧∀ sv,M.Fr (f sv) ids n (own++[Z4' x]) rs c k (b+1)) ∨
    (mayS v.bs n t.x.loc (Zi' x)=0∧Zp' x=false∧∃ s':M.St,doSi v n x=.look { v with st:=s',l:=setU v.l n { t.x with sp:=t.x.sp++[Zi' x] } } (ZT' (Zw' rs own) (Zi' x) 256)∧M.Fr s' ids n own rs c k (b+1)):=by
  by_cases hm:mayS v.bs n t.x.loc (Zi' x)=0
  · right
    cases hw:Zp' x with
    | true=>
      obtain ⟨f,e,h1⟩:=M.frPut hF hb hn hx hw
      refine .inl ⟨hm,rfl,f,?_,h1⟩
      unfold doSi;rw [hf];simp only [K3' hx,if_true,hm,e]
    | false=>
      obtain ⟨s',e,h1⟩:=M.frLook hF hb hn hx hw
      refine .inr ⟨hm,rfl,s',?_,h1⟩
      unfold doSi;rw [hf];simp only [K3' hx,if_true,hm,e]
  · left
    refine ⟨hm,?_⟩
    unfold doSi;rw [hf];simp only [K3' hx,if_true,hm,if_false,hx]
def badS (g:UInt32) (l:List SpanM):Bool:=g == 0 || l.length == 0 || l.any fun p=>!meet p p
theorem ZfD_ (hb:v.bs=[]) (hn:n≠0→(Zs' v.l n).isSome=true):Y3' v n g l=if badS g l then 1 else if (v.l.any fun t=>t.id != n && Z9' t.x.sp l) then 11 else 0:=by
  unfold Y3' badS
  rw [hb]
  have h1:(n != 0 && (Zs' v.l n).isNone)=false:=by
    by_cases e:n=0
    · simp [e]
    · have:=hn e
      cases h:Zs' v.l n with
      | none=>rw [h] at this;cases this
      | some t=>simp
  rw [h1]
  simp
end
theorem w_u8 {x:Int} (h1:0≤x) (h2:x < 256):IntKind.u8.wrap x=x:=by
  unfold IntKind.wrap
  simp [IntKind.bits,IntKind.signed]
  omega
theorem ZkA_ {k:ByteArray} (h:ZW' resS k=true) {c:UInt8} {r:List UInt8} (hk:k.toList=c::r):c=95:=by
  unfold ZW' at h
  rw [XG'] at h
  obtain ⟨h1,h2⟩:=h
  have e1:keyU.toList=[95]:=by decide +kernel
  have e2:keyZ.toList=95::(List.replicate 15 122):=by decide +kernel
  have h1:Op.bytesLess k.toList keyU.toList=false:=h1
  have h2:Op.bytesLess keyZ.toList k.toList=false:=h2
  rw [hk,e1] at h1
  rw [hk,e2] at h2
  unfold Op.bytesLess at h1 h2
  have h3:¬ c < 95:=fun e=>by simp [e] at h1
  have h4:¬ 95 < c:=fun e=>by simp [e] at h2
  rw [UInt8.lt_iff_toNat_lt] at h3 h4
  rw [← UInt8.toNat_inj]
  omega
end Go.SL
