import Derived.Test.YtdfomffmfnpfoaaGreatDoorQA11
set_option linter.unusedSimpArgs false
set_option linter.unusedVariables false
namespace Go.SL.Fc
open Go Go.Proofs Go.SL
theorem eqgRow:Tryz.prog.eqGuardType Tryz.prog.depth 78=false:=by kernel_rfl
theorem k23:callable Tryz.prog 23=true:=by kernel_rfl
theorem stoodRow:Tryz.prog.stoodInHeld 78=false:=by kernel_rfl
end Go.SL.Fc
namespace Go.SL
open Go Go.Proofs Fc
theorem SameRows_spec {g:World} {A B:HP} {u v:Value} {xs ys:List RowM} (hA:RL A 2 RowM.c u xs) (hB:RL B 2 RowM.c v ys) (hn:xs.length≤68719476736):Spec Tryz.prog g 23 [u,v] [A,B] fun K R=>K (.bool (decide (xs=ys))) (A::B::R):=by
 refine Spec.intro Tryz.func23 rfl Tryz.ntmps23 rfl fun R K hK=>?_
 refine WP.seq<|WP.reg<|WL.e e_assign<|WL.next<|WP.seq<|WP.seq<|WP.reg<|WL.e e_move<|WL.e (el_len sl59 hA)<|WL.e e_move<|WL.e (el_len sl59 hB)<|WL.e e_neq<|WL.next ?_
 refine WP.cond rfl (fun h1=>?_) (fun h1=>?_)
 ·replace h1:xs≠ys:=fun e=>by subst e;simp at h1
  refine WP.seq<|WP.reg<|WL.e e_assign<|WL.next<|WP.ret<|PO.past nofun ?_
  exact PO.finE Tryz.results23 (rv_tmp rv_nil) (by rw [decide_eq_false h1];rfl) hK
 ·replace h1:xs.length=ys.length:=by simp at h1;omega
  refine WP.skip<|PO.next<|WP.seq<|WP.seq<|WP.reg<|WL.e e_assign<|WL.next<|WP.block<|WP.loopK (fun (i:Nat)=>[(5,.int .i64 i)]) (fun (i:Nat)=>A::B::R) [(0,_),(1,_)] (fun (i:Nat)=>i≤xs.length∧xs.take i=ys.take i) (fun (i:Nat)=>xs.length - i) 0 (⟨Nat.zero_le _,rfl⟩) ?_
  rintro i ⟨hi,he⟩
  refine WP.seq<|WP.seq<|WP.reg<|WL.e e_move<|WL.e e_move<|WL.e (el_len sl59 hA)<|WL.e e_lss<|WL.next ?_
  refine WP.cond rfl (fun h2=>?_) (fun h2=>?_)
  ·have hlt:i < xs.length:=by rw [decide_eq_true_eq] at h2;omega
   obtain ⟨x,hx⟩:∃ x,xs[i]?=some x:=⟨_,List.getElem?_eq_getElem hlt⟩
   obtain ⟨y,hy⟩:∃ y,ys[i]?=some y:=⟨_,List.getElem?_eq_getElem (by omega)⟩
   refine WP.skip<|PO.next<|WP.seq<|WP.block<|WP.seq<|WP.draws mixedOk 9<|RW.e 0 rfl e_move<|RW.e 1 rfl e_move<|RW.e 2 rfl (el_ia (j:=i) sl59 hA hlt)<|RW.e 3 rfl (el_loadN (a:=x) a78 rowE hA hx)<|RW.e 4 rfl e_move<|RW.e 5 rfl e_move<|RW.e 6 rfl (el_ia (j:=i) sl59 hB (by omega))<|RW.e 7 rfl (el_loadN (a:=y) a78 rowE hB hy)<|RW.e 8 rfl (e_rowne (a:=x) (b:=y) Tryz.underlying78 Tryz.underlying9 Tryz.underlying48 a9 a48 stoodRow eqgRow rfl rfl)<|RW.done<|PO.next ?_
   refine WP.cond rfl (fun h3=>?_) (fun h3=>?_)
   ·replace h3:xs≠ys:=fun e=>by subst e;rw [hx] at hy;cases hy;simp at h3
    refine WP.seq<|WP.reg<|WL.e e_assign<|WL.next<|WP.ret<|PO.blockR<|PO.past nofun<|PO.round nofun<|PO.blockR<|PO.past nofun ?_
    exact PO.finE Tryz.results23 (rv_tmp rv_nil) (by rw [decide_eq_false h3];rfl) hK
   ·replace h3:x=y:=by simpa using h3
    refine WP.skip<|PO.blockN<|PO.next<|WP.reg<|WL.e e_move<|WL.e (e_add (c:=((i+1:Nat):Int)) rfl rfl (by rw [w_i64 (by omega) (by omega)];omega))<|WL.e e_assign<|WL.nil ?_
    exact PO.againK (i+1) ⟨by omega,by rw [take_snoc hx,take_snoc hy,he,h3]⟩ (by omega)
  ·have hge:xs.length≤i:=by rw [decide_eq_false_iff_not] at h2;omega
   replace h2:xs=ys:=by rwa [List.take_of_length_le hge,List.take_of_length_le (by omega)] at he
   refine WP.exit<|PO.past nofun<|PO.round nofun<|PO.blockX<|PO.next<|WP.seq<|WP.reg<|WL.e e_assign<|WL.next<|WP.ret ?_
   exact PO.finE Tryz.results23 (rv_tmp rv_nil) (by rw [decide_eq_true h2];rfl) hK
theorem RdS.mono {S T:Piece} {z n:Nat} {u:Value} {cs:List Value} (h:RdS S z u n cs) (hl:le S T):RdS T z u n cs:=by
 rcases h with h | ⟨b,o,c,l,t,h1,h2,h3,h4,h5⟩
 ·exact .inl h
 ·exact .inr ⟨b,o,c,l,t,h1,h2,hl _ _ h3,h4,h5⟩
theorem SameResult_spec {g:World} {A B:HP} {u v:SV} {xs ys:List RowM} (hA:RL A 2 RowM.c u.v xs) (hB:RL B 2 RowM.c v.v ys) (hn:xs.length≤68719476736):Spec Tryz.prog g 19 [.agg #[u.v],.agg #[v.v]] [A,B] fun K R=>K (.bool (decide (xs=ys))) (A::B::R):=by
 refine Spec.intro Tryz.func19 rfl Tryz.ntmps19 rfl fun R K hK=>?_
 refine WP.seq<|WP.reg ?_
 refine WL.h (h_box fun b1=>?_)
 refine WL.h (h_box fun b2=>?_)
 refine WL.e e_assign<|WL.next<|WP.seq<|WP.reg<|WL.e (e_fa f61_0)<|WL.e (e_load a59)<|WL.e (e_fa f61_0)<|WL.e (e_load a59) ?_
 refine WL.h (h_call (SameRows_spec hA hB hn) k23 ?_)
 refine WL.e e_assign<|WL.next<|WP.ret ?_
 exact PO.fin Tryz.results19 (rv_tmp rv_nil) hK
end Go.SL
namespace Go.SL.Fc
end Go.SL.Fc
namespace Go.SL
open Go Go.Proofs Fc
theorem GRows_spec {g:World} {p dp:Nat} {s:GamV} (hn:s.rows.length≤68719476736):Spec Tryz.prog g 21 [.pointer (some ⟨p,0,none⟩)] [Gs p dp s] fun K R=>∀ a m c,K (.slice a m c) (Sl 78 2 RowM.c (.slice a m c) s.rows::Gs p dp s::R):=by
 refine Spec.intro Tryz.func21 rfl Tryz.ntmps21 rfl fun R K hK=>?_
 refine WP.seq<|WP.reg<|WL.e e_assign<|WL.next<|WP.seq<|WP.seq<|WP.reg<|WL.e e_move ?_
 refine WL.h (h_call (Gthere_spec) k38 ?_)
 refine WL.e e_not<|WL.next<|WP.cond_f rfl<|WP.opn (Gs_op (p:=p) (dp:=dp) (s:=s)) fun x=>?_
 obtain ⟨lp,mp,nm,lm,sv⟩:=x
 dsimp only
 refine WP.skip<|PO.next<|WP.seq<|WP.reg<|WL.e e_move<|WL.e e_nil<|WL.e (e_fa f93_1)<|WL.e (e_load a87) ?_
 refine WL.h (h_call (Rows_spec hn) k65 ?_)
 intro a m c
 refine WL.e e_assign<|WL.next<|WP.ret<|PO.cls (A:=Gs p dp s) (B:=[cl p 93 [.pointer (some ⟨lp,0,none⟩),.pointer (some ⟨mp,0,none⟩),nm,.int .u32 s.last.toNat,sv.v,lm],cl lp 156 [.pointer (some ⟨dp,0,none⟩),.int .i64 s.at_],Dk dp s.d,Mm mp s.rows,Mp eStr nm (List.map numC s.nums),Sl 139 3 lookC (sv.v) s.looks,Mp eU32 lm (List.map kvT s.txs)]) (fun S h=>⟨⟨lp,mp,nm,lm,sv⟩,h⟩) ?_
 exact PO.fin Tryz.results21 (rv_tmp rv_nil) (hK a m c)
end Go.SL
set_option linter.unusedSectionVars false
namespace Go.SL
open Go
theorem GamOk.mono {s:GamV} {b c:Nat} (h:GamOk s b) (hb:b≤c) (hc:c≤1000000000):GamOk s c:=
  ⟨h.dok,h.hat,h.waits,h.rising,Nat.le_trans h.sum hb,Nat.le_trans h.looks hb,h.ids,h.own,hc⟩
structure AloneI (n:UInt32) (rows:List RowM) (at0:Nat) (s:GamV) (t:TxV) (b:Nat) (done:List OpM) (told:List (List RowM)):Prop where
  ok:GamOk s b
  calm:Calm s t
  id:t.id=n
  txs:s.txs=[t]
  hrows:s.rows=rows
  quiet:Quiet s.d
  at_:s.at_≤at0
  does:Does rows t.own done told
theorem AloneI.step {n:UInt32} {rows:List RowM} {at0:Nat} {s:GamV} {t:TxV} {b:Nat} {done:List OpM} {told:List (List RowM)} (h:AloneI n rows at0 s t b done told) (x:OpM) :
    (opOk x=false∧doG s n x=.err s 1)∨(opOk x=true∧writes x=true∧doG s n x=.put t (chgOf x))∨(opOk x=true∧writes x=false∧doG s n x=.look t):=by
  cases hx:opOk x with
  | false=>exact .inl ⟨rfl,doG_bad hx⟩
  | true=>
    rcases h.calm.do_ hx with ⟨hw,e⟩ | ⟨hw,e⟩ <;> rw [h.id] at e
    · exact .inr (.inl ⟨rfl,hw,e⟩)
    · exact .inr (.inr ⟨rfl,hw,e⟩)
theorem AloneI.put {n:UInt32} {rows:List RowM} {at0:Nat} {s:GamV} {t:TxV} {b:Nat} {done:List OpM} {told:List (List RowM)} (h:AloneI n rows at0 s t b done told) (hb:b+1≤1000000000) {x:OpM} (hx:opOk x=true) (hw:writes x=true) (sv:SV) :
    AloneI n rows at0 (putG s t.id (chgOf x) sv) { t with own:=t.own++[chgOf x],sv:=sv } (b+1) (done++[x]) (told++[[]]):=
  ⟨h.ok.put hb (by rw [h.txs];simp) _ (chgOf_ok hx hw) sv,h.calm.put h.ok _ sv,h.id,by simp [putG,putT,h.txs],h.hrows,h.quiet,h.at_,h.does.write hx hw⟩
theorem AloneI.look {n:UInt32} {rows:List RowM} {at0:Nat} {s:GamV} {t:TxV} {b:Nat} {done:List OpM} {told:List (List RowM)} (h:AloneI n rows at0 s t b done told) (hb:b+1≤1000000000) {x:OpM} (hx:opOk x=true) (hw:writes x=false) :
    AloneI n rows at0 (lookG s t (spanOf x)) t (b+1) (done++[x]) (told++[scanR (changeR s.rows t.own) (spanOf x) 256]):=
  ⟨h.ok.look hb t _,h.calm.look _,h.id,h.txs,h.hrows,h.quiet,h.at_,by rw [h.hrows];exact h.does.read (h.hrows ▸ h.ok.rising) hx hw⟩
theorem AloneI.mono {n:UInt32} {rows:List RowM} {at0:Nat} {s:GamV} {t:TxV} {b c:Nat} {done:List OpM} {told:List (List RowM)} (h:AloneI n rows at0 s t b done told) (hb:b≤c) (hc:c≤1000000000):AloneI n rows at0 s t c done told:=
  ⟨h.ok.mono hb hc,h.calm,h.id,h.txs,h.hrows,h.quiet,h.at_,h.does⟩
theorem AloneI.com {n:UInt32} {rows:List RowM} {at0:Nat} {s:GamV} {t:TxV} {b:Nat} {done:List OpM} {told:List (List RowM)} (h:AloneI n rows at0 s t b done told) (hb:t.own.length≤80) (ha:at0≤1000) :
    comEg s n=0∧(comG s n).rows=(runM rows done).2∧(comG s n).txs=[]∧(comG s n).last=s.last∧(comG s n).nums=keptG s.nums t.num t.own∧Quiet (comG s n).d∧(comG s n).at_≤at0+82∧(∀ y ∈ (comG s n).looks,y ∈ s.looks):=by
  obtain ⟨e1,e2,e3,e4,e5,e6,e7,e8,e9⟩:=calm_com h.calm h.ok h.quiet hb (by decide) (Nat.le_trans h.at_ ha)
  rw [h.id] at e1 e2 e3 e4 e5 e6 e7 e8 e9
  exact ⟨e1,by rw [e3,h.hrows,h.does.left],by rw [e6,h.txs];simp [delT,h.id],e5,e4,e7,by have:=h.at_;omega,e9⟩
theorem AloneI.abo {n:UInt32} {rows:List RowM} {at0:Nat} {s:GamV} {t:TxV} {b:Nat} {done:List OpM} {told:List (List RowM)} (h:AloneI n rows at0 s t b done told):aboEg s n=0∧(aboG s n).rows=rows:=by
  have hf:=h.calm.find
  rw [h.id] at hf
  simp [aboEg,aboG,hf,endsG,h.hrows]
theorem AloneI.first {d:DiskM} (hq:Quiet d) (q:Nat):AloneI 1 [] 0 ⟨d,0,[],[],1,[],[tx1 q]⟩ (tx1 q) 0 [] []:=
  ⟨(late_beg1 d q).2 ▸ (gam0_ok hq).beg 1 q,⟨by simp [findT,tx1],by simp,by simp,by simp⟩,rfl,rfl,rfl,hq,Nat.le_refl _,Does.nil _⟩
end Go.SL
namespace Go.SL
open Go
def Is (com:List Pty) (txs:List TxV) (o:Og) (a:Pty):Prop:=a ∈ com∨∃ t ∈ txs,a=⟨t.num,(o t.id).1,(o t.id).2⟩
structure Ser (s:GamV) (com:List Pty) (o:Og):Prop where
  sorted:com.Pairwise fun a b=>a.num < b.num
  hrows:s.rows=rowsOf com
  own:∀ t ∈ s.txs,t.own=chs (o t.id).1
  ok:∀ a,Is com s.txs o a→∀ x ∈ a.ops,opOk x=true
  expl:∀ a,Is com s.txs o a→(runM (rowsOf (below com a.num)) a.ops).1=a.res
  reads:∀ a,Is com s.txs o a→∀ x ∈ a.ops,writes x=false→∀ u ∈ s.txs,u.num < a.num→∀ c ∈ u.own,inSpan (spanOf x) c.key=false
  looks:∀ a,Is com s.txs o a→∀ x ∈ a.ops,writes x=false→∀ u ∈ s.txs,u.num < a.num→(a.num,spanOf x) ∈ s.looks
  le:∀ a,Is com s.txs o a→a.num≤s.last
  apart:∀ t ∈ s.txs,∀ a ∈ com,t.num≠a.num
  uniq:∀ t ∈ s.txs,∀ u ∈ s.txs,t.num=u.num→t.id=u.id
  known:∀ a ∈ com,∀ c ∈ chs a.ops,∃ m,(c.key,m) ∈ s.nums∧a.num≤m
  fresh:∀ u ∈ s.txs,∀ c ∈ u.own,∀ a ∈ com,u.num < a.num→∀ c' ∈ chs a.ops,c'.key≠c.key
  alone:∀ u ∈ s.txs,∀ v ∈ s.txs,u.id≠v.id→∀ c ∈ u.own,∀ c' ∈ v.own,c.key≠c'.key
theorem Is.sub {com:List Pty} {ts ts':List TxV} {o:Og} (h:∀ t ∈ ts',t ∈ ts) {a:Pty} (ha:Is com ts' o a):Is com ts o a:=by
  rcases ha with h1 | ⟨t,h1,h2⟩
  · exact .inl h1
  · exact .inr ⟨t,h t h1,h2⟩
theorem minL_le {ts:List TxV} {m:UInt32}:minL ts m≤m∧∀ t ∈ ts,minL ts m≤t.num:=by
  induction ts generalizing m with
  | nil=>exact ⟨UInt32.le_refl _,by simp⟩
  | cons x ts ih=>
    have h1:=(ih (m:=if x.num < m then x.num else m)).1
    have h2:=(ih (m:=if x.num < m then x.num else m)).2
    show minL ts (if x.num < m then x.num else m)≤m∧∀ t ∈ x::ts,minL ts (if x.num < m then x.num else m)≤t.num
    have e1:(if x.num < m then x.num else m)≤m∧(if x.num < m then x.num else m)≤x.num:=by
      split
      · rename_i h;exact ⟨UInt32.le_of_lt h,UInt32.le_refl _⟩
      · rename_i h;exact ⟨UInt32.le_refl _,UInt32.not_lt.1 h⟩
    refine ⟨UInt32.le_trans h1 e1.1,fun t ht=>?_⟩
    rcases List.mem_cons.1 ht with rfl | ht
    · exact UInt32.le_trans h1 e1.2
    · exact h2 t ht
theorem Ser.init (d:DiskM) (o:Og):Ser (gam0 d) [] o:=by
  have hn:∀ a,¬ Is [] (gam0 d).txs o a:=fun a h=>by rcases h with h | ⟨t,h,_⟩ <;> cases h
  exact ⟨List.Pairwise.nil,rfl,(by intro t h;cases h),fun a h=>absurd h (hn a),fun a h=>absurd h (hn a),fun a h=>absurd h (hn a),fun a h=>absurd h (hn a),fun a h=>absurd h (hn a),(by intro t h;cases h),(by intro t h;cases h),(by intro t h;cases h),(by intro t h;cases h),(by intro t h;cases h)⟩
theorem Ser.ends {s:GamV} {com:List Pty} {o:Og} (h:Ser s com o) (n:UInt32):Ser (endsG s n) com o:=by
  have hs:∀ t ∈ (endsG s n).txs,t ∈ s.txs:=fun t ht=>delT_sub.mem ht
  refine ⟨h.sorted,h.hrows,fun t ht=>h.own t (hs t ht),fun a ha=>h.ok a (ha.sub hs),fun a ha=>h.expl a (ha.sub hs),fun a ha x hx hw u hu=>h.reads a (ha.sub hs) x hx hw u (hs u hu),fun a ha x hx hw u hu hlt=>?_,fun a ha=>h.le a (ha.sub hs),fun t ht=>h.apart t (hs t ht),fun t ht u hu=>h.uniq t (hs t ht) u (hs u hu),h.known,fun u hu=>h.fresh u (hs u hu),fun u hu v hv=>h.alone u (hs u hu) v (hs v hv)⟩
  refine List.mem_filter.2 ⟨h.looks a (ha.sub hs) x hx hw u (hs u hu) hlt,?_⟩
  have h1:=(minL_le (ts:=delT s.txs n) (m:=s.last)).2 u hu
  simp only [Bool.not_eq_true',decide_eq_false_iff_not]
  intro h2
  exact UInt32.lt_irrefl _ (UInt32.lt_trans (UInt32.lt_of_lt_of_le h2 h1) hlt)
theorem Is.congr {com:List Pty} {ts:List TxV} {o o':Og} (h:∀ t ∈ ts,o t.id=o' t.id) {a:Pty} (ha:Is com ts o a):Is com ts o' a:=by
  rcases ha with h1 | ⟨t,h1,h2⟩
  · exact .inl h1
  · exact .inr ⟨t,h1,by rw [h2,h t h1]⟩
theorem Ser.congr {s:GamV} {com:List Pty} {o o':Og} (h:Ser s com o) (ho:∀ t ∈ s.txs,o t.id=o' t.id):Ser s com o':=by
  have hi:∀ a,Is com s.txs o' a→Is com s.txs o a:=fun a ha=>ha.congr fun t ht=>(ho t ht).symm
  exact ⟨h.sorted,h.hrows,fun t ht=>by rw [← ho t ht];exact h.own t ht,fun a ha=>h.ok a (hi a ha),fun a ha=>h.expl a (hi a ha),fun a ha=>h.reads a (hi a ha),fun a ha=>h.looks a (hi a ha),fun a ha=>h.le a (hi a ha),h.apart,h.uniq,h.known,h.fresh,h.alone⟩
theorem Ser.beg {s:GamV} {com:List Pty} {o:Og} (h:Ser s com o) {n:UInt32} (hE:begEg s n=0) (hl:s.last.toNat < 4000000000) (q:Nat):Ser (begG s n q) com (setO o n ([],[])):=by
  have hf:findT s.txs n=none:=by
    unfold begEg at hE
    cases e:findT s.txs n with
    | none=>rfl
    | some t=>rw [e] at hE;split at hE <;> simp at hE
  have hid:∀ t ∈ s.txs,t.id≠n:=fun t ht e=>find_none hf (List.mem_map.2 ⟨t,ht,e⟩)
  have hB:begG s n q={ s with last:=s.last+1,txs:=s.txs++[⟨n,s.last+1,[],q,⟨none,0,0⟩⟩] }:=by rw [begG,if_pos hE]
  have hlt:s.last < s.last+1:=by rw [UInt32.lt_iff_toNat_lt,UInt32.toNat_add];simp;omega
  have hI:∀ a,Is com (s.txs++[⟨n,s.last+1,[],q,⟨none,0,0⟩⟩]) (setO o n ([],[])) a→Is com s.txs o a∨a=⟨s.last+1,[],[]⟩:=by
    rintro a (h1 | ⟨t,h1,h2⟩)
    · exact .inl (.inl h1)
    · rcases List.mem_append.1 h1 with h1 | h1
      · rw [setO_other _ _ (hid t h1)] at h2;exact .inl (.inr ⟨t,h1,h2⟩)
      · simp at h1;subst h1;rw [setO_same] at h2;exact .inr h2
  have hT:∀ t ∈ s.txs++[(⟨n,s.last+1,[],q,⟨none,0,0⟩⟩:TxV)],t ∈ s.txs∨t=⟨n,s.last+1,[],q,⟨none,0,0⟩⟩:=fun t ht=>by simpa using ht
  have hle:∀ t ∈ s.txs,t.num≤s.last:=fun t ht=>h.le _ (.inr ⟨t,ht,rfl⟩)
  have hne:∀ m,m≤s.last→s.last+1≠m:=fun m hm e=>by subst e;exact UInt32.lt_irrefl _ (UInt32.lt_of_lt_of_le hlt hm)
  rw [hB]
  refine ⟨h.sorted,h.hrows,fun t ht=>?_,fun a ha=>?_,fun a ha=>?_,fun a ha x hx hw u hu hlt2=>?_,fun a ha x hx hw u hu hlt2=>?_,fun a ha=>?_,fun t ht a ha=>?_,fun t ht u hu e=>?_,h.known,fun u hu c hc=>?_,fun u hu v hv hne c hc c' hc'=>?_⟩
  · rcases hT t ht with ht | rfl
    · show t.own=_;rw [setO_other _ _ (hid t ht)];exact h.own t ht
    · show ([]:List ChgM)=chs (setO o n ([],[]) n).1;rw [setO_same];rfl
  · rcases hI a ha with ha | rfl
    · exact h.ok a ha
    · simp
  · rcases hI a ha with ha | rfl
    · exact h.expl a ha
    · rfl
  · rcases hI a ha with ha | rfl
    · rcases hT u hu with hu | rfl
      · exact h.reads a ha x hx hw u hu hlt2
      · simp
    · cases hx
  · rcases hI a ha with ha | rfl
    · rcases hT u hu with hu | rfl
      · exact h.looks a ha x hx hw u hu hlt2
      · exact absurd (UInt32.lt_of_lt_of_le hlt2 (h.le a ha)) (fun h3=>UInt32.lt_irrefl _ (UInt32.lt_trans hlt h3))
    · cases hx
  · rcases hI a ha with ha | rfl
    · exact UInt32.le_trans (h.le a ha) (UInt32.le_of_lt hlt)
    · exact UInt32.le_refl _
  · rcases hT t ht with ht | rfl
    · exact h.apart t ht a ha
    · exact hne _ (h.le a (.inl ha))
  · rcases hT t ht with ht | rfl <;> rcases hT u hu with hu | rfl
    · exact h.uniq t ht u hu e
    · exact absurd e.symm (hne _ (hle t ht))
    · exact absurd e (hne _ (hle u hu))
    · rfl
  · rcases hT u hu with hu | rfl
    · exact h.fresh u hu c hc
    · cases hc
  · rcases hT u hu with hu | rfl
    · rcases hT v hv with hv | rfl
      · exact h.alone u hu v hv hne c hc c' hc'
      · cases hc'
    · cases hc
theorem late_nums {s:GamV} {t:TxV} {p:SpanM} {w:Bool} (h:lateG s t p w=false):∀ y ∈ s.nums,t.num < y.2→inSpan p y.1=false:=fun y hy hlt=>by
  unfold lateG at h
  simp only [Bool.or_eq_false_iff] at h
  have:=List.any_eq_false.1 h.1 y hy
  rw [meet_one] at this
  simpa [hlt] using this
theorem late_looks {s:GamV} {t:TxV} {p:SpanM} (h:lateG s t p true=false):∀ y ∈ s.looks,t.num < y.1→meet y.2 p=false:=fun y hy hlt=>by
  unfold lateG at h
  simp only [Bool.or_eq_false_iff,Bool.true_and] at h
  have:=List.any_eq_false.1 h.2.2 y hy
  simpa [hlt] using this
theorem late_under {s:GamV} {t:TxV} {p:SpanM} (h:lateG s t p true=false):∀ n ∈ underL s.txs t.id p,¬ t.num < n:=fun n hn hlt=>by
  unfold lateG at h
  simp only [Bool.or_eq_false_iff,Bool.true_and] at h
  have:=List.any_eq_false.1 h.2.1 n hn
  simp [hlt] at this
theorem mem_under {ts:List TxV} {n:UInt32} {p:SpanM} {u:TxV} (hu:u ∈ ts) (hi:u.id≠n) {c:ChgM} (hc:c ∈ u.own) (hp:inSpan p c.key=true):u.num ∈ underL ts n p:=by
  refine List.mem_map.2 ⟨u,List.mem_filter.2 ⟨hu,?_⟩,rfl⟩
  have:changes u p=true:=List.any_eq_true.2 ⟨c,hc,by rw [meet_one];exact hp⟩
  simp [hi,this]
theorem doG_inv {s:GamV} {n:UInt32} {x:OpM} {t:TxV} (h:(∃ c,doG s n x=.put t c)∨doG s n x=.look t):opOk x=true∧findT s.txs n=some t∧lateG s t (spanOf x) (writes x)=false∧(∀ m ∈ underL s.txs t.id (spanOf x),¬ m < t.num)∧(∀ c,doG s n x=.put t c→writes x=true∧c=chgOf x)∧(doG s n x=.look t→writes x=false):=by
  unfold doG at h ⊢
  cases h1:opOk x with
  | false=>rw [h1] at h;simp at h
  | true=>
    rw [h1] at h
    simp only [if_true] at h ⊢
    cases hf:findT s.txs n with
    | none=>rw [hf] at h;simp at h
    | some u=>
      rw [hf] at h
      simp only at h ⊢
      cases hl:lateG s u (spanOf x) (writes x) with
      | true=>rw [hl] at h;simp at h
      | false=>
        simp only [hl] at h ⊢
        cases hw:(underL s.txs u.id (spanOf x)).any (fun m=>decide (m < u.num)) with
        | true=>simp only [hw] at h;simp at h
        | false=>
          have hwn:∀ m ∈ underL s.txs u.id (spanOf x),¬ m < u.num:=fun m hm hlt=>by
            have:=List.any_eq_false.1 hw m hm;simp [hlt] at this
          simp only [hw] at h ⊢
          cases hx:writes x with
          | true=>
            simp only [hx] at h hl ⊢
            obtain rfl:u=t:=by simpa using h
            exact ⟨by simp,by simp,by simpa using hl,hwn,fun c hc=>by simp at hc;exact ⟨by simp,hc.symm⟩,fun hc=>by simp at hc⟩
          | false=>
            simp only [hx] at h hl ⊢
            obtain rfl:u=t:=by simpa using h
            exact ⟨by simp,by simp,by simpa using hl,hwn,fun c hc=>by simp at hc,fun _=>by simp⟩
theorem Is.put {com:List Pty} {ts:List TxV} {o:Og} {n:UInt32} {v:List OpM × List (List RowM)} {f:TxV→TxV} (hf:∀ u,(f u).id=u.id∧(f u).num=u.num) {t:TxV} (hu:∀ u ∈ ts,u.id=n→u.num=t.num) {a:Pty} (ha:Is com (ts.map f) (setO o n v) a):Is com ts o a∨a=⟨t.num,v.1,v.2⟩:=by
  rcases ha with h1 | ⟨u,h1,h2⟩
  · exact .inl (.inl h1)
  · obtain ⟨w,hw,rfl⟩:=List.mem_map.1 h1
    rw [(hf w).1,(hf w).2] at h2
    by_cases e:w.id=n
    · rw [e,setO_same,hu w hw e] at h2;exact .inr h2
    · rw [setO_other _ _ e] at h2;exact .inl (.inr ⟨w,hw,h2⟩)
theorem below_agree {s:GamV} {com:List Pty} {o:Og} (h:Ser s com o) {t:TxV} (ht:t ∈ s.txs) {p:SpanM} (hn:∀ y ∈ s.nums,t.num < y.2→inSpan p y.1=false):∀ r:RowM,inSpan p r.key=true→(r ∈ s.rows↔r ∈ rowsOf (below com t.num)):=fun r hr=>by
  rw [h.hrows]
  have hsplit:com=below com t.num++com.filter (fun a=>!decide (a.num < t.num)):=by
    have hs:=h.sorted
    clear hn h
    induction com with
    | nil=>rfl
    | cons a l ih=>
      have hp:=List.pairwise_cons.1 hs
      by_cases ha:a.num < t.num
      · simp only [below,List.filter_cons,ha,decide_true,if_true,Bool.not_true,Bool.false_eq_true,if_false,List.cons_append]
        congr 1;exact ih hp.2
      · have hall:∀ b ∈ l,¬ b.num < t.num:=fun b hb hlt=>ha (UInt32.lt_trans (hp.1 b hb) hlt)
        have e1:below (a::l) t.num=[]:=by
          unfold below;rw [List.filter_eq_nil_iff]
          intro b hb;rcases List.mem_cons.1 hb with rfl | hb
          · simpa using ha
          · simpa using hall b hb
        have e2:(a::l).filter (fun a=>!decide (a.num < t.num))=a::l:=by
          rw [List.filter_eq_self]
          intro b hb;rcases List.mem_cons.1 hb with rfl | hb
          · simpa using ha
          · simpa using hall b hb
        rw [e1,e2];rfl
  conv=>lhs;rw [hsplit]
  unfold rowsOf
  rw [chsL_app,change_app]
  refine mem_change_skip _ (rowsOf_rising _) fun c hc e=>?_
  obtain ⟨a,ha,hca⟩:=mem_chsL.1 hc
  obtain ⟨ha1,ha2⟩:=List.mem_filter.1 ha
  obtain ⟨m,hm,hle⟩:=h.known a ha1 c hca
  have hne:=h.apart t ht a ha1
  have hlt:t.num < m:=by
    have h3:¬ a.num < t.num:=by simpa using ha2
    have h4:=UInt32.not_lt.1 h3
    refine UInt32.lt_of_lt_of_le (UInt32.lt_of_le_of_ne h4 hne) hle
  have:=hn _ hm hlt
  rw [← e,this] at hr;cases hr
theorem Ser.put {s:GamV} {com:List Pty} {o:Og} {b:Nat} (h:Ser s com o) (hs:GamOk s b) {n:UInt32} {x:OpM} {t:TxV} {c:ChgM} (hd:doG s n x=.put t c) (sv:SV):Ser (putG s t.id c sv) com (setO o t.id ((o t.id).1++[x],(o t.id).2++[[]])):=by
  obtain ⟨hx,hf,hl,hun,hp,_⟩:=doG_inv (.inl ⟨c,hd⟩)
  obtain ⟨hwx,rfl⟩:=hp c hd
  rw [hwx] at hl
  have ht:=find_mem hf
  have hkey:spanOf x=one x.key:=by
    rcases kinds hx with ⟨_,e | e⟩ | ⟨h2,_⟩
    · simp [spanOf,e,one]
    · simp [spanOf,e,one]
    · rw [hwx] at h2;cases h2
  have hck:(chgOf x).key=x.key:=by unfold chgOf;split <;> rfl
  have hself:inSpan (spanOf x) (chgOf x).key=true:=by rw [hck,hkey,inSpan,one,sIn_iff];exact ⟨sLt_irrefl _,sLt_irrefl _⟩
  have hone:∀ k,inSpan (spanOf x) k=true→k=x.key:=fun k hk=>by
    rw [hkey,inSpan,one,sIn_iff] at hk
    rcases sLt_tri k x.key with e | e | e
    · rw [hk.1] at e;cases e
    · exact e
    · rw [hk.2] at e;cases e
  have hid:∀ u ∈ s.txs,u.id=t.id→u=t:=fun u hu e=>by
    obtain ⟨A,B,ets⟩:=mem_mid ht
    exact under_same ets hs.ids hu e
  let f:TxV→TxV:=fun u=>if u.id=t.id then { u with own:=u.own++[chgOf x],sv:=sv } else u
  have hf':∀ u,(f u).id=u.id∧(f u).num=u.num:=fun u=>by simp only [f];split <;> exact ⟨rfl,rfl⟩
  have hI:∀ a,Is com (s.txs.map f) (setO o t.id ((o t.id).1++[x],(o t.id).2++[[]])) a→Is com s.txs o a∨a=⟨t.num,(o t.id).1++[x],(o t.id).2++[[]]⟩:=fun a ha=>Is.put hf' (fun u hu e=>by rw [hid u hu e]) ha
  have hM:∀ u ∈ s.txs.map f,∃ w ∈ s.txs,u.id=w.id∧u.num=w.num∧(u.own=w.own∨(w=t∧u.own=w.own++[chgOf x])):=fun u hu=>by
    obtain ⟨w,hw,rfl⟩:=List.mem_map.1 hu
    refine ⟨w,hw,(hf' w).1,(hf' w).2,?_⟩
    by_cases e:w.id=t.id
    · right;exact ⟨hid w hw e,by simp only [f,if_pos e]⟩
    · left;simp only [f,if_neg e]
  have hme:Is com s.txs o ⟨t.num,(o t.id).1,(o t.id).2⟩:=.inr ⟨t,ht,rfl⟩
  have hno:∀ u ∈ s.txs,u.id≠t.id→∀ c ∈ u.own,c.key≠x.key:=fun u hu hi c hc e=>by
    have hm:=mem_under hu hi hc (show inSpan (spanOf x) c.key=true by rw [e,← hck];exact hself)
    have h1:=late_under hl u.num hm
    have h2:=hun u.num hm
    have e2:u.num=t.num:=UInt32.le_antisymm (UInt32.not_lt.1 h1) (UInt32.not_lt.1 h2)
    exact hi (h.uniq u hu t ht e2)
  have hlk:∀ y ∈ s.looks,t.num < y.1→inSpan y.2 x.key=false:=fun y hy hlt=>by
    have:=late_looks hl y hy hlt
    rw [hkey,meet_comm,meet_one] at this
    exact this
  show Ser { s with txs:=s.txs.map f } com _
  refine ⟨h.sorted,h.hrows,fun u hu=>?_,fun a ha=>?_,fun a ha=>?_,fun a ha y hy hwy u hu hlt=>?_,fun a ha y hy hwy u hu hlt=>?_,fun a ha=>?_,fun u hu a ha=>?_,fun u hu v hv e=>?_,h.known,fun u hu c hc a ha hlt c' hc'=>?_,fun u hu v hv hne c hc c' hc'=>?_⟩
  · obtain ⟨w,hw,rfl⟩:=List.mem_map.1 hu
    by_cases e:w.id=t.id
    · obtain rfl:=hid w hw e
      simp only [f,if_true,setO_same]
      rw [chs_snoc_w _ hwx,h.own w hw]
    · simp only [f,if_neg e,setO_other _ _ e];exact h.own w hw
  · rcases hI a ha with h5 | rfl
    · exact h.ok a h5
    · intro y hy
      rcases List.mem_append.1 hy with hy | hy
      · exact h.ok _ hme y hy
      · simp at hy;subst hy;exact hx
  · rcases hI a ha with h5 | rfl
    · exact h.expl a h5
    · have h1:=h.expl _ hme
      simp only at h1 ⊢
      rw [runM_snoc,done_write hx hwx]
      simp only [h1]
  · obtain ⟨w,hw,e1,e2,e3⟩:=hM u hu
    rw [e2] at hlt
    rcases hI a ha with h5 | rfl
    · rcases e3 with e3 | ⟨rfl,e3⟩
      · rw [e3];exact h.reads a h5 y hy hwy w hw hlt
      · rw [e3]
        intro c hc
        rcases List.mem_append.1 hc with hc | hc
        · exact h.reads a h5 y hy hwy w hw hlt c hc
        · simp at hc;subst hc
          rw [hck];exact hlk _ (h.looks a h5 y hy hwy w hw hlt) hlt
    · rcases List.mem_append.1 hy with hy | hy
      · rcases e3 with e3 | ⟨rfl,e3⟩
        · rw [e3];exact h.reads _ hme y hy hwy w hw hlt
        · exact absurd hlt (UInt32.lt_irrefl _)
      · simp at hy;subst hy;rw [hwx] at hwy;cases hwy
  · obtain ⟨w,hw,e1,e2,e3⟩:=hM u hu
    rw [e2] at hlt
    rcases hI a ha with h5 | rfl
    · exact h.looks a h5 y hy hwy w hw hlt
    · rcases List.mem_append.1 hy with hy | hy
      · exact h.looks _ hme y hy hwy w hw hlt
      · simp at hy;subst hy;rw [hwx] at hwy;cases hwy
  · rcases hI a ha with h5 | rfl
    · exact h.le a h5
    · show t.num≤s.last
      exact h.le _ hme
  · obtain ⟨w,hw,e1,e2,e3⟩:=hM u hu
    rw [e2];exact h.apart w hw a ha
  · obtain ⟨w,hw,e1,e2,_⟩:=hM u hu
    obtain ⟨w',hw',e1',e2',_⟩:=hM v hv
    rw [e1,e1'];exact h.uniq w hw w' hw' (by rw [← e2,← e2'];exact e)
  · obtain ⟨w,hw,e1,e2,e3⟩:=hM u hu
    rw [e2] at hlt
    rcases e3 with e3 | ⟨rfl,e3⟩
    · rw [e3] at hc;exact h.fresh w hw c hc a ha hlt c' hc'
    · rw [e3] at hc
      rcases List.mem_append.1 hc with hc | hc
      · exact h.fresh w hw c hc a ha hlt c' hc'
      · simp at hc;subst hc
        obtain ⟨m,hm,hle⟩:=h.known a ha c' hc'
        have:=late_nums hl _ hm (UInt32.lt_of_lt_of_le hlt hle)
        intro e
        simp only at this
        rw [e,hself] at this;cases this
  · obtain ⟨w,hw,e1,e2,e3⟩:=hM u hu
    obtain ⟨w',hw',e1',e2',e3'⟩:=hM v hv
    rw [e1,e1'] at hne
    rcases e3 with e3 | ⟨rfl,e3⟩
    · rw [e3] at hc
      rcases e3' with e3' | ⟨rfl,e3'⟩
      · rw [e3'] at hc';exact h.alone w hw w' hw' hne c hc c' hc'
      · rw [e3'] at hc'
        rcases List.mem_append.1 hc' with hc' | hc'
        · exact h.alone w hw w' hw' hne c hc c' hc'
        · simp at hc';subst hc';rw [hck];exact hno w hw hne c hc
    · rw [e3] at hc
      rcases e3' with e3' | ⟨rfl,e3'⟩
      · rw [e3'] at hc'
        rcases List.mem_append.1 hc with hc | hc
        · exact h.alone w hw w' hw' hne c hc c' hc'
        · simp at hc;subst hc;rw [hck];exact fun e=>hno w' hw' (Ne.symm hne) c' hc' e.symm
      · exact absurd rfl hne
theorem Ser.look {s:GamV} {com:List Pty} {o:Og} {b:Nat} (h:Ser s com o) (hs:GamOk s b) {n:UInt32} {x:OpM} {t:TxV} (hd:doG s n x=.look t):Ser (lookG s t (spanOf x)) com (setO o t.id ((o t.id).1++[x],(o t.id).2++[scanR (changeR s.rows t.own) (spanOf x) 256])):=by
  obtain ⟨hx,hf,hl,hun,_,hp⟩:=doG_inv (.inr hd)
  have hwx:=hp hd
  have ht:=find_mem hf
  have hid:∀ u ∈ s.txs,u.id=t.id→u=t:=fun u hu e=>by
    obtain ⟨A,B,ets⟩:=mem_mid ht
    exact under_same ets hs.ids hu e
  have hI:∀ a,Is com s.txs (setO o t.id ((o t.id).1++[x],(o t.id).2++[scanR (changeR s.rows t.own) (spanOf x) 256])) a→Is com s.txs o a∨a=⟨t.num,(o t.id).1++[x],(o t.id).2++[scanR (changeR s.rows t.own) (spanOf x) 256]⟩:=fun a ha=>by
    rcases ha with h1 | ⟨u,h1,h2⟩
    · exact .inl (.inl h1)
    · by_cases e:u.id=t.id
      · obtain rfl:=hid u h1 e
        rw [setO_same] at h2;exact .inr h2
      · rw [setO_other _ _ e] at h2;exact .inl (.inr ⟨u,h1,h2⟩)
  have hme:Is com s.txs o ⟨t.num,(o t.id).1,(o t.id).2⟩:=.inr ⟨t,ht,rfl⟩
  refine ⟨h.sorted,h.hrows,fun u hu=>?_,fun a ha=>?_,fun a ha=>?_,fun a ha y hy hwy u hu hlt=>?_,fun a ha y hy hwy u hu hlt=>?_,fun a ha=>?_,h.apart,h.uniq,h.known,h.fresh,h.alone⟩
  · by_cases e:u.id=t.id
    · obtain rfl:=hid u hu e
      rw [setO_same];simp only;rw [chs_snoc_r _ hwx];exact h.own u hu
    · rw [setO_other _ _ e];exact h.own u hu
  · rcases hI a ha with h5 | rfl
    · exact h.ok a h5
    · intro y hy
      rcases List.mem_append.1 hy with hy | hy
      · exact h.ok _ hme y hy
      · simp at hy;subst hy;exact hx
  · rcases hI a ha with h5 | rfl
    · exact h.expl a h5
    · have h1:=h.expl _ hme
      simp only at h1 ⊢
      have hV:=rowsOf_rising (below com t.num)
      rw [runM_snoc]
      show _++[_]=_
      rw [h1,run_left hV _ (h.ok _ hme),done_read (changeR_rising _ hV).1 hx hwx]
      congr 2
      simp only [← h.own t ht]
      refine scan_agree (changeR_rising _ hV).1 (changeR_rising _ hs.rising).1 _ _ fun r hr=>?_
      exact mem_change _ hV hs.rising (below_agree h ht (late_nums hl) r hr).symm
  · rcases hI a ha with h5 | rfl
    · exact h.reads a h5 y hy hwy u hu hlt
    · rcases List.mem_append.1 hy with hy | hy
      · exact h.reads _ hme y hy hwy u hu hlt
      · simp at hy;subst hy
        intro c hc
        cases e:inSpan (spanOf y) c.key with
        | false=>rfl
        | true=>
          have hne:u.id≠t.id:=fun e2=>by obtain rfl:=hid u hu e2;exact UInt32.lt_irrefl _ hlt
          exact absurd hlt (hun u.num (mem_under hu hne hc e))
  · rcases hI a ha with h5 | rfl
    · exact List.mem_append_left _ (h.looks a h5 y hy hwy u hu hlt)
    · rcases List.mem_append.1 hy with hy | hy
      · exact List.mem_append_left _ (h.looks _ hme y hy hwy u hu hlt)
      · simp at hy;subst hy;exact List.mem_append_right _ (by simp)
  · rcases hI a ha with h5 | rfl
    · exact h.le a h5
    · show t.num≤s.last
      exact h.le _ hme
theorem Ser.com {s:GamV} {A B:List Pty} {o:Og} {b:Nat} {n:UInt32} {t:TxV} (h:Ser s (A++B) o) (hs:GamOk s b) (hf:findT s.txs n=some t) (hfit:fitsG s t) (hA:∀ a ∈ A,a.num < t.num) (hB:∀ a ∈ B,t.num < a.num) :
    Ser (comG s n) (A++⟨t.num,(o t.id).1,(o t.id).2⟩::B) o:=by
  obtain ⟨hid,A1,B1,hts,hdel,_⟩:=find_mid hf
  have ht:=find_mem hf
  have hcom:comG s n={ endsG s n with d:=(addW s.d s.at_ (frame (recG t)) (secs (recG t).length)).sync,at_:=s.at_+secs (recG t).length,rows:=changeR s.rows t.own,nums:=keptG s.nums t.num t.own }:=by
    simp only [comG,hf,commG,if_pos hfit]
  have hsub:∀ u ∈ delT s.txs n,u ∈ s.txs:=fun u hu=>delT_sub.mem hu
  have hne:∀ u ∈ delT s.txs n,u.id≠t.id:=fun u hu=>nodup_mid (hts ▸ hs.ids) u (hdel ▸ hu)
  have hp:Is (A++B) s.txs o ⟨t.num,(o t.id).1,(o t.id).2⟩:=.inr ⟨t,ht,rfl⟩
  have hown:=h.own t ht
  have hI:∀ a,Is (A++⟨t.num,(o t.id).1,(o t.id).2⟩::B) (delT s.txs n) o a→Is (A++B) s.txs o a:=fun a ha=>by
    rcases ha with h1 | ⟨u,h1,h2⟩
    · rcases List.mem_append.1 h1 with h1 | h1
      · exact .inl (by simp [h1])
      · rcases List.mem_cons.1 h1 with rfl | h1
        · exact hp
        · exact .inl (by simp [h1])
    · exact .inr ⟨u,hsub u h1,h2⟩
  have hC:∀ a ∈ A++(⟨t.num,(o t.id).1,(o t.id).2⟩:Pty)::B,a ∈ A++B∨a=⟨t.num,(o t.id).1,(o t.id).2⟩:=fun a ha=>by
    rcases List.mem_append.1 ha with h1 | h1
    · exact .inl (by simp [h1])
    · rcases List.mem_cons.1 h1 with rfl | h1
      · exact .inr rfl
      · exact .inl (by simp [h1])
  have hsA:=(List.pairwise_append.1 h.sorted)
  rw [hcom]
  refine ⟨?_,?_,fun u hu=>h.own u (hsub u hu),fun a ha=>h.ok a (hI a ha),fun a ha=>?_,fun a ha x hx hw u hu=>h.reads a (hI a ha) x hx hw u (hsub u hu),fun a ha x hx hw u hu hlt=>?_,fun a ha=>h.le a (hI a ha),fun u hu a ha=>?_,fun u hu v hv=>h.uniq u (hsub u hu) v (hsub v hv),fun a ha c hc=>?_,fun u hu c hc a ha hlt c' hc'=>?_,fun u hu v hv=>h.alone u (hsub u hu) v (hsub v hv)⟩
  · refine List.pairwise_append.2 ⟨hsA.1,List.pairwise_cons.2 ⟨hB,hsA.2.1⟩,fun a ha c hc=>?_⟩
    rcases List.mem_cons.1 hc with rfl | hc
    · exact hA a ha
    · exact hsA.2.2 a ha c hc
  · show changeR s.rows t.own=rowsOf (A++⟨t.num,(o t.id).1,(o t.id).2⟩::B)
    rw [h.hrows,hown]
    unfold rowsOf
    have hdis:∀ c ∈ chsL B,∀ c' ∈ chs (o t.id).1,c.key≠c'.key:=fun c hc c' hc'=>by
      obtain ⟨a,ha,hca⟩:=mem_chsL.1 hc
      exact h.fresh t ht c' (hown ▸ hc') a (by simp [ha]) (hB a ha) c hca
    have e1:chsL (A++B)=chsL A++chsL B:=chsL_app A B
    have e2:chsL (A++⟨t.num,(o t.id).1,(o t.id).2⟩::B)=chsL A++(chs (o t.id).1++chsL B):=by simp [chsL]
    rw [e1,e2,change_app [] (chsL A) (chsL B),change_app [] (chsL A),← change_app]
    exact change_swap (changeR_rising _ List.Pairwise.nil).1 _ _ hdis
  · have hex:=h.expl a (hI a ha)
    by_cases hlt:t.num < a.num
    · have e1:below (A++⟨t.num,(o t.id).1,(o t.id).2⟩::B) a.num=below A a.num++⟨t.num,(o t.id).1,(o t.id).2⟩::below B a.num:=by simp [below,hlt]
      have e2:below (A++B) a.num=below A a.num++below B a.num:=by simp [below]
      rw [← hex]
      refine run_agree (rowsOf_rising _) (rowsOf_rising _) a.ops (h.ok a (hI a ha)) fun x hx hw r hr=>?_
      rw [e1,e2]
      unfold rowsOf
      rw [show chsL (below A a.num++⟨t.num,(o t.id).1,(o t.id).2⟩::below B a.num)=chsL (below A a.num)++(chs (o t.id).1++chsL (below B a.num)) by simp [chsL],chsL_app,change_app,change_app,change_app]
      have hV:=(changeR_rising (chsL (below A a.num)) List.Pairwise.nil).1
      refine mem_change _ (changeR_rising _ hV).1 hV (mem_change_skip _ hV fun c hc e=>?_)
      have:=h.reads a (hI a ha) x hx hw t ht hlt c (hown ▸ hc)
      rw [e,hr] at this;cases this
    · have e1:below (A++⟨t.num,(o t.id).1,(o t.id).2⟩::B) a.num=below (A++B) a.num:=by simp [below,hlt]
      rw [e1];exact hex
  · refine List.mem_filter.2 ⟨h.looks a (hI a ha) x hx hw u (hsub u hu) hlt,?_⟩
    have h1:=(minL_le (ts:=delT s.txs n) (m:=s.last)).2 u hu
    simp only [Bool.not_eq_true',decide_eq_false_iff_not]
    intro h2
    exact UInt32.lt_irrefl _ (UInt32.lt_trans (UInt32.lt_of_lt_of_le h2 h1) hlt)
  · rcases hC a ha with h5 | rfl
    · exact h.apart u (hsub u hu) a h5
    · exact fun e=>hne u hu (h.uniq u (hsub u hu) t ht e)
  · rcases hC a ha with h5 | rfl
    · by_cases hk:∃ c' ∈ t.own,c'.key=c.key
      · obtain ⟨c',hc',e⟩:=hk
        refine ⟨t.num,e ▸ keptG_in t.own c' hc',?_⟩
        refine UInt32.not_lt.1 fun hlt=>?_
        exact h.fresh t ht c' hc' a h5 hlt c hc e.symm
      · obtain ⟨m,hm,hle⟩:=h.known a h5 c hc
        exact ⟨m,keptG_old hm t.own (fun c' hc' e=>hk ⟨c',hc',e⟩),hle⟩
    · exact ⟨t.num,keptG_in t.own c (hown ▸ hc),UInt32.le_refl _⟩
  · rcases hC a ha with h5 | rfl
    · exact h.fresh u (hsub u hu) c hc a h5 hlt c' hc'
    · exact h.alone t ht u (hsub u hu) (hne u hu).symm c' (hown ▸ hc') c hc
theorem Ser.run {s:GamV} {com:List Pty} {o:Og} (h:Ser s com o) {k:Nat} {a:Pty} (ha:com[k]?=some a):(runM (rowsOf (com.take k)) a.ops).1=a.res∧(runM (rowsOf (com.take k)) a.ops).2=rowsOf (com.take (k+1))∧∀ x ∈ a.ops,opOk x=true:=by
  have hm:Is com s.txs o a:=.inl (List.mem_of_getElem? ha)
  have hlt:=idx_lt ha
  have e:below com a.num=com.take k:=by
    have hsp:com=com.take k++a::com.drop (k+1):=by
      rw [List.getElem?_eq_getElem hlt] at ha;cases ha
      rw [List.getElem_cons_drop,List.take_append_drop]
    have hs:=h.sorted
    rw [hsp] at hs
    have hp:=List.pairwise_append.1 hs
    have hq:=List.pairwise_cons.1 hp.2.1
    unfold below
    conv=>lhs;rw [hsp]
    rw [List.filter_append,List.filter_cons,if_neg (by simp [UInt32.lt_irrefl])]
    have h1:(com.take k).filter (fun b=>decide (b.num < a.num))=com.take k:=by
      rw [List.filter_eq_self];intro b hb;simpa using hp.2.2 b hb a (by simp)
    have h2:(com.drop (k+1)).filter (fun b=>decide (b.num < a.num))=[]:=by
      rw [List.filter_eq_nil_iff];intro b hb hlt2
      have:=hq.1 b hb
      simp at hlt2
      exact UInt32.lt_irrefl _ (UInt32.lt_trans this hlt2)
    rw [h1,h2,List.append_nil]
  refine ⟨by rw [← e];exact h.expl a hm,?_,h.ok a hm⟩
  rw [run_left (rowsOf_rising _) _ (h.ok a hm),take_snoc ha]
  unfold rowsOf
  rw [chsL_app,change_app]
  simp [chsL]
theorem Ser.keys {s:GamV} {com:List Pty} {o:Og} (h:Ser s com o) (k:Nat):KeysOk (rowsOf (com.take k)):=
  changeR_keys List.Pairwise.nil (by simp [KeysOk]) fun c hc=>by
    obtain ⟨a,ha,hca⟩:=mem_chsL.1 hc
    exact chs_ok (h.ok a (.inl (List.mem_of_mem_take ha))) c hca
theorem find_id {ts:List TxV} {n:UInt32} {t:TxV} (h:findT ts n=some t):t.id=n:=(find_mid h).1
theorem find_no {ts:List TxV} {n:UInt32} (h:findT ts n=none):∀ t ∈ ts,t.id≠n:=by
  unfold findT at h
  rw [List.find?_eq_none] at h
  intro t ht;simpa using h t ht
theorem delT_no {s:GamV} {b:Nat} (h:GamOk s b) (n:UInt32):∀ t ∈ delT s.txs n,t.id≠n:=by
  cases hf:findT s.txs n with
  | none=>exact fun t ht=>find_no hf t (delT_sub.mem ht)
  | some t=>
    obtain ⟨hid,A,B,hts,hdel,_⟩:=find_mid hf
    intro u hu
    rw [← hid]
    exact nodup_mid (hts ▸ h.ids) u (hdel ▸ hu)
theorem doG_err {s s':GamV} {n:UInt32} {x:OpM} {e:Nat} (h:doG s n x=.err s' e):e≠0∧(s'=s∨s'=endsG s n):=by
  unfold doG at h
  split at h
  · cases hf:findT s.txs n with
    | none=>rw [hf] at h;cases h;exact ⟨by decide,.inl rfl⟩
    | some t=>
      rw [hf] at h
      simp only at h
      split at h
      · cases h;exact ⟨by decide,.inr rfl⟩
      · split at h
        · cases h;exact ⟨by decide,.inl rfl⟩
        · split at h <;> cases h
  · cases h;exact ⟨by decide,.inl rfl⟩
structure SerL (i:Nat) (s:GamV) (F all:List DidV) (kvs:List (UInt32 × Value)):Prop where
  ok:GamOk s i
  last:s.last.toNat≤i
  ser:Ser s (all.map DidV.pty) (ogD F)
  has:∀ t ∈ s.txs,(findD F t.id).isSome=true
  opn:OpenOk kvs F
  len:all.length≤i
  lenF:∀ d ∈ F,d.ops.length≤i∧d.l.length≤i
  lenA:∀ d ∈ all,d.ops.length≤i∧d.l.length≤i
theorem SerL.first {d:DiskM} (h:Quiet d):SerL 0 (gam0 d) [] [] []:=
  ⟨gam0_ok h,Nat.le_refl _,Ser.init d _,(by intro t h;cases h),fun n=>rfl,Nat.le_refl _,(by intro t h;cases h),(by intro t h;cases h)⟩
section
variable {i : Nat} {s : GamV} {F all : List DidV} {kvs : List (UInt32 × Value)}
theorem SerL.mono (h:SerL i s F all kvs) (hi:i < 1000):SerL (i+1) s F all kvs:=
  ⟨h.ok.mono (Nat.le_succ _) (by omega),Nat.le_succ_of_le h.last,h.ser,h.has,h.opn,Nat.le_succ_of_le h.len,fun d hd=>by have:=h.lenF d hd;omega,fun d hd=>by have:=h.lenA d hd;omega⟩
theorem SerL.beg (h:SerL i s F all kvs) (hi:i < 1000) {n:UInt32} (hE:begEg s n=0) (q b:Nat) :
    SerL (i+1) (begG s n q) (⟨n,b,0,⟨none,0,0⟩,[],⟨none,0,0⟩,[]⟩::delD F n) all (mset kvs n (.pointer (some ⟨b,0,none⟩))):=by
  have h2:=h.mono hi
  have hB:begG s n q={ s with last:=s.last+1,txs:=s.txs++[⟨n,s.last+1,[],q,⟨none,0,0⟩⟩] }:=by rw [begG,if_pos hE]
  refine ⟨h2.ok.beg n q,?_,?_,fun t ht=>?_,h.opn.new ⟨n,b,0,⟨none,0,0⟩,[],⟨none,0,0⟩,[]⟩,h2.len,fun d hd=>?_,h2.lenA⟩
  · rw [hB]
    show (s.last+1).toNat≤i+1
    have:=h.last
    rw [UInt32.toNat_add];simp;omega
  · rw [ogD_set F (d:=⟨n,b,0,⟨none,0,0⟩,[],⟨none,0,0⟩,[]⟩) rfl]
    exact h.ser.beg hE (by have:=h.last;omega) q
  · rw [findD_cons,findD_del]
    by_cases e:n=t.id
    · simp [e]
    · rw [if_neg e,if_neg (fun e2=>e e2.symm)]
      rw [hB] at ht
      rcases List.mem_append.1 ht with ht | ht
      · exact h.has t ht
      · simp at ht;subst ht;exact absurd rfl e
  · rcases List.mem_cons.1 hd with rfl | hd
    · exact ⟨Nat.zero_le _,Nat.zero_le _⟩
    · exact h2.lenF d (delD_mem hd)
theorem SerL.ends (h:SerL i s F all kvs) (n:UInt32):SerL i (endsG s n) F all kvs:=
  ⟨h.ok.ends n,h.last,h.ser.ends n,fun t ht=>h.has t (delT_sub.mem ht),h.opn,h.len,h.lenF,h.lenA⟩
theorem SerL.gone (h:SerL i s F all kvs) (hi:i < 1000) {n:UInt32} (hn:∀ t ∈ s.txs,t.id≠n):SerL (i+1) s (delD F n) all (mset kvs n (.pointer none)):=by
  have h2:=h.mono hi
  refine ⟨h2.ok,h2.last,h.ser.congr fun t ht=>?_,fun t ht=>?_,h.opn.nil n,h2.len,fun d hd=>h2.lenF d (delD_mem hd),h2.lenA⟩
  · unfold ogD;rw [findD_del,if_neg (hn t ht)]
  · rw [findD_del,if_neg (hn t ht)];exact h.has t ht
theorem SerL.abo (h:SerL i s F all kvs) (hi:i < 1000) (n:UInt32):SerL (i+1) (aboG s n) (delD F n) all (mset kvs n (.pointer none)):=by
  unfold aboG
  split
  · exact (h.ends n).gone hi (delT_no h.ok n)
  · rename_i hf
    exact h.gone hi (find_no (by simpa using hf))
theorem SerL.com (h:SerL i s F all kvs) {n:UInt32} (hE:comEg s n=0):∃ t d,findT s.txs n=some t∧comNg s n=t.num∧findD F n=some d∧fitsG s t∧∀ a ∈ all,a.num≠t.num:=by
  cases hf:findT s.txs n with
  | none=>simp [comEg,hf] at hE
  | some t=>
    have hfit:fitsG s t:=by
      by_cases hfit:fitsG s t
      · exact hfit
      · simp [comEg,hf,hfit] at hE
    obtain ⟨d,hd⟩:=Option.isSome_iff_exists.1 (h.has t (find_mem hf))
    rw [find_id hf] at hd
    exact ⟨t,d,rfl,by simp [comNg,hf,hfit],hd,hfit,fun a ha e=>h.ser.apart t (find_mem hf) a.pty (List.mem_map.2 ⟨a,ha,rfl⟩) e.symm⟩
theorem SerL.err (h:SerL i s F all kvs) (hi:i < 1000) {n:UInt32} {x:OpM} {s':GamV} {e:Nat} (he:doG s n x=.err s' e):e≠0∧SerL (i+1) s' F all kvs:=by
  obtain ⟨h1,h2 | h2⟩:=doG_err he
  · subst h2;exact ⟨h1,h.mono hi⟩
  · subst h2;exact ⟨h1,(h.ends n).mono hi⟩
theorem SerL.upd (h:SerL i s F all kvs) (hi:i < 1000) {n:UInt32} {x:OpM} {s':GamV} {d:DidV} {r:SV × List RowM} (hd:findD F n=some d) (hok:GamOk s' (i+1)) (hl:s'.last=s.last) (ht:∀ t ∈ s'.txs,∃ u ∈ s.txs,t.id=u.id)
    (hs:Ser s' (all.map DidV.pty) (setO (ogD F) n ((ogD F n).1++[x],(ogD F n).2++[r.2]))) (os ls:SV):SerL (i+1) s' ({ d with os:=os,ops:=d.ops++[x],ls:=ls,l:=d.l++[r] }::delD F n) all kvs:=by
  have hm:=h.mono hi
  obtain ⟨hdm,hid⟩:=findD_id hd
  refine ⟨hok,by rw [hl];exact hm.last,?_,fun t htt=>?_,h.opn.upd hd hid rfl,hm.len,fun a ha=>?_,hm.lenA⟩
  · rw [ogD_set F (n:=n) (by exact hid)]
    rw [ogD_some hd] at hs
    simpa using hs
  · rw [findD_cons,findD_del]
    by_cases e:d.id=t.id
    · rw [if_pos e];rfl
    · rw [if_neg e,if_neg (fun e2=>e (hid.trans e2.symm))]
      obtain ⟨u,hu,e3⟩:=ht t htt
      rw [e3];exact h.has u hu
  · rcases List.mem_cons.1 ha with rfl | ha
    · have:=h.lenF d hdm;simp;omega
    · exact hm.lenF a (delD_mem ha)
theorem SerL.put (h:SerL i s F all kvs) (hi:i < 1000) {n:UInt32} {x:OpM} {t:TxV} {c:ChgM} (hd:doG s n x=.put t c) (sv:SV):∃ d,findD F n=some d∧∀ os ls,SerL (i+1) (putG s t.id c sv) ({ d with os:=os,ops:=d.ops++[x],ls:=ls,l:=d.l++[((⟨none,0,0⟩:SV),([]:List RowM))] }::delD F n) all kvs:=by
  obtain ⟨hx,hf,hl,hun,hp,_⟩:=doG_inv (.inl ⟨c,hd⟩)
  obtain ⟨hwx,hc⟩:=hp c hd
  obtain ⟨d,he⟩:=Option.isSome_iff_exists.1 (h.has t (find_mem hf))
  obtain rfl:=find_id hf
  have hs:=h.ser.put h.ok hd sv
  refine ⟨d,he,h.upd hi (x:=x) (r:=(⟨none,0,0⟩,[])) he ?_ rfl (fun u hu=>?_) hs⟩
  · exact h.ok.put (by omega) (find_mem hf) c (hc ▸ chgOf_ok hx hwx) sv
  · obtain ⟨v,hv,rfl⟩:=List.mem_map.1 (show u ∈ putT s.txs t.id c sv from hu)
    exact ⟨v,hv,by split <;> rfl⟩
theorem SerL.look (h:SerL i s F all kvs) (hi:i < 1000) {n:UInt32} {x:OpM} {t:TxV} (hd:doG s n x=.look t) (sv:SV):∃ d,findD F n=some d∧∀ os ls,SerL (i+1) (lookG s t (spanOf x)) ({ d with os:=os,ops:=d.ops++[x],ls:=ls,l:=d.l++[(sv,scanR (changeR s.rows t.own) (spanOf x) 256)] }::delD F n) all kvs:=by
  obtain ⟨hx,hf,hl,hun,_,hp⟩:=doG_inv (.inr hd)
  obtain ⟨d,he⟩:=Option.isSome_iff_exists.1 (h.has t (find_mem hf))
  obtain rfl:=find_id hf
  have hs:=h.ser.look h.ok hd
  exact ⟨d,he,h.upd hi (x:=x) (r:=(sv,scanR (changeR s.rows t.own) (spanOf x) 256)) he (h.ok.look (by omega) t _) rfl (fun u hu=>⟨u,hu,rfl⟩) hs⟩
def rowsA (all:List DidV) (k:Nat):List RowM:=rowsOf ((all.take k).map DidV.pty)
theorem SerL.run (h:SerL i s F all kvs) {k:Nat} {a:DidV} (ha:all[k]?=some a) :
    (runM (rowsA all k) a.ops).1=a.l.map (·.2)∧(runM (rowsA all k) a.ops).2=rowsA all (k+1)∧(∀ x ∈ a.ops,opOk x=true)∧Rising (rowsA all k)∧KeysOk (rowsA all k)∧(rowsA all (k+1)).length≤(rowsA all k).length+i∧a.ops.length≤i∧a.l.length≤i:=by
  have hk:(all.map DidV.pty)[k]?=some a.pty:=by rw [List.getElem?_map,ha];rfl
  obtain ⟨h1,h2,h3⟩:=h.ser.run hk
  have h4:=h.ser.keys k
  have hr:Rising (rowsA all k):=rowsOf_rising _
  rw [← List.map_take] at h1 h2 h4
  rw [← List.map_take] at h2
  have h5:=h.lenA a (List.mem_of_getElem? ha)
  have h6:=(runM_rows hr a.ops).2.1
  refine ⟨h1,h2,h3,hr,h4,?_,h5⟩
  rw [show rowsA all (k+1)=(runM (rowsA all k) a.ops).2 from h2.symm]
  omega
theorem SerL.done (h:SerL i s F all kvs):s.rows=rowsA all all.length:=by
  rw [h.ser.hrows];unfold rowsA;rw [List.take_length]
end
end Go.SL
namespace Go.SL
open Go
def reOne (s:GamV) (y:RecG):GamV:={ s with rows:=changeR s.rows y.2,nums:=keptG s.nums y.1 y.2,last:=if s.last < y.1 then y.1 else s.last }
def reAll (s:GamV) (ys:List RecG):GamV:=ys.foldl reOne s
theorem reAll_take (s:GamV) {ys:List RecG} {i:Nat} {y:RecG} (h:ys[i]?=some y):reAll s (ys.take (i+1))=reOne (reAll s (ys.take i)) y:=by
  rw [take_snoc h];simp [reAll]
theorem re_rows (s:GamV) (h0:s.rows=[]):∀ (ys:List RecG) (i:Nat),Rising (reAll s (ys.take i)).rows∧(reAll s (ys.take i)).rows.length≤((ys.take i).map (fun y=>y.2.length)).sum
  | ys,0=>by simp [reAll,h0,Rising]
  | ys,i+1=>by
    obtain ⟨h1,h2⟩:=re_rows s h0 ys i
    rcases Nat.lt_or_ge i ys.length with h | h
    · have hy:ys[i]?=some ys[i]:=List.getElem?_eq_getElem h
      rw [reAll_take s hy,take_snoc hy]
      obtain ⟨h3,h4⟩:=changeR_rising ys[i].2 h1
      refine ⟨h3,?_⟩
      simp only [reOne,List.map_append,List.sum_append,List.map_cons,List.map_nil,List.sum_cons,List.sum_nil]
      omega
    · rw [List.take_of_length_le h] at h1 h2
      rw [List.take_of_length_le (by omega)];exact ⟨h1,h2⟩
theorem reAll_rows:∀ (ys:List RecG) (s:GamV),(reAll s ys).rows=changeR s.rows (ys.flatMap (·.2))∧(reAll s ys).d=s.d∧(reAll s ys).at_=s.at_∧(reAll s ys).txs=s.txs
  | [],s=>⟨rfl,rfl,rfl,rfl⟩
  | y::ys,s=>by
    obtain ⟨h1,h2,h3,h4⟩:=reAll_rows ys (reOne s y)
    refine ⟨?_,h2,h3,h4⟩
    show (reAll (reOne s y) ys).rows=_
    rw [h1,List.flatMap_cons]
    simp [changeR,reOne]
structure SureI (i:Nat) (s:GamV) (ys:List RecG):Prop where
  ok:GamOk s i
  log:DiskLog s.d s.at_ ys
  hrows:s.rows=changeR [] (ys.flatMap (·.2))
  sum:(ys.map fun y=>y.2.length).sum≤i * 150
theorem SureI.first:SureI 0 (gam0 (newDisk 4096).sync) []:=⟨gam0_ok newDisk_quiet,DiskLog.first,rfl,Nat.le_refl _⟩
theorem SureI.same {i:Nat} {s s':GamV} {ys:List RecG} (h:SureI i s ys) (hok:GamOk s' (i+1)) (h1:s'.d=s.d) (h2:s'.at_=s.at_) (h3:s'.rows=s.rows):SureI (i+1) s' ys:=
  ⟨hok,by rw [h1,h2];exact h.log,by rw [h3];exact h.hrows,by have:=h.sum;omega⟩
theorem SureI.com {i:Nat} {s:GamV} {ys:List RecG} (h:SureI i s ys) (hi:i≤150) (n:UInt32):∃ ys',SureI (i+1) (comG s n) ys':=by
  have hg:=(h.ok.com n).mono (Nat.le_succ i) (by omega)
  cases hf:findT s.txs n with
  | none=>
    have e:comG s n=s:=by simp [comG,hf]
    rw [e] at hg ⊢
    exact ⟨ys,h.same hg rfl rfl rfl⟩
  | some t=>
    by_cases hfit:fitsG s t
    · have hcom:comG s n={ endsG s n with d:=(addW s.d s.at_ (frame (recG t)) (secs (recG t).length)).sync,at_:=s.at_+secs (recG t).length,rows:=changeR s.rows t.own,nums:=keptG s.nums t.num t.own }:=by simp only [comG,hf,commG,if_pos hfit]
      have ht:=find_mem hf
      have hol:=h.ok.own_le ht
      have hle:t.own.length≤4096:=by
        rcases Nat.lt_or_ge 4096 t.own.length with h5 | h5
        · exact absurd hfit (not_fits (by omega))
        · exact h5
      have hl:=h.log.add (y:=(t.num,t.own)) ⟨hle,h.ok.own t ht⟩ hfit.1 hfit.2
      refine ⟨ys++[(t.num,t.own)],hg,?_,?_,?_⟩
      · rw [hcom];exact hl
      · rw [hcom]
        show changeR s.rows t.own=_
        rw [h.hrows,List.flatMap_append]
        simp [changeR]
      · have:=h.sum
        simp;omega
    · have e:comG s n=endsG s n:=by simp [comG,hf,commG,hfit]
      rw [e] at hg ⊢
      exact ⟨ys,h.same hg rfl rfl rfl⟩
section
variable {i : Nat} {s : GamV} {ys : List RecG}
theorem SureI.beg (h:SureI i s ys) (hi:i≤150) (n:UInt32) (q:Nat):SureI (i+1) (begG s n q) ys:=by
  have hg:=(h.ok.beg n q).mono (Nat.le_succ i) (by omega)
  refine h.same hg ?_ ?_ ?_ <;> (unfold begG;split <;> rfl)
theorem SureI.abo (h:SureI i s ys) (hi:i≤150) (n:UInt32):SureI (i+1) (aboG s n) ys:=by
  have hg:=(h.ok.abo n).mono (Nat.le_succ i) (by omega)
  refine h.same hg ?_ ?_ ?_ <;> (unfold aboG;split <;> rfl)
theorem SureI.err (h:SureI i s ys) (hi:i≤150) {n:UInt32} {x:OpM} {s':GamV} {e:Nat} (he:doG s n x=.err s' e):SureI (i+1) s' ys:=by
  obtain ⟨_,h2 | h2⟩:=doG_err he
  · subst h2;exact h.same (h.ok.mono (Nat.le_succ i) (by omega)) rfl rfl rfl
  · subst h2;exact h.same ((h.ok.ends n).mono (Nat.le_succ i) (by omega)) rfl rfl rfl
theorem SureI.put (h:SureI i s ys) (hi:i≤150) {n:UInt32} {x:OpM} {t:TxV} {c:ChgM} (hd:doG s n x=.put t c) (sv:SV):SureI (i+1) (putG s t.id c sv) ys:=by
  obtain ⟨hx,hf,_,_,hp,_⟩:=doG_inv (.inl ⟨c,hd⟩)
  obtain ⟨hwx,hc⟩:=hp c hd
  exact h.same (h.ok.put (by omega) (find_mem hf) c (hc ▸ chgOf_ok hx hwx) sv) rfl rfl rfl
theorem SureI.look (h:SureI i s ys) (hi:i≤150) (t:TxV) (p:SpanM):SureI (i+1) (lookG s t p) ys:=h.same (h.ok.look (by omega) t p) rfl rfl rfl
end
end Go.SL
namespace Go.SL.Fc
open Go Go.Proofs Go.SL
theorem a164:aggOf Tryz.prog 164=some none:=by kernel_rfl
theorem a167:aggOf Tryz.prog 167=some none:=by kernel_rfl
theorem f260_0:fldOf Tryz.prog 260 0=some 0:=by kernel_rfl
theorem f260_1:fldOf Tryz.prog 260 1=some 1:=by kernel_rfl
theorem k112:callable Tryz.prog 112=true:=by kernel_rfl
theorem k113:callable Tryz.prog 113=true:=by kernel_rfl
theorem k114:callable Tryz.prog 114=true:=by kernel_rfl
theorem k115:callable Tryz.prog 115=true:=by kernel_rfl
theorem k178:callable Tryz.prog 178=true:=by kernel_rfl
theorem k179:callable Tryz.prog 179=true:=by kernel_rfl
theorem k180:callable Tryz.prog 180=true:=by kernel_rfl
theorem p260:placesOf Tryz.prog 260=some [(0,1),(1,1)]:=by kernel_rfl
theorem s164:szOf Tryz.prog 164=some 1:=by kernel_rfl
theorem z164:zeroOf Tryz.prog 164=some [.pointer none]:=by kernel_rfl
theorem z260:zeroOf Tryz.prog 260=some [.slice none 0 0,.bool false]:=by kernel_rfl
end Go.SL.Fc
namespace Go.SL
open Go Go.Proofs Fc
theorem recs_rl {l:List RecV} {x:RecV} (h:x ∈ l):RL (RecsR l) 1 eB x.1.v x.2.1:=fun S hS=>by
 obtain ⟨T,h1,h2⟩:=mem_stars (List.mem_map.2 ⟨x,h,rfl⟩:recR x ∈ l.map recR) S hS
 exact rds_mono (sl_rl T h2) h1
theorem take_spec {g:World} {A:HP} {r:Nat} {v:SV} {xs rest:List UInt8} (n:Nat) (hn:xs.length=n) (hA:RL A 1 eB v.v (xs++rest)):Spec Tryz.prog g 180 [.pointer (some ⟨r,0,none⟩),.int .i64 n] [cl r 260 [v.v,.bool false],A] fun K R=>∀ y w:SV,RL A 1 eB y.v xs→RL A 1 eB w.v rest→K y.v (cl r 260 [w.v,.bool false]::A::R):=by
 refine Spec.intro Tryz.func180 rfl Tryz.ntmps180 rfl fun R K hK=>?_
 refine WP.seq<|WP.reg<|WL.e e_assign<|WL.next<|WP.seq<|WP.seq<|WP.reg<|WL.e e_move<|WL.e e_move<|WL.e e_nil<|WL.e (e_fa f260_0)<|WL.e (e_load a94)<|WL.e (el_len sl94 hA)<|WL.e e_gtr<|WL.next ?_
 refine WP.cond rfl (fun h=>?_) (fun h=>?_)
 ·(rw [decide_eq_true_eq] at h;simp at h;omega)
 ·have hle:n≤(xs++rest).length:=by simp;omega
  refine WP.skip<|PO.next<|WP.seq<|WP.draws mixedOk 17<|RW.e 0 rfl e_move<|RW.e 1 rfl e_move<|RW.e 2 rfl e_nil<|RW.e 3 rfl (e_fa f260_0)<|RW.e 4 rfl (e_load a94)<|RW.e 5 rfl e_move<|RW.e 6 rfl (el_to (hi:=n) sl94 hA hle)<|RW.e 7 rfl e_move<|RW.e 8 rfl e_nil<|RW.e 9 rfl (e_fa f260_0)<|RW.e 10 rfl (e_load a94)<|RW.e 11 rfl e_move<|RW.e 12 rfl (el_from (lo:=n) sl94 hA hle)<|RW.e 13 rfl e_assign<|RW.e 14 rfl e_nil<|RW.e 15 rfl (e_fa f260_0) ?_
  refine RW.any (is:=[16]) rfl ⟨?_,trivial⟩
  refine RWat.h' rfl rfl rfl ?_
  refine (h_store s94 ?_)
  refine ⟨trivial,?_⟩
  refine RW.done<|PO.next<|WP.seq<|WP.reg<|WL.e e_move<|WL.e e_assign<|WL.next<|WP.ret ?_
  exact PO.fin Tryz.results180 (rv_tmp rv_nil) (hK (subS v 0 n 1) (subS v n (xs++rest).length 1) (by have:=RL.to_ eB_ok hA hle;rwa [List.take_left' hn] at this) (by have:=RL.from_ eB_ok hA hle;rwa [List.drop_left' hn] at this))
theorem rnumber_spec {g:World} {A:HP} {r:Nat} {v:SV} {xs rest:List UInt8} (n:Nat) (hn:xs.length=n) (hA:RL A 1 eB v.v (xs++rest)) (hb:n≤4):Spec Tryz.prog g 115 [.pointer (some ⟨r,0,none⟩),.int .i64 n] [cl r 260 [v.v,.bool false],A] fun K R=>∀ w:SV,RL A 1 eB w.v rest→K (.int .u32 (beN xs).toNat) (cl r 260 [w.v,.bool false]::A::R):=by
 refine Spec.intro Tryz.func115 rfl Tryz.ntmps115 rfl fun R K hK=>?_
 refine WP.seq<|WP.reg<|WL.e e_assign<|WL.next<|WP.seq<|WP.seq<|WP.reg<|WL.e e_move<|WL.e e_move ?_
 refine WL.h (h_call (take_spec n hn hA) k180 ?_)
 intro y w hy hw
 refine WL.e (el_len sl94 hy)<|WL.e e_move<|WL.next<|WP.block<|WP.loopK (fun (x:Nat × UInt32)=>[(11,.int .i64 x.1),(4,.int .u32 x.2.toNat)]) (fun (x:Nat × UInt32)=>cl r 260 [w.v,.bool false]::A::R) [(9,_),(10,_)] (fun (x:Nat × UInt32)=>x.1≤xs.length∧x.2=beN (xs.take x.1)) (fun (x:Nat × UInt32)=>xs.length - x.1) (0,0) (⟨Nat.zero_le _,by simp [beN]⟩) ?_
 rintro ⟨x,m⟩ ⟨hx1,hx2⟩
 simp only at hx1 hx2
 dsimp only
 refine WP.seq<|WP.reg<|WL.e e_lss<|WL.next<|WP.seq ?_
 refine WP.cond rfl (fun h2=>?_) (fun h2=>?_)
 ·have hlt:x < xs.length:=by simp at h2;omega
  obtain ⟨c,hc⟩:∃ c,xs[x]?=some c:=⟨_,List.getElem?_eq_getElem hlt⟩
  refine WP.skip<|PO.next<|WP.seq<|WP.block<|WP.seq<|WP.reg<|WL.e (el_ia sl94 hy hlt)<|WL.e (el_load0 a5 eB_ok hy hc)<|WL.e e_assign<|WL.next<|WP.reg<|WL.e e_move<|WL.e (e_shl32 (m:=8) (by decide))<|WL.e e_move<|WL.e (e_c8to32 (by rw [Tryz.underlying5];rfl) Tryz.underlying48)<|WL.e e_or32<|WL.e e_assign<|WL.nil<|PO.blockN<|PO.next<|WP.reg<|WL.e (e_add rfl rfl (w_i64 (by omega) (by omega)))<|WL.e e_move<|WL.nil ?_
  exact PO.againK (x+1,(m <<< 8) ||| c.toUInt32) ⟨by simp only;omega,by simp only;rw [take_snoc hc,beN_snoc,← hx2]⟩ (by simp only;omega)
 ·obtain rfl:m=beN xs:=by rw [hx2,List.take_of_length_le (by simp at h2;omega)]
  refine WP.exit<|PO.past nofun<|PO.round nofun<|PO.blockX<|PO.next<|WP.seq<|WP.reg<|WL.e e_move<|WL.e e_assign<|WL.next<|WP.ret ?_
  exact PO.fin Tryz.results115 (rv_tmp rv_nil) (hK w hw)
theorem rtext_spec {g:World} {A:HP} {r:Nat} {v:SV} {rest:List UInt8} (s:ByteArray) (hs:s.size < 256) (hA:RL A 1 eB v.v (textB s++rest)):Spec Tryz.prog g 114 [.pointer (some ⟨r,0,none⟩)] [cl r 260 [v.v,.bool false],A] fun K R=>∀ w:SV,RL A 1 eB w.v rest→K (.string s) (cl r 260 [w.v,.bool false]::A::R):=by
 refine Spec.intro Tryz.func114 rfl Tryz.ntmps114 rfl fun R K hK=>?_
 refine WP.seq<|WP.reg<|WL.e e_assign<|WL.next<|WP.seq<|WP.reg<|WL.e e_move<|WL.e e_move ?_
 refine WL.h (h_call (rnumber_spec (xs:=[UInt8.ofNat s.size]) (rest:=bytesOf s++rest) 1 rfl hA (by decide)) k115 ?_)
 intro w hw
 rw [beN_num1 _ hs]
 refine WL.e (e_conv (c:=(s.size:Int)) (by rw [Tryz.underlying48];rfl) Tryz.underlying3 rfl (w_i64 (by omega) (by omega))) ?_
 refine WL.h (h_call (take_spec (xs:=bytesOf s) (rest:=rest) s.size (bytesOf_len s) hw) k180 ?_)
 intro y w2 hy hw2
 refine WL.e (e_b2s Tryz.underlying94 Tryz.underlying5 Tryz.underlying9 hy)<|WL.e e_assign<|WL.next<|WP.ret ?_
 rw [textOf_bytes]
 exact PO.fin Tryz.results114 (rv_tmp rv_nil) (hK w2 hw2)
theorem chg1_spec {g:World} {A:HP} {r:Nat} {v:SV} {rest:List UInt8} (c:ChgM) (hc:chgOk c=true) (hA:RL A 1 eB v.v (chgB c++rest)):Spec Tryz.prog g 113 [.pointer (some ⟨r,0,none⟩)] [cl r 260 [v.v,.bool false],A] fun K R=>∀ w:SV,RL A 1 eB w.v rest→K c.v (cl r 260 [w.v,.bool false]::A::R):=by
 have hks:=chg_size hc
 refine Spec.intro Tryz.func113 rfl Tryz.ntmps113 rfl fun R K hK=>?_
 refine WP.seq<|WP.reg ?_
 refine WL.h (h_alloc z123 fun b1=>?_)
 refine WL.next<|WP.seq<|WP.reg<|WL.e e_move ?_
 refine WL.h (h_call (rtext_spec (rest:=[if c.gone then (1:UInt8) else 0]++(numB c.val 4++rest)) c.key hks (by have h0:=hA;simpa [chgB] using h0)) k114 ?_)
 intro w1 hw1
 refine WL.e (e_fa f123_0) ?_
 refine WL.h' (h_store s9 ?_)
 refine WL.next<|WP.seq<|WP.reg<|WL.e e_move ?_
 refine WL.h (h_call (rnumber_spec (xs:=[if c.gone then (1:UInt8) else 0]) (rest:=numB c.val 4++rest) 1 rfl hw1 (by decide)) k115 ?_)
 intro w2 hw2
 refine WL.e (e_eql32 (b:=1))<|WL.e (e_fa f123_2) ?_
 refine WL.h' (h_store s4 ?_)
 refine WL.next<|WP.seq<|WP.reg<|WL.e e_move ?_
 refine WL.h (h_call (rnumber_spec (xs:=numB c.val 4) (rest:=rest) 4 (numB_len _ _) hw2 (by decide)) k115 ?_)
 intro w3 hw3
 rw [beN_num4,gone_back c]
 refine WL.e (e_fa f123_1) ?_
 refine WL.h' (h_store s48 ?_)
 refine WL.next<|WP.seq<|WP.reg<|WL.e (e_loadN a123) ?_
 refine WL.h' (h_store s123 ?_)
 refine WL.next<|WP.ret ?_
 exact PO.fin Tryz.results113 (rv_cellN a123 rv_nil) (hK w3 hw3)
def GetJ (b4 b8 r:Nat) (y:Value):HP:=fun S=>∃ _:Unit,stars [cl b4 167 [y],cl b8 164 [.pointer (some ⟨r,0,none⟩)]] S
theorem get1_spec {g:World} {A:HP} {r b4 b8:Nat} {y:Value} {v:SV} {rest:List UInt8} (h1:∀ c rest (v:SV),chgOk c=true→RL A 1 eB v.v (chgB c++rest)→CallV Tryz.prog g y [.pointer (some ⟨r,0,none⟩)] [cl r 260 [v.v,.bool false],A] fun K R=>∀ w:SV,RL A 1 eB w.v rest→K c.v (cl r 260 [w.v,.bool false]::A::R)) (c:ChgM) (hc:chgOk c=true) (hA:RL A 1 eB v.v (chgB c++rest)):Spec Tryz.prog g 179 [.pointer (some ⟨b4,0,none⟩),.pointer (some ⟨b8,0,none⟩)] [GetJ b4 b8 r y,cl r 260 [v.v,.bool false],A] fun K R=>∀ w:SV,RL A 1 eB w.v rest→K c.v (GetJ b4 b8 r y::cl r 260 [w.v,.bool false]::A::R):=by
 refine Spec.intro Tryz.func179 rfl Tryz.ntmps179 rfl fun R K hK=>?_
 refine WP.opn (B:=fun _:Unit=>[cl b4 167 [y],cl b8 164 [.pointer (some ⟨r,0,none⟩)]]) (fun _ h=>h) fun _=>?_
 refine WP.seq<|WP.reg ?_
 refine WL.h (h_alloc z123 fun b1=>?_)
 refine WL.next<|WP.seq<|WP.reg<|WL.e (e_load a167)<|WL.e (e_load a164) ?_
 refine WL.h (h_cally (h1 c rest v hc hA) ?_)
 intro w hw
 refine WL.h' (h_store s123 ?_)
 refine WL.next<|WP.ret<|PO.cls (A:=GetJ b4 b8 r y) (B:=[cl b4 167 [y],cl b8 164 [.pointer (some ⟨r,0,none⟩)]]) (fun S h=>⟨(),h⟩) ?_
 exact PO.fin Tryz.results179 (rv_cellN a123 rv_nil) (hK w hw)
theorem several_spec {g:World} {A B:HP} {r:Nat} {y:Value} {v:SV} {l:List ChgM} (h2:∀ c rest (v:SV),chgOk c=true→RL A 1 eB v.v (chgB c++rest)→CallV Tryz.prog g y [] [B,cl r 260 [v.v,.bool false],A] fun K R=>∀ w:SV,RL A 1 eB w.v rest→K c.v (B::cl r 260 [w.v,.bool false]::A::R)) (hl:l.length≤4096) (hok:∀ c ∈ l,chgOk c=true) (hA:RL A 1 eB v.v (chgsB l)):Spec Tryz.prog g 178 [.pointer (some ⟨r,0,none⟩),y] [B,cl r 260 [v.v,.bool false],A] fun K R=>∀ a m c (w:SV),K (.slice a m c) (Sl 123 3 ChgM.c (.slice a m c) l::B::cl r 260 [w.v,.bool false]::A::R):=by
 have hln:(UInt32.ofNat l.length).toNat=l.length:=by rw [UInt32.toNat_ofNat'];exact Nat.mod_eq_of_lt (by omega)
 refine Spec.intro Tryz.func178 rfl Tryz.ntmps178 rfl fun R K hK=>?_
 refine WP.seq<|WP.reg<|WL.e e_assign<|WL.next<|WP.seq<|WP.seq<|WP.reg<|WL.e e_move ?_
 refine WL.h (h_call (rnumber_spec (xs:=numB (UInt32.ofNat l.length) 2) (rest:=l.flatMap chgB) 2 (numB_len _ _) hA (by decide)) k115 ?_)
 intro w hw
 rw [beN_num2 _ (by rw [hln];omega),hln]
 refine WL.e e_assign<|WL.next<|WP.block<|WP.nils 123 3 ChgM.c none ?_
 refine WP.loopK (fun (x:Nat × SV × SV)=>[(5,.int .u32 ((l.length - x.1:Nat):Int)),(4,x.2.1.v)]) (fun (x:Nat × SV × SV)=>Sl 123 3 ChgM.c x.2.1.v (l.take x.1)::B::cl r 260 [x.2.2.v,.bool false]::A::R) [(0,_),(1,_)] (fun (x:Nat × SV × SV)=>x.1≤l.length∧RL A 1 eB x.2.2.v ((l.drop x.1).flatMap chgB)) (fun (x:Nat × SV × SV)=>l.length - x.1) (0,⟨none,0,0⟩,w) (⟨Nat.zero_le _,hw⟩) ?_
 rintro ⟨i,w4,w⟩ ⟨hi,hw⟩
 simp only at hi hw
 dsimp only
 refine WP.seq<|WP.seq<|WP.reg<|WL.e e_move<|WL.e e_gtr<|WL.e e_move ?_
 refine WL.join 16 (.bool (decide (i < l.length))) (.c (.c (.c (.c (.c (.c .n)))))) ?_ ?_
 ·refine WL.bool 10 rfl (fun hg=>?_) (fun hg=>?_)
  ·skip
   refine WL.e e_move<|WL.e e_nil<|WL.e (e_fa f260_1)<|WL.e (e_load a4)<|WL.e e_not<|WL.e e_pick_t ?_
   exact WL.nil (PO.joined rfl (by rw [decide_eq_true_eq] at hg;simp;omega))
  ·skip
   refine WL.skip<|WL.skip<|WL.skip<|WL.skip<|WL.skip<|WL.e e_pick_f ?_
   exact WL.nil (PO.joined rfl (by rw [decide_eq_false_iff_not] at hg;simp;omega))
 refine WL.next ?_
 refine WP.cond rfl (fun h3=>?_) (fun h3=>?_)
 ·have hlt:i < l.length:=of_decide_eq_true h3
  obtain ⟨x,hx⟩:∃ x,l[i]?=some x:=⟨_,List.getElem?_eq_getElem hlt⟩
  rw [drop_cons hx,List.flatMap_cons] at hw
  refine WP.skip<|PO.next<|WP.seq<|WP.block<|WP.reg<|WL.e e_move<|WL.e e_move ?_
  refine WL.h (h_cally (h2 x ((l.drop (i+1)).flatMap chgB) w (hok x (List.mem_of_getElem? hx)) hw) ?_)
  intro w2 hw2
  refine WL.h (h_bs sl96 z123 (.a3 (.tmp 21) rfl<|.n) fun b1=>?_)
  refine WL.h (hl_append (xs:=l.take i) (ys:=[x]) sl96 chgE z123 (lit_rl chgE [x] rfl) (by simp;omega) (fun a2 n2 c2=>?_))
  rw [show l.take i++[x]=l.take (i+1) from (take_snoc hx).symm]
  refine WL.e e_assign<|WL.nil<|PO.blockN<|PO.next<|WP.reg<|WL.e e_move<|WL.e (e_sub (c:=((l.length - (i+1):Nat):Int)) rfl rfl (by rw [w_u32 (by omega) (by omega)];omega))<|WL.e e_assign<|WL.nil ?_
  exact PO.againK (i+1,⟨a2,n2,c2⟩,w2) ⟨by simp only;omega,hw2⟩ (by simp only;omega)
 ·replace h3:=of_decide_eq_false h3
  rw [List.take_of_length_le (show l.length≤i by omega)]
  refine WP.exit<|PO.past nofun<|PO.round nofun<|PO.blockX<|PO.next<|WP.seq<|WP.reg<|WL.e e_move<|WL.e e_assign<|WL.next<|WP.ret<|PO.sh (u:=w4.v) ?_
  rintro a1 n1 c1 e1
  exact PO.fin Tryz.results178 (rv_tmp rv_nil) (by have h9:=hK w4.a w4.n w4.c w;exact h9)
theorem rget_spec {g:World} {A:HP} {fn:Fn} {y2:Value} {v:SV} {l:List ChgM} (h1:∀ r c rest (v:SV),chgOk c=true→RL A 1 eB v.v (chgB c++rest)→CallV Tryz.prog g (.func fn #[] #[]) [.pointer (some ⟨r,0,none⟩)] [cl r 260 [v.v,.bool false],A] fun K R=>∀ w:SV,RL A 1 eB w.v rest→K c.v (cl r 260 [w.v,.bool false]::A::R)) (h3:∀ (l:List ChgM) (u:SV),l.length≤4096→l.all chgOk=true→CallV Tryz.prog g y2 [u.v] [Sl 123 3 ChgM.c u.v l] fun K R=>∀ a m c,K (.tuple #[.slice a m c,.int .i64 0]) (Sl 5 1 eB (.slice a m c) (chgsB l)::Sl 123 3 ChgM.c u.v l::R)) (hl:l.length≤4096) (hok:∀ c ∈ l,chgOk c=true) (hA:RL A 1 eB v.v (chgsB l)):Spec Tryz.prog g 112 [v.v,(.func fn #[] #[]),y2] [A] fun K R=>∀ a m c,K (.tuple #[.slice a m c,.int .i64 0]) (Sl 123 3 ChgM.c (.slice a m c) l::A::R):=by
 refine Spec.intro Tryz.func112 rfl Tryz.ntmps112 rfl fun R K hK=>?_
 refine WP.seq<|WP.reg ?_
 refine WL.h (h_box fun b1=>?_)
 refine WL.e e_assign<|WL.e e_assign<|WL.next<|WP.seq<|WP.reg<|WL.e e_move<|WL.e (e_build z260 p260 (.o (.tmp 12) rfl<|.z (.bool false)<|.n)) ?_
 refine WL.h (h_box fun b2=>?_)
 refine WL.h (h_alloc z164 fun b3=>?_)
 refine WL.h' (h_store s164 ?_)
 refine WL.next<|WP.seq<|WP.reg<|WL.e (e_load a164)<|WL.e e_makeFunc<|WL.cls (A:=GetJ b1 b3 b2 (.func fn #[] #[])) (B:=[cl b1 167 [(.func fn #[] #[])],cl b3 164 [.pointer (some ⟨b2,0,none⟩)]]) (fun S h=>⟨(),h⟩) ?_
 refine WL.h (h_call (several_spec (y:=.func (.func 179) #[] #[.pointer (some ⟨b1,0,none⟩),.pointer (some ⟨b3,0,none⟩)]) (fun c rest v hc hr=>CallV.of_spec (fs:=[]) (cs:=[.pointer (some ⟨b1,0,none⟩),.pointer (some ⟨b3,0,none⟩)]) (get1_spec (h1 b2) c hc hr) k179) hl hok hA) k178 ?_)
 intro a5 n5 c5 w
 refine WL.opn (B:=fun _:Unit=>[cl b1 167 [(.func fn #[] #[])],cl b3 164 [.pointer (some ⟨b2,0,none⟩)]]) (fun _ h=>h) fun _=>?_
 refine WL.e e_assign<|WL.next<|WP.seq<|WP.reg<|WL.e e_move<|WL.e e_move ?_
 refine WL.h (h_cally (h3 l ⟨a5,n5,c5⟩ hl (List.all_eq_true.2 hok)) ?_)
 intro a6 n6 c6
 refine WL.e e_move<|WL.e e_extract<|WL.e e_extract<|WL.e e_assign<|WL.e e_assign<|WL.next<|WP.seq<|WP.seq<|WP.reg<|WL.e (e_load a164)<|WL.e e_nil<|WL.e (e_fa f260_1)<|WL.e (e_load a4)<|WL.e e_move ?_
 refine WL.bool 28 rfl (fun y1=>?_) (fun y1=>?_)
 ·exact absurd y1 (by decide) 
 ·skip
  refine WL.e e_move<|WL.e e_neq<|WL.e e_pick_f<|WL.e e_move ?_
  refine WL.bool 32 rfl (fun y2=>?_) (fun y2=>?_)
  ·exact absurd y2 (by decide) 
  ·skip
   refine WL.e e_move<|WL.e e_move ?_
   refine WL.h (h_call (BEqual_spec hA (sl_rl (xs:=chgsB l))) k109 ?_)
   rw [beq_self_eq_true]
   refine WL.e e_not<|WL.e e_pick_f<|WL.next<|WP.cond_f rfl<|WP.skip<|PO.next<|WP.seq<|WP.reg<|WL.e e_move<|WL.e e_assign<|WL.e e_assign<|WL.next<|WP.ret ?_
   exact PO.fin Tryz.results112 (rv_tmp (rv_tmp rv_nil)) (hK a5 n5 c5)
theorem putc_call {g:World} (l:List ChgM) (u:SV) (h1:l.length≤4096) (h2:l.all chgOk=true):CallV Tryz.prog g (.func (.func 42) #[] #[]) [u.v] [Sl 123 3 ChgM.c u.v l] fun K R=>∀ a m c,K (.tuple #[.slice a m c,.int .i64 0]) (Sl 5 1 eB (.slice a m c) (chgsB l)::Sl 123 3 ChgM.c u.v l::R):=fun R K w r hw hT=>by
 have hcl:=(chgs_len l).2 fun c hc=>List.all_eq_true.1 h2 c hc
 have hn:l.length≤68719476736:=by omega
 have hb:2+(l.flatMap chgB).length≤68719476736:=by omega
 have hs:=PutChanges_spec (g:=g) (A:=Sl 123 3 ChgM.c u.v l) (u:=u.v) (l:=l) sl_rl hn hb
 have h:=CallV.of_spec (fs:=[]) (cs:=[]) (args:=[u.v]) hs k42
 exact h R K w r hw ⟨fun h=>absurd h (by rw [h2];simp),fun _ h=>absurd h1 h,fun _ _=>hT⟩
theorem GetChanges_spec {g:World} {A:HP} {v:SV} {l:List ChgM} (hl:l.length≤4096) (hok:∀ c ∈ l,chgOk c=true) (hA:RL A 1 eB v.v (chgsB l)):Spec Tryz.prog g 35 [v.v] [A] fun K R=>∀ a m c,K (.tuple #[.slice a m c,.int .i64 0]) (Sl 123 3 ChgM.c (.slice a m c) l::A::R):=by
 refine Spec.intro Tryz.func35 rfl Tryz.ntmps35 rfl fun R K hK=>?_
 refine WP.seq<|WP.reg<|WL.e e_assign<|WL.e e_assign<|WL.next<|WP.seq<|WP.reg<|WL.e e_move ?_
 refine WL.h (h_call (rget_spec (fn:=.func 113) (y2:=.func (.func 42) #[] #[]) (fun r c rest v hc hr=>CallV.of_spec (fs:=[]) (cs:=[]) (chg1_spec c hc hr) k113) putc_call hl hok hA) k112 ?_)
 intro a m c
 refine WL.e e_extract<|WL.e e_extract<|WL.e e_assign<|WL.e e_assign<|WL.next<|WP.ret ?_
 exact PO.fin Tryz.results35 (rv_tmp (rv_tmp rv_nil)) (hK a m c)
end Go.SL
namespace Go.SL
open Go
theorem own_to3 {S:Piece} {E z n i:Nat} {u:Value} {cs:List Value} (h:Own E z u n cs S) (hi:i≤n):Own E z (subV u 0 i (some i) z) i (cs.take (i * z)) S:=by
  rcases h with ⟨rfl,h2,a,h3⟩ | ⟨b,o,c,l,rfl,h2,h3,h4,h5,h6⟩
  · have:i=0:=by omega
    subst this;subst h2;subst h3
    exact .inl ⟨rfl,by simp,a,by simp [subV]⟩
  · rcases Nat.eq_zero_or_pos i with rfl | h0
    · exact .inl ⟨rfl,by simp,_,by simp [subV];rfl⟩
    · have e1:i * z≤c * z:=Nat.mul_le_mul_right z (by omega)
      refine .inr ⟨b,o,i,l,?_,Nat.le_refl _,by omega,h4,by omega,?_⟩
      · simp only [subV,Option.getD_some,if_neg (show ¬ i=0 by omega),Option.map_some,Nat.zero_mul,add_none,Nat.sub_zero,Nat.add_zero]
      · rw [h6,List.take_take,Nat.min_eq_left (Nat.mul_le_mul_right _ hi)]
theorem sl_to3 {α:Type} {S:Piece} {E z i:Nat} {u:Value} {enc:α→List Value} {xs:List α} (he:EncOk z enc) (h:Sl E z enc u xs S) (hi:i≤xs.length):Sl E z enc (subV u 0 i (some i) z) (xs.take i) S:=by
  have:=own_to3 h hi
  unfold Sl
  rw [List.length_take,Nat.min_eq_left hi,← flat_take he];exact this
end Go.SL
