import Derived.Test.YtmeoolijekillaaGreatDoorQL17
set_option linter.unusedSimpArgs false
set_option linter.unusedVariables false
set_option linter.unusedSectionVars false
namespace Go.SL
open Go
theorem setU_ids' {ts:List TxT} {n:UInt32} {x:TX}:∀ t ∈ setU ts n x,∃ u ∈ ts,t.id=u.id:=setU_ex
theorem StOk.waits {s s':StV} {b:Nat} (h:StOk s b) {n:UInt32} {t:TxT} (hf:findU s.txs n=some t) (ws:List UInt32) (hd:s'.d=s.d) (ha:s'.at_=s.at_) (hH:s'.H=s.H) (ht:s'.txs=setU s.txs n { t.x with waits:=ws }):StOk s' b:=by
  obtain ⟨hid,A,B,hts,hdel,hA⟩:=findU_mid hf
  have e:s'.txs=A++{ t with x:={ t.x with waits:=ws } }::B:=by rw [ht,← hid,hts];exact setU_mid (hts ▸ h.ids) _
  refine ⟨by rw [hd,ha,hH];exact h.log,by rw [hH];exact h.recs,?_,by rw [hH];exact h.hl,by rw [ht,setU_ids];exact h.ids,?_,?_,by rw [ht];simp only [setU,List.length_map];exact h.tl,h.bb⟩
  · rw [hH,e];have:=h.sum;rw [hts] at this;simpa using this
  · rw [e];intro y hy
    rcases List.mem_append.1 hy with hy | hy
    · exact h.own y (by rw [hts];simp [hy])
    · rcases List.mem_cons.1 hy with rfl | hy
      · exact h.own t (findU_mem hf)
      · exact h.own y (by rw [hts];simp [hy])
  · rw [e];intro y hy
    rcases List.mem_append.1 hy with hy | hy
    · exact h.lks y (by rw [hts];simp [hy])
    · rcases List.mem_cons.1 hy with rfl | hy
      · exact h.lks t (findU_mem hf)
      · exact h.lks y (by rw [hts];simp [hy])
structure AlphaOk (s:StV) (b:Nat):Prop where
  st:StOk s b
  keys:(s.locks.map (·.1)).Nodup
  compat:∀ a c la lc,getS s.locks a=some la→getS s.locks c=some lc→a≠c→∀ l ∈ la,∀ m ∈ lc,(l.alone || m.alone)=true→meet l.s m.s=false
  opn:∀ e ∈ s.locks,∃ t ∈ s.txs,t.id=e.1
  tot:totL s.locks≤2 * b
  waits:∀ t ∈ s.txs,t.x.waits.length≤2 * b
  nz:∀ t ∈ s.txs,t.id≠0
def VA (s:StV) (o:Og):Prop:=∀ t ∈ s.txs,t.x.own=chs (o t.id).1∧(∀ x ∈ (o t.id).1,opOk x=true)∧(runM s.rows (o t.id).1).1=(o t.id).2 ∧
  ∀ x ∈ (o t.id).1,meet (spanOf x) (spanOf x)=true→∃ ls,getS s.locks t.id=some ls∧∃ l ∈ ls,l.s=spanOf x∧(writes x=true→l.alone=true)
def lkS (s:StV) (n:UInt32) (p:SpanM) (w:Bool):LkT:=if meet p p then lockS s.locks n p w else s.locks
theorem lkS_facts {s:StV} {b:Nat} (h:AlphaOk s b) {n:UInt32} {t:TxT} (hf:findU s.txs n=some t) {p:SpanM} {w:Bool} (hno:meet p p=true→wayL s.locks n p w=[]) :
    ((lkS s n p w).map (·.1)).Nodup ∧
    (∀ a c la lc,getS (lkS s n p w) a=some la→getS (lkS s n p w) c=some lc→a≠c→∀ l ∈ la,∀ m ∈ lc,(l.alone || m.alone)=true→meet l.s m.s=false) ∧
    (∀ e ∈ lkS s n p w,∃ t ∈ s.txs,t.id=e.1)∧totL (lkS s n p w)≤2 * (b+1) ∧
    (meet p p=true→∃ ls,getS (lkS s n p w) n=some ls∧∃ l ∈ ls,l.s=p∧(w=true→l.alone=true)) ∧
    (∀ k ls,getS s.locks k=some ls→∃ ls',getS (lkS s n p w) k=some ls'∧∀ l ∈ ls,∃ m ∈ ls',m.s=l.s∧(l.alone=true→m.alone=true)):=by
  unfold lkS
  have ht:=h.tot
  split
  · rename_i hm
    have hno:=hno hm
    have hget:∀ j,getS (lockS s.locks n p w) j=if j=n then some (askL ((getS s.locks n).getD []) p w) else getS s.locks j:=fun j=>setS_get _ _ _ j
    have hnew:∀ c lc,getS s.locks c=some lc→c≠n→∀ l ∈ askL ((getS s.locks n).getD []) p w,∀ m ∈ lc,(l.alone || m.alone)=true→meet l.s m.s=false:=by
      intro c lc hc hcn l hl m hmm ha
      have hold:∀ k ∈ (getS s.locks n).getD [],(k.alone || m.alone)=true→meet k.s m.s=false:=by
        intro k hk
        cases hg:getS s.locks n with
        | none=>rw [hg] at hk;cases hk
        | some ls=>rw [hg] at hk;exact h.compat n c ls lc hg hc (fun e=>hcn e.symm) k hk m hmm
      rcases askL_mem hl with hl | ⟨hls,hla⟩
      · exact hold l hl ha
      · rw [hls]
        rw [Bool.or_eq_true] at ha
        rcases ha with ha | ha
        · rcases hla ha with hw | ⟨k,hk,hks,hka⟩
          · rw [meet_comm];exact way_no h.keys hno hcn hc hmm (by rw [hw];rfl)
          · rw [← hks];exact hold k hk (by rw [hka];rfl)
        · rw [meet_comm];exact way_no h.keys hno hcn hc hmm (by rw [ha];simp)
    refine ⟨setS_nodup h.keys _ _,?_,?_,?_,?_,?_⟩
    · intro a c la lc ha hc hac l hl m hmm hal
      rw [hget] at ha hc
      by_cases e1:a=n
      · subst e1
        rw [if_pos rfl] at ha;cases ha
        rw [if_neg (fun e=>hac e.symm)] at hc
        exact hnew c lc hc (fun e=>hac e.symm) l hl m hmm hal
      · rw [if_neg e1] at ha
        by_cases e2:c=n
        · subst e2
          rw [if_pos rfl] at hc;cases hc
          rw [meet_comm]
          exact hnew a la ha e1 m hmm l hl (by rw [Bool.or_comm];exact hal)
        · rw [if_neg e2] at hc
          exact h.compat a c la lc ha hc hac l hl m hmm hal
    · intro e he
      have:=(setS_keys s.locks n (askL ((getS s.locks n).getD []) p w) e.1).1 (List.mem_map.2 ⟨e,he,rfl⟩)
      rcases this with h1 | h1
      · exact ⟨t,findU_mem hf,(findU_mid hf).1.trans h1.symm⟩
      · obtain ⟨e',he',h2⟩:=List.mem_map.1 h1
        obtain ⟨u,hu,h3⟩:=h.opn e' he'
        exact ⟨u,hu,h3.trans h2⟩
    · have:=totL_set s.locks n (askL ((getS s.locks n).getD []) p w) (askL_len _ _ _)
      show totL (setS _ _ _)≤_
      omega
    · intro _
      exact ⟨_,by rw [hget,if_pos rfl],askL_new _ _ _⟩
    · intro k ls hk
      by_cases e:k=n
      · subst e
        refine ⟨_,by rw [hget,if_pos rfl],fun l hl=>?_⟩
        rw [hk]
        exact askL_old hl
      · exact ⟨ls,by rw [hget,if_neg e];exact hk,fun l hl=>⟨l,hl,rfl,fun h=>h⟩⟩
  · rename_i hm
    exact ⟨h.keys,h.compat,h.opn,by omega,fun h=>absurd h hm,fun k ls hk=>⟨ls,hk,fun l hl=>⟨l,hl,rfl,fun h=>h⟩⟩⟩
theorem AlphaOk.mono {s:StV} {b c:Nat} (h:AlphaOk s b) (hb:b≤c) (hc:c≤1000000000):AlphaOk s c:=⟨h.st.mono hb hc,h.keys,h.compat,h.opn,by have:=h.tot;omega,fun t ht=>by have:=h.waits t ht;omega,h.nz⟩
theorem AlphaOk.ends {s:StV} {b:Nat} (h:AlphaOk s b) (n:UInt32):AlphaOk (endsA s n) b:=by
  refine ⟨h.st.sub rfl rfl rfl delU_sub,?_,?_,?_,Nat.le_trans (totL_free _ _) h.tot,fun t ht=>h.waits t (delU_sub.mem ht),fun t ht=>h.nz t (delU_sub.mem ht)⟩
  · exact h.keys.sublist (List.eraseP_sublist.map _)
  · intro a c la lc ha hc
    have ha:getS (freeL s.locks n) a=some la:=ha
    have hc:getS (freeL s.locks n) c=some lc:=hc
    rw [freeL_get h.keys] at ha hc
    split at ha
    · cases ha
    · split at hc
      · cases hc
      · exact h.compat a c la lc ha hc
  · intro e he
    have he:e ∈ freeL s.locks n:=he
    obtain ⟨t,ht,h1⟩:=h.opn e (List.eraseP_sublist.mem he)
    have hne:e.1≠n:=by
      intro e1
      have hnd:((freeL s.locks n).map (·.1)).Nodup:=h.keys.sublist (List.eraseP_sublist.map _)
      have:=getS_mem hnd he
      rw [freeL_get h.keys,if_pos e1] at this;cases this
    refine ⟨t,?_,h1⟩
    show t ∈ delU s.txs n
    cases hf:findU s.txs n with
    | none=>
      have:delU s.txs n=s.txs:=by
        unfold delU
        rw [List.eraseP_of_forall_not (fun y hy=>by have:=findU_no hf y hy;simpa using this)]
      rw [this];exact ht
    | some u=>
      obtain ⟨hid,A,B,hts,hdel,_⟩:=findU_mid hf
      rw [hdel]
      rw [hts] at ht
      rcases List.mem_append.1 ht with ht | ht
      · simp [ht]
      · rcases List.mem_cons.1 ht with rfl | ht
        · exact absurd (h1.symm.trans hid) hne
        · simp [ht]
theorem AlphaOk.beg {s:StV} {b:Nat} (h:AlphaOk s b) (n:UInt32) (q:Nat):AlphaOk (begS s n q) b:=by
  have hs:=h.st.beg n q
  have hl:(begS s n q).locks=s.locks:=by unfold begS;split <;> rfl
  have hm:∀ t ∈ s.txs,t ∈ (begS s n q).txs:=by unfold begS;split <;> simp +contextual
  refine ⟨hs,by rw [hl];exact h.keys,by rw [hl];exact h.compat,by rw [hl];exact fun e he=>let ⟨t,ht,h1⟩:=h.opn e he;⟨t,hm t ht,h1⟩,by rw [hl];exact h.tot,?_,?_⟩
  · unfold begS
    split
    · intro t ht
      rcases List.mem_append.1 ht with ht | ht
      · exact h.waits t ht
      · simp at ht;subst ht;simp [begT]
    · exact h.waits
  · unfold begS
    split
    · rename_i hE
      intro t ht
      rcases List.mem_append.1 ht with ht | ht
      · exact h.nz t ht
      · simp at ht;subst ht
        intro e
        have e:n=0:=e
        simp [begE,e] at hE
    · exact h.nz
theorem AlphaOk.com {s:StV} {b:Nat} (h:AlphaOk s b) (hb:b+1≤1000000000) (n:UInt32):AlphaOk (comS alphaI s n) (b+1):=by
  have hm:=h.mono (Nat.le_succ b) hb
  unfold comS
  cases hf:findU s.txs n with
  | none=>exact hm
  | some t=>
    simp only
    split
    · exact hm.ends n
    · split
      · rename_i hfit
        have he:=hm.ends n
        exact ⟨hm.st.add hf he.st rfl rfl rfl rfl (by have:=h.st.hl;omega) hfit,he.keys,he.compat,he.opn,he.tot,he.waits,he.nz⟩
      · exact hm.ends n
theorem mem_setU_opn {s:StV} {n:UInt32} {x:TX} {k:UInt32} (h:∃ t ∈ s.txs,t.id=k):∃ t ∈ setU s.txs n x,t.id=k:=by
  obtain ⟨t,ht,h1⟩:=h
  have:k ∈ (setU s.txs n x).map (·.id):=by rw [setU_ids];exact List.mem_map.2 ⟨t,ht,h1⟩
  obtain ⟨u,hu,h2⟩:=List.mem_map.1 this
  exact ⟨u,hu,h2⟩
theorem nz_set {ts:List TxT} {n:UInt32} {x:TX} (h:∀ t ∈ ts,t.id≠0):∀ t ∈ setU ts n x,t.id≠0:=fun t ht=>by
  obtain ⟨u,hu,e⟩:=setU_ids' t ht
  rw [e];exact h u hu
theorem AlphaOk.upd {s:StV} {b:Nat} (h:AlphaOk s b) (hb:b+1≤1000000000) {n:UInt32} {t:TxT} (hf:findU s.txs n=some t) {p:SpanM} {w:Bool} (hno:meet p p=true→wayL s.locks n p w=[]) {own:List ChgM} (ho:own=t.x.own∨∃ c,chgOk c=true∧own=t.x.own++[c]) :
    AlphaOk { s with locks:=lkS s n p w,txs:=setU s.txs n { t.x with own:=own,waits:=[] } } (b+1):=by
  obtain ⟨k1,k2,k3,k4,_,_⟩:=lkS_facts h hf hno
  obtain ⟨hid,_⟩:=findU_mid hf
  refine ⟨h.st.upd (x:={ t.x with own:=own,waits:=[] }) hb (findU_mem hf) rfl rfl rfl (by rw [hid]) ho (Nat.le_succ_of_le (h.st.lks t (findU_mem hf))),k1,k2,fun e he=>mem_setU_opn (k3 e he),k4,fun u hu=>?_,nz_set h.nz⟩
  rcases setU_mem hu with ⟨v,hv,hvi,rfl⟩ | ⟨hu,_⟩
  · exact Nat.zero_le _
  · have:=h.waits u hu;omega
theorem VA.same {s s':StV} {o:Og} (h:VA s o) (hr:s'.H=s.H) (hl:s'.locks=s.locks) (ht:∀ t ∈ s'.txs,∃ u ∈ s.txs,t.id=u.id∧t.x.own=u.x.own):VA s' o:=fun t htt=>by
  obtain ⟨u,hu,h1,h2⟩:=ht t htt
  obtain ⟨k1,k2,k3,k4⟩:=h u hu
  have hR:s'.rows=s.rows:=by unfold StV.rows;rw [hr]
  rw [h1,h2,hR,hl]
  exact ⟨k1,k2,k3,k4⟩
theorem VA.ends {s:StV} {b:Nat} (h:AlphaOk s b) {o:Og} (hv:VA s o) (n:UInt32):VA (endsA s n) o:=fun t ht=>by
  obtain ⟨k1,k2,k3,k4⟩:=hv t (delU_sub.mem ht)
  refine ⟨k1,k2,k3,fun x hx hm=>?_⟩
  obtain ⟨ls,h1,h2⟩:=k4 x hx hm
  refine ⟨ls,?_,h2⟩
  show getS (freeL s.locks n) t.id=_
  rw [freeL_get h.keys,if_neg (delU_no h.st.ids n t ht)];exact h1
theorem alp_first:AlphaOk stF 0:=⟨st0_first,by simp [stF,st0],by simp [stF,st0,getS],by simp [stF,st0],by decide,by simp [stF,st0],by simp [stF,st0]⟩
end Go.SL
namespace Go.SL
open Go Go.Proofs
section
variable {α : Type}
theorem ents_keyU {E z:Nat} {enc:α→List Value} {es:List (EntV UInt32 α)} (k:UInt32):RL (Ents E z enc es) z enc (svE es k).v (wsE es k):=by
  cases hf:findE es k with
  | none=>
    unfold svE wsE
    rw [hf]
    exact nil_rl
  | some e=>
    unfold svE wsE
    rw [hf]
    exact ents_rl (findE_key hf).1
theorem wsE_set (es:List (EntV UInt32 α)) (k:UInt32) (sv:SV) (ws:List α) (j:UInt32):wsE (setE es k sv ws) j=if j=k then ws else wsE es j:=by
  rw [wsE_st,setE_st,setS_get,wsE_st]
  split <;> rfl
theorem findE_ws {es:List (EntV UInt32 α)} {k:UInt32} (h:findE es k=none):wsE es k=[]:=by unfold wsE;rw [h]
variable {P : Program} {g : World} {Γ : Env} {L M : List HP} {dst : Option Tmp} {t : TypeId} {pos : String} {aft : Array Edge} {gd : Option (Nat × Bool)}
theorem eu_look {m:Value} {d:TypeDesc} {kt:TypeId} {es:List (EntV UInt32 α)} {x i:Operand} {T e:TypeId} {k:UInt32} (ht:P.underlying T=some (.map kt e)) (hk:KeyOk P kt d eU32) (hz:(P.info? e).bind (·.zero)=some (.slice none 0 0)) (hx:ev Γ x=some m:=by rfl) (hi:ev Γ i=some (.int .u32 k.toNat):=by rfl) (hp:Pick L (Mp eU32 m (es.map kvE)) M:=by repeat first | exact .z | apply Pick.s) :
    EO P g ⟨dst,.lookup T x i false,t,pos,aft,gd⟩ Γ L (svE es k).v:=mget_svE es k ▸ em_lookup ht hk hz mp_rdm hx hi hp
theorem eu_look2 {m:Value} {d:TypeDesc} {kt:TypeId} {es:List (EntV UInt32 α)} {x i:Operand} {T e:TypeId} {k:UInt32} (ht:P.underlying T=some (.map kt e)) (hk:KeyOk P kt d eU32) (hz:(P.info? e).bind (·.zero)=some (.slice none 0 0)) (hx:ev Γ x=some m:=by rfl) (hi:ev Γ i=some (.int .u32 k.toNat):=by rfl) (hp:Pick L (Mp eU32 m (es.map kvE)) M:=by repeat first | exact .z | apply Pick.s) :
    EO P g ⟨dst,.lookup T x i true,t,pos,aft,gd⟩ Γ L (.tuple #[(svE es k).v,.bool (findE es k).isSome]):=by
  have h:=em_lookup2 (P:=P) (g:=g) (Γ:=Γ) (dst:=dst) (t:=t) (pos:=pos) (aft:=aft) (gd:=gd) (x:=x) (i:=i) (k:=k) ht hk hz mp_rdm hx hi hp
  rw [mget_svE,mget_kvE] at h
  rw [show ((findE es k).map fun e=>e.sv.v).isSome=(findE es k).isSome by cases findE es k <;> rfl] at h
  exact h
end
def EdgeL (fs ts:List UInt32) (i:Nat) (x y:UInt32):Prop:=∃ j,j < i∧fs[j]?=some x∧ts[j]?=some y
structure AllOk (es:List (EntV UInt32 UInt32)) (fs ts:List UInt32) (i:Nat):Prop where
  mem:∀ x y,y ∈ wsE es x↔EdgeL fs ts i x y
  len:∀ x,(wsE es x).length≤i
theorem AllOk.init (fs ts:List UInt32):AllOk [] fs ts 0:=⟨fun x y=>by simp [wsE,findE,EdgeL],fun x=>by simp [wsE,findE]⟩
theorem AllOk.step {es:List (EntV UInt32 UInt32)} {fs ts:List UInt32} {i:Nat} (h:AllOk es fs ts i) {x y:UInt32} (hx:fs[i]?=some x) (hy:ts[i]?=some y) (sv:SV):AllOk (setE es x sv (wsE es x++[y])) fs ts (i+1):=by
  refine ⟨fun a b=>?_,fun a=>?_⟩
  · rw [wsE_set]
    have hE:EdgeL fs ts (i+1) a b↔EdgeL fs ts i a b∨(a=x∧b=y):=by
      constructor
      · rintro ⟨j,hj,h1,h2⟩
        rcases Nat.lt_or_ge j i with hlt | hge
        · exact .inl ⟨j,hlt,h1,h2⟩
        · obtain rfl:j=i:=by omega
          rw [hx] at h1;rw [hy] at h2;cases h1;cases h2
          exact .inr ⟨rfl,rfl⟩
      · rintro (⟨j,hj,h1,h2⟩ | ⟨rfl,rfl⟩)
        · exact ⟨j,by omega,h1,h2⟩
        · exact ⟨i,by omega,hx,hy⟩
    rw [hE,← h.mem]
    by_cases e:a=x
    · subst e;rw [if_pos rfl];simp
    · rw [if_neg e];simp [e]
  · rw [wsE_set]
    have:=h.len a;have:=h.len x
    split
    · simp;omega
    · omega
theorem AllOk.nil {es:List (EntV UInt32 UInt32)} {fs ts:List UInt32} {i:Nat} (h:AllOk es fs ts i) {y:UInt32} (hf:findE es y=none) (sv:SV):AllOk (setE es y sv []) fs ts i:=by
  have e:∀ a,wsE (setE es y sv []) a=wsE es a:=fun a=>by
    rw [wsE_set]
    split
    · rename_i e;rw [e,findE_ws hf]
    · rfl
  exact ⟨fun a b=>by rw [e];exact h.mem a b,fun a=>by rw [e];exact h.len a⟩
structure DfsOk (R:UInt32→UInt32→Prop) (whom:UInt32) (S N:List UInt32) (M:Nat) (ts:List UInt32):Prop where
  nd:S.Nodup
  fst:whom ∈ S
  can:∀ y ∈ S,Reach R whom y
  sub:∀ y ∈ N,y ∈ S
  all:∀ x ∈ S,x ∉ N→∀ y,R x y→y ∈ S
  mu:(ts.filter fun y=>decide (y ∉ S)).length+N.length≤M
structure DfsIn (R:UInt32→UInt32→Prop) (whom x:UInt32) (ws S N:List UInt32) (k M:Nat) (ts:List UInt32):Prop where
  nd:S.Nodup
  fst:whom ∈ S
  can:∀ y ∈ S,Reach R whom y
  sub:∀ y ∈ N,y ∈ S
  xin:x ∈ S
  all:∀ z ∈ S,z ∉ N→z≠x→∀ y,R z y→y ∈ S
  part:∀ y ∈ ws.take k,y ∈ S
  mu:(ts.filter fun y=>decide (y ∉ S)).length+N.length≤M
theorem Reach.closed {R:UInt32→UInt32→Prop} {a:UInt32} {S:List UInt32} (ha:a ∈ S) (hc:∀ x ∈ S,∀ y,R x y→y ∈ S) {b:UInt32} (h:Reach R a b):b ∈ S:=by
  induction h with
  | refl=>exact ha
  | tail _ h1 ih=>exact hc _ ih _ h1
theorem DfsOk.init (R:UInt32→UInt32→Prop) (whom:UInt32) (ts:List UInt32):DfsOk R whom [whom] [whom] (ts.length+1) ts:=
  ⟨by simp,by simp,fun y hy=>by simp at hy;subst hy;exact .refl,fun y h=>h,fun x hx hn=>absurd hx hn,by
    have:=List.length_filter_le (fun y=>decide (y ∉ [whom])) ts
    simp only [List.length_singleton];omega⟩
theorem DfsIn.old {R:UInt32→UInt32→Prop} {whom x:UInt32} {ws S N:List UInt32} {k M:Nat} {ts:List UInt32} (h:DfsIn R whom x ws S N k M ts) {y:UInt32} (hy:ws[k]?=some y) (hs:y ∈ S):DfsIn R whom x ws S N (k+1) M ts:=
  ⟨h.nd,h.fst,h.can,h.sub,h.xin,h.all,fun z hz=>by
    rw [take_snoc hy] at hz
    rcases List.mem_append.1 hz with hz | hz
    · exact h.part z hz
    · simp at hz;subst hz;exact hs,h.mu⟩
theorem filter_less {ts S:List UInt32} {y:UInt32} (hy:y ∈ ts) (hs:y ∉ S):(ts.filter fun z=>decide (z ∉ S++[y])).length+1≤(ts.filter fun z=>decide (z ∉ S)).length:=by
  induction ts with
  | nil=>cases hy
  | cons a ts ih=>
    have hle:(ts.filter fun z=>decide (z ∉ S++[y])).length≤(ts.filter fun z=>decide (z ∉ S)).length:=by
      clear ih hy
      induction ts with
      | nil=>simp
      | cons b ts ih=>
        simp only [List.filter_cons]
        by_cases h1:b ∈ S
        · simp [h1];simpa using ih
        · by_cases h2:b=y
          · subst h2;simp [h1];simp at ih;omega
          · simp [h1,h2];simpa using ih
    simp only [List.filter_cons]
    by_cases e:a=y
    · subst e
      simp [hs]
      simpa using hle
    · have hy':y ∈ ts:=by rcases List.mem_cons.1 hy with h | h;exact absurd h.symm e;exact h
      have ih:=ih hy'
      by_cases h1:a ∈ S
      · simp [h1];simpa using ih
      · simp [h1,e];simpa using ih
theorem DfsIn.push {R:UInt32→UInt32→Prop} {whom x:UInt32} {ws S N:List UInt32} {k M:Nat} {ts:List UInt32} (h:DfsIn R whom x ws S N k M ts) {y:UInt32} (hy:ws[k]?=some y) (hs:y ∉ S) (hR:R x y) (ht:y ∈ ts):DfsIn R whom x ws (S++[y]) (N++[y]) (k+1) M ts:=by
  refine ⟨?_,by simp [h.fst],fun z hz=>?_,fun z hz=>?_,by simp [h.xin],fun z hz hn hne w hw=>?_,fun z hz=>?_,?_⟩
  · rw [List.nodup_append]
    exact ⟨h.nd,by simp,fun a ha b hb e=>by simp at hb;subst hb;subst e;exact hs ha⟩
  · rcases List.mem_append.1 hz with hz | hz
    · exact h.can z hz
    · simp at hz;subst hz;exact (h.can x h.xin).tail hR
  · rcases List.mem_append.1 hz with hz | hz
    · exact List.mem_append_left _ (h.sub z hz)
    · exact List.mem_append_right _ hz
  · rcases List.mem_append.1 hz with hz | hz
    · exact List.mem_append_left _ (h.all z hz (fun hm=>hn (List.mem_append_left _ hm)) hne w hw)
    · exact absurd (List.mem_append_right N hz) hn
  · rw [take_snoc hy] at hz
    rcases List.mem_append.1 hz with hz | hz
    · exact List.mem_append_left _ (h.part z hz)
    · exact List.mem_append_right _ hz
  · have:=h.mu;have:=filter_less ht hs
    rw [List.length_append,List.length_singleton];omega
theorem DfsIn.done {R:UInt32→UInt32→Prop} {whom x:UInt32} {ws S N:List UInt32} {k M:Nat} {ts:List UInt32} (h:DfsIn R whom x ws S N k M ts) (hk:ws.length≤k) (hR:∀ y,R x y→y ∈ ws):DfsOk R whom S N M ts:=
  ⟨h.nd,h.fst,h.can,h.sub,fun z hz hn y hy=>by
    by_cases e:z=x
    · subst e;exact h.part y (by rw [List.take_of_length_le hk];exact hR y hy)
    · exact h.all z hz hn e y hy,h.mu⟩
def seenV (y:UInt32):UInt32 × Value:=(y,.int .i64 1)
theorem mget_seen (S:List UInt32) (y:UInt32):(mget (S.map seenV) y).getD (.int .i64 0)=.int .i64 (if y ∈ S then 1 else 0):=by
  unfold mget
  induction S with
  | nil=>simp
  | cons a S ih=>
    simp only [List.map_cons,List.find?_cons,seenV]
    by_cases e:a=y
    · simp [e]
    · have:¬ y=a:=fun h=>e h.symm
      simp only [e,decide_false]
      rw [ih]
      simp [this]
theorem mset_seen {S:List UInt32} {y:UInt32} (h:y ∉ S):mset (S.map seenV) y (.int .i64 1)=(S++[y]).map seenV:=by
  have h1:midx (S.map seenV) y=none:=by
    unfold midx
    rw [List.findIdx?_eq_none_iff]
    intro p hp
    obtain ⟨a,ha,rfl⟩:=List.mem_map.1 hp
    exact decide_eq_false fun e=>by
      have e:a=y:=e
      subst e;exact h ha
  simp [mset,h1,seenV]
section
variable {P : Program} {g : World} {Γ : Env} {L M : List HP} {dst : Option Tmp} {t : TypeId} {pos : String} {aft : Array Edge} {gd : Option (Nat × Bool)}
theorem eu_seen {m:Value} {d:TypeDesc} {kt:TypeId} {S:List UInt32} {x i:Operand} {T e:TypeId} {k:UInt32} (ht:P.underlying T=some (.map kt e)) (hk:KeyOk P kt d eU32) (hz:(P.info? e).bind (·.zero)=some (.int .i64 0)) (hx:ev Γ x=some m:=by rfl) (hi:ev Γ i=some (.int .u32 k.toNat):=by rfl) (hp:Pick L (Mp eU32 m (S.map seenV)) M:=by repeat first | exact .z | apply Pick.s) :
    EO P g ⟨dst,.lookup T x i false,t,pos,aft,gd⟩ Γ L (.int .i64 (if k ∈ S then 1 else 0)):=mget_seen S k ▸ em_lookup ht hk hz mp_rdm hx hi hp
end
end Go.SL
namespace Go.SL
open Go
structure DeedM where
  g:UInt32
  site:UInt8
  order:UInt32
  ops:SV
  res:SV
def DeedM.c (d:DeedM):List Value:=[.int .u32 d.g.toNat,.int .u8 d.site.toNat,.int .u32 d.order.toNat,d.ops.v,d.res.v]
theorem deedE:EncOk 5 DeedM.c:=⟨fun _=>rfl,fun _=>rfl⟩
def natC (n:Nat):List Value:=[.int .i64 n]
theorem natE:EncOk 1 natC:=⟨fun _=>rfl,fun _=>rfl⟩
def boolC (b:Bool):List Value:=[.bool b]
theorem boolE:EncOk 1 boolC:=⟨fun _=>rfl,fun _=>rfl⟩
def unitAt (l:List DeedM) (i:Nat):Nat:=match l[i]? with
  | none=>i
  | some d=>if d.g=0 then i else (l.findIdx? fun e=>decide (e.g=d.g)).getD i
def unitsM (l:List DeedM):List Nat:=(List.range l.length).map (unitAt l)
def dOkAt (l:List DeedM) (i:Nat):Bool:=match l[i]? with
  | none=>true
  | some d=>decide (1≤d.site.toNat∧d.site.toNat≤3) && !((l.take i).any fun e=>decide (e.site=d.site∧e.order=d.order))
def unitsOk (l:List DeedM):Bool:=(List.range l.length).all (dOkAt l)
theorem unitAt_find {l:List DeedM} {i:Nat} {d:DeedM} (h:l[i]?=some d) (hg:d.g≠0):∃ k e,k≤i∧l[k]?=some e∧e.g=d.g∧(l.findIdx? fun e=>decide (e.g=d.g))=some k∧unitAt l i=k:=by
  have hlt:=idx_lt h
  cases hf:l.findIdx? (fun e=>decide (e.g=d.g)) with
  | none=>
    have:=List.findIdx?_eq_none_iff.1 hf d (List.mem_of_getElem? h)
    simp at this
  | some k=>
    obtain ⟨hk,h1,h2⟩:=List.findIdx?_eq_some_iff_getElem.1 hf
    refine ⟨k,l[k],?_,List.getElem?_eq_getElem hk,by simpa using h1,rfl,by simp [unitAt,h,hg,hf]⟩
    rcases Nat.lt_or_ge i k with h3 | h3
    · have:=h2 i h3
      rw [List.getElem?_eq_getElem hlt] at h
      cases h
      simp at this
    · exact h3
theorem unitAt_le {l:List DeedM} {i:Nat} (h:i < l.length):unitAt l i≤i:=by
  have hx:l[i]?=some l[i]:=List.getElem?_eq_getElem h
  by_cases hg:l[i].g=0
  · simp [unitAt,hx,hg]
  · obtain ⟨k,e,h1,_,_,_,h2⟩:=unitAt_find hx hg
    omega
theorem unitAt_local {l:List DeedM} {i:Nat} {d:DeedM} (h:l[i]?=some d) (hg:d.g=0):unitAt l i=i:=by simp [unitAt,h,hg]
structure FirstOk (kvs:List (UInt32 × Value)) (l:List DeedM) (i:Nat):Prop where
  get:∀ g,g≠0→mget kvs g=((l.take i).findIdx? fun e=>decide (e.g=g)).map fun k=>.int .i64 (k:Nat)
def SeenOk (kvs:List ((UInt32 × UInt32) × Value)) (l:List DeedM) (i:Nat):Prop:=∀ s:UInt8,∀ o,mget kvs (s.toUInt32,o)=if (l.take i).any (fun e=>decide (e.site=s∧e.order=o)) then some (.int .i64 1) else none
theorem FirstOk.init (l:List DeedM):FirstOk [] l 0:=⟨fun g _=>by simp [mget]⟩
theorem SeenOk.init (l:List DeedM):SeenOk [] l 0:=fun s o=>by simp [mget]
theorem findIdx_snoc {l:List DeedM} {i:Nat} {d:DeedM} (h:l[i]?=some d) (p:DeedM→Bool):(l.take (i+1)).findIdx? p=((l.take i).findIdx? p).or (if p d then some i else none):=by
  have hlt:=idx_lt h
  rw [take_snoc h,List.findIdx?_append]
  congr 1
  by_cases e:p d=true
  · simp [List.findIdx?_cons,e];omega
  · simp [List.findIdx?_cons,e]
theorem FirstOk.put {kvs:List (UInt32 × Value)} {l:List DeedM} {i:Nat} {d:DeedM} (h:FirstOk kvs l i) (hd:l[i]?=some d) (hn:d.g=0∨mget kvs d.g=none):FirstOk (mset kvs d.g (.int .i64 (i:Nat))) l (i+1)∧unitAt l i=i:=by
  have hlt:=idx_lt hd
  constructor
  · refine ⟨fun g hg=>?_⟩
    rw [mget_mset,findIdx_snoc hd]
    by_cases e:g=d.g
    · subst e
      rw [if_pos rfl]
      rcases hn with hn | hn
      · exact absurd hn hg
      · rw [h.get _ hg,Option.map_eq_none_iff] at hn
        rw [hn];simp
    · rw [if_neg e,h.get _ hg]
      have:¬ d.g=g:=fun x=>e x.symm
      simp [this]
  · rcases hn with hn | hn
    · exact unitAt_local hd hn
    · by_cases hg:d.g=0
      · exact unitAt_local hd hg
      · rw [h.get _ hg,Option.map_eq_none_iff] at hn
        obtain ⟨k,e,h1,h2,h3,_,h5⟩:=unitAt_find hd hg
        rw [h5]
        rcases Nat.lt_or_ge k i with hk | hk
        · have:=List.findIdx?_eq_none_iff.1 hn e (List.mem_of_getElem? (i:=k) (by rw [List.getElem?_take_of_lt hk];exact h2))
          simp [h3] at this
        · omega
theorem FirstOk.keep {kvs:List (UInt32 × Value)} {l:List DeedM} {i:Nat} {d:DeedM} (h:FirstOk kvs l i) (hd:l[i]?=some d) (hg:d.g≠0) {v:Value} (hn:mget kvs d.g=some v):FirstOk kvs l (i+1)∧v=.int .i64 (unitAt l i:Nat):=by
  have hlt:=idx_lt hd
  have h0:=h.get _ hg
  rw [hn] at h0
  cases hf:(l.take i).findIdx? (fun e=>decide (e.g=d.g)) with
  | none=>rw [hf] at h0;cases h0
  | some k=>
    rw [hf] at h0
    constructor
    · refine ⟨fun g hg=>?_⟩
      rw [h.get _ hg,findIdx_snoc hd]
      by_cases e:d.g=g
      · subst e;rw [hf];simp
      · simp [e]
    · have h1:unitAt l i=k:=by
        simp only [unitAt,hd,if_neg hg]
        conv=>lhs;rw [← List.take_append_drop i l]
        rw [List.findIdx?_append,hf]
        rfl
      rw [h1]
      exact Option.some.inj h0
theorem SeenOk.step {kvs:List ((UInt32 × UInt32) × Value)} {l:List DeedM} {i:Nat} {d:DeedM} (h:SeenOk kvs l i) (hd:l[i]?=some d):SeenOk (mset kvs (d.site.toUInt32,d.order) (.int .i64 1)) l (i+1):=fun s o=>by
  rw [mget_mset,take_snoc hd,List.any_append,h s o]
  by_cases e:s=d.site∧o=d.order
  · obtain ⟨rfl,rfl⟩:=e
    simp
  · rw [if_neg (fun x=>e ⟨by
      have:=congrArg Prod.fst x
      simp only at this
      have h2:=congrArg UInt32.toNat this
      simp at h2
      exact UInt8.toNat_inj.1 h2,congrArg Prod.snd x⟩)]
    have:¬ (d.site=s∧d.order=o):=fun x=>e ⟨x.1.symm,x.2.symm⟩
    simp [this]
theorem units_step {l:List DeedM} {i:Nat} (h:(List.range i).all (dOkAt l)=true) (hi:dOkAt l i=true):(List.range (i+1)).all (dOkAt l)=true:=by
  rw [List.range_succ,List.all_append,h];simp [hi]
theorem units_bad {l:List DeedM} {i:Nat} {d:DeedM} (hd:l[i]?=some d) (hi:dOkAt l i=false):unitsOk l=false:=by
  refine List.all_eq_false.2 ⟨i,List.mem_range.2 (idx_lt hd),by simp [hi]⟩
theorem map_snoc {l:List DeedM} (i:Nat):(List.range (i+1)).map (unitAt l)=(List.range i).map (unitAt l)++[unitAt l i]:=by rw [List.range_succ,List.map_append];rfl
theorem units_ne {l:List DeedM} (h:unitsOk l=true) {i j:Nat} {d e:DeedM} (hd:l[i]?=some d) (he:l[j]?=some e) (hs:e.site=d.site) (ho:e.order=d.order):i=j:=by
  have key:∀ {i j:Nat} {d e:DeedM},l[i]?=some d→l[j]?=some e→e.site=d.site→e.order=d.order→¬ j < i:=by
    intro i j d e hd he hs ho hlt
    have:=List.all_eq_true.1 h i (List.mem_range.2 (idx_lt hd))
    simp only [dOkAt,hd,Bool.and_eq_true,Bool.not_eq_true'] at this
    have h2:=List.any_eq_false.1 this.2 e (List.mem_of_getElem? (i:=j) (by rw [List.getElem?_take_of_lt hlt];exact he))
    simp [hs,ho] at h2
  have h1:=key hd he hs ho
  have h2:=key he hd hs.symm ho.symm
  omega
def edgeB (l:List DeedM) (i k:Nat):Bool:=match l[i]?,l[k]? with
  | some a,some b=>decide (a.site=b.site) && decide (b.order < a.order) && decide (unitAt l i≠unitAt l k)
  | _,_=>false
def eRow (l:List DeedM) (i k:Nat):List (Nat × Nat):=(List.range k).flatMap fun j=>if edgeB l i j then [(unitAt l i,unitAt l j)] else []
def edgesM (l:List DeedM) (i k:Nat):List (Nat × Nat):=((List.range i).flatMap fun j=>eRow l j l.length)++eRow l i k
def allE (l:List DeedM):List (Nat × Nat):=edgesM l l.length 0
theorem edges_step (l:List DeedM) (i k:Nat):edgesM l i (k+1)=edgesM l i k++if edgeB l i k then [(unitAt l i,unitAt l k)] else []:=by
  unfold edgesM
  rw [show eRow l i (k+1)=eRow l i k++(if edgeB l i k then [(unitAt l i,unitAt l k)] else []) by unfold eRow;rw [List.range_succ,List.flatMap_append];simp,List.append_assoc]
theorem edges_next (l:List DeedM) (i:Nat):edgesM l (i+1) 0=edgesM l i l.length:=by
  unfold edgesM
  rw [List.range_succ,List.flatMap_append]
  simp [eRow]
theorem eRow_len (l:List DeedM) (i:Nat):∀ k,(eRow l i k).length≤k
  | 0=>by simp [eRow]
  | k+1=>by
    have:=eRow_len l i k
    unfold eRow at this ⊢
    rw [List.range_succ,List.flatMap_append,List.length_append]
    simp only [List.flatMap_cons,List.flatMap_nil,List.append_nil]
    by_cases e:edgeB l i k=true
    · rw [if_pos e];simp only [List.length_singleton];omega
    · rw [if_neg e];simp only [List.length_nil];omega
theorem edges_len (l:List DeedM) (i k:Nat):(edgesM l i k).length≤i * l.length+k:=by
  unfold edgesM
  rw [List.length_append]
  have h1:=eRow_len l i k
  have h2:∀ n,((List.range n).flatMap fun j=>eRow l j l.length).length≤n * l.length:=by
    intro n
    induction n with
    | zero=>simp
    | succ n ih=>
      rw [List.range_succ,List.flatMap_append,List.length_append]
      have:=eRow_len l n l.length
      simp only [List.flatMap_cons,List.flatMap_nil,List.append_nil]
      rw [Nat.succ_mul]
      omega
  have:=h2 i
  omega
theorem edges_mem {l:List DeedM} {i k:Nat} (hi:i≤l.length) (hk:k≤l.length) {u v:Nat} (h:(u,v) ∈ edgesM l i k):∃ i' k',i' < l.length∧k' < l.length∧edgeB l i' k'=true∧unitAt l i'=u∧unitAt l k'=v:=by
  have row:∀ {i k:Nat},(u,v) ∈ eRow l i k→∃ k',k' < k∧edgeB l i k'=true∧unitAt l i=u∧unitAt l k'=v:=by
    intro i k h
    obtain ⟨j,hj,h2⟩:=List.mem_flatMap.1 h
    by_cases e:edgeB l i j=true
    · rw [if_pos e] at h2
      simp only [List.mem_singleton,Prod.mk.injEq] at h2
      exact ⟨j,List.mem_range.1 hj,e,h2.1.symm,h2.2.symm⟩
    · rw [if_neg e] at h2;cases h2
  have lt:∀ {i k:Nat},edgeB l i k=true→i < l.length:=by
    intro i k h
    unfold edgeB at h
    split at h
    · rename_i h1 _;exact idx_lt h1
    · cases h
  unfold edgesM at h
  rcases List.mem_append.1 h with h | h
  · obtain ⟨j,hj,h2⟩:=List.mem_flatMap.1 h
    obtain ⟨k',h3,h4,h5,h6⟩:=row h2
    exact ⟨j,k',lt h4,h3,h4,h5,h6⟩
  · obtain ⟨k',h3,h4,h5,h6⟩:=row h
    exact ⟨i,k',lt h4,by omega,h4,h5,h6⟩
theorem allE_iff {l:List DeedM} {u v:Nat}:(u,v) ∈ allE l↔∃ i k,i < l.length∧k < l.length∧edgeB l i k=true∧unitAt l i=u∧unitAt l k=v:=by
  constructor
  · exact edges_mem (Nat.le_refl _) (Nat.zero_le _)
  · rintro ⟨i,k,hi,hk,he,rfl,rfl⟩
    unfold allE edgesM
    refine List.mem_append.2 (.inl (List.mem_flatMap.2 ⟨i,List.mem_range.2 hi,List.mem_flatMap.2 ⟨k,List.mem_range.2 hk,?_⟩⟩))
    rw [if_pos he];simp
theorem edge_lt {l:List DeedM} {i k u v:Nat} (hi:i≤l.length) (hk:k≤l.length) (h:(u,v) ∈ edgesM l i k):u < l.length∧v < l.length:=by
  obtain ⟨i',k',h1,h2,_,rfl,rfl⟩:=edges_mem hi hk h
  have:=unitAt_le h1
  have:=unitAt_le h2
  omega
def aheadM (E:List (Nat × Nat)) (u:Nat):List Nat:=(E.filter fun e=>decide (e.1=u)).map (·.2)
theorem ahead_snoc (E:List (Nat × Nat)) (u v w:Nat):aheadM (E++[(u,v)]) w=if w=u then aheadM E w++[v] else aheadM E w:=by
  unfold aheadM
  rw [List.filter_append,List.map_append]
  by_cases e:u=w
  · subst e;simp
  · rw [if_neg (fun x=>e x.symm)];simp [e]
theorem ahead_mem {E:List (Nat × Nat)} {u v:Nat}:v ∈ aheadM E u↔(u,v) ∈ E:=by
  unfold aheadM
  simp only [List.mem_map,List.mem_filter,decide_eq_true_eq,Prod.exists]
  constructor
  · rintro ⟨a,b,⟨h1,rfl⟩,rfl⟩;exact h1
  · intro h;exact ⟨u,v,⟨h,rfl⟩,rfl⟩
theorem ahead_len (E:List (Nat × Nat)) (u:Nat):(aheadM E u).length≤E.length:=by
  unfold aheadM
  rw [List.length_map]
  exact List.length_filter_le _ _
def no32 (u:Nat):UInt32:=UInt32.ofNat u+1
theorem no32_nat {u:Nat} (h:u < 1000000):(no32 u).toNat=u+1:=by
  unfold no32
  rw [UInt32.toNat_add,UInt32.toNat_ofNat']
  show (u % 2 ^ 32+1) % 2 ^ 32=u+1
  omega
def Stuck (R:UInt32→UInt32→Prop):Prop:=∃ S:List UInt32,S≠[]∧∀ x ∈ S,∃ y ∈ S,R x y
def Ranked (R:UInt32→UInt32→Prop) (rk:UInt32→Nat):Prop:=∀ x y,R x y→rk y < rk x
theorem Stuck.not {R:UInt32→UInt32→Prop} (h:Stuck R) {rk:UInt32→Nat} (hr:Ranked R rk):False:=by
  obtain ⟨S,hS,hx⟩:=h
  have key:∀ n x,x ∈ S→rk x≠n:=by
    intro n
    induction n using Nat.strongRecOn with
    | ind n ih=>
      intro x hxS e
      obtain ⟨y,hy,hR⟩:=hx x hxS
      exact ih (rk y) (by have:=hr x y hR;omega) y hy rfl
  cases S with
  | nil=>exact hS rfl
  | cons a S=>exact key _ a (by simp) rfl
def RelE (E:List (Nat × Nat)) (x y:UInt32):Prop:=∃ u v,(u,v) ∈ E∧x=no32 u∧y=no32 v
theorem edgeL_rel (E:List (Nat × Nat)) (x y:UInt32):EdgeL (E.map fun e=>no32 e.1) (E.map fun e=>no32 e.2) (E.map fun e=>no32 e.1).length x y↔RelE E x y:=by
  constructor
  · rintro ⟨j,hj,h1,h2⟩
    rw [List.getElem?_map] at h1 h2
    cases hE:E[j]? with
    | none=>rw [hE] at h1;cases h1
    | some e=>
      rw [hE] at h1 h2
      exact ⟨e.1,e.2,List.mem_of_getElem? hE,(Option.some.inj h1).symm,(Option.some.inj h2).symm⟩
  · rintro ⟨u,v,h,rfl,rfl⟩
    obtain ⟨j,hj⟩:=List.mem_iff_getElem?.1 h
    exact ⟨j,by rw [List.length_map];exact idx_lt hj,by rw [List.getElem?_map,hj];rfl,by rw [List.getElem?_map,hj];rfl⟩
def before (l:List DeedM) (a b:Nat):Prop:=∀ x y,l[a]?=some x→l[b]?=some y→x.site=y.site→x.order < y.order
def OutOk (l:List DeedM) (out:List Nat):Prop:=out.Perm (List.range l.length)∧out.Pairwise (before l)
def ofUnit (l:List DeedM) (u:Nat):List Nat:=(List.range l.length).filter fun i=>decide (unitAt l i=u)
def pickB (l:List DeedM) (us:List Nat) (u:Nat):Bool:=!decide (u ∈ us) && (aheadM (allE l) u).all fun v=>decide (v ∈ us)
structure OrdI (l:List DeedM) (us out:List Nat):Prop where
  perm:out.Perm ((List.range l.length).filter fun i=>decide (unitAt l i ∈ us))
  pw:out.Pairwise (before l)
  closed:∀ u ∈ us,∀ v ∈ aheadM (allE l) u,v ∈ us
theorem OrdI.init (l:List DeedM):OrdI l [] []:=⟨by simp,List.Pairwise.nil,fun u h=>by cases h⟩
theorem OrdI.len {l:List DeedM} {us out:List Nat} (h:OrdI l us out):out.length≤l.length:=by
  rw [h.perm.length_eq]
  have:=List.length_filter_le (fun i=>decide (unitAt l i ∈ us)) (List.range l.length)
  simpa using this
theorem OrdI.next {l:List DeedM} {us out:List Nat} (h:OrdI l us out) (hlt:out.length < l.length) {rk:Nat→Nat} (hr:∀ u v,(u,v) ∈ allE l→rk v < rk u):∃ j,(unitsM l).findIdx? (pickB l us)=some j∧j < l.length∧pickB l us (unitAt l j)=true:=by
  have h1:∃ i,i < l.length∧unitAt l i ∉ us:=by
    by_cases hc:∀ i < l.length,unitAt l i ∈ us
    · have:=h.perm.length_eq
      rw [List.filter_eq_self.2 (fun i hi=>by simpa using hc i (List.mem_range.1 hi)),List.length_range] at this
      omega
    · simp only [Classical.not_forall] at hc
      obtain ⟨i,h1,h2⟩:=hc
      exact ⟨i,h1,h2⟩
  have key:∀ n i,i < l.length→unitAt l i ∉ us→rk (unitAt l i)=n→∃ j,j < l.length∧pickB l us (unitAt l j)=true:=by
    intro n
    induction n using Nat.strongRecOn with
    | ind n ih=>
      intro i hi hn hrk
      by_cases hall:(aheadM (allE l) (unitAt l i)).all (fun v=>decide (v ∈ us))=true
      · exact ⟨i,hi,by simp [pickB,hn,hall]⟩
      · obtain ⟨v,hv,hvn⟩:∃ v ∈ aheadM (allE l) (unitAt l i),v ∉ us:=by
          simp only [List.all_eq_true,Classical.not_forall,decide_eq_true_eq] at hall
          obtain ⟨v,h1,h2⟩:=hall
          exact ⟨v,h1,h2⟩
        have hE:=ahead_mem.1 hv
        obtain ⟨_,k,_,hk,_,_,rfl⟩:=allE_iff.1 hE
        exact ih _ (by have:=hr _ _ hE;omega) k hk hvn rfl
  obtain ⟨i,hi,hn⟩:=h1
  obtain ⟨j,hj,hp⟩:=key _ i hi hn rfl
  cases hf:(unitsM l).findIdx? (pickB l us) with
  | none=>
    have:=List.findIdx?_eq_none_iff.1 hf (unitAt l j) (List.mem_map.2 ⟨j,List.mem_range.2 hj,rfl⟩)
    rw [this] at hp;cases hp
  | some k=>
    obtain ⟨hk,h2,_⟩:=List.findIdx?_eq_some_iff_getElem.1 hf
    have hkl:k < l.length:=by simpa [unitsM] using hk
    refine ⟨k,rfl,hkl,?_⟩
    simpa [unitsM] using h2
theorem filt_or {p q:Nat→Bool} (h:∀ a,p a=true→q a=false):∀ L:List Nat,(L.filter p++L.filter q).Perm (L.filter fun a=>p a || q a)
  | []=>by simp
  | a::L=>by
    have ih:=filt_or h L
    by_cases e1:p a=true
    · have e2:=h a e1
      simp only [List.filter_cons,e1,e2,Bool.true_or,Bool.or_false,if_true,Bool.false_eq_true,if_false,List.cons_append]
      exact ih.cons a
    · rw [Bool.not_eq_true] at e1
      by_cases e2:q a=true
      · simp only [List.filter_cons,e1,e2,Bool.false_or,if_true,Bool.false_eq_true,if_false]
        exact List.perm_middle.trans (ih.cons a)
      · rw [Bool.not_eq_true] at e2
        simp only [List.filter_cons,e1,e2,Bool.or_self,Bool.false_eq_true,if_false]
        exact ih
theorem OrdI.step {l:List DeedM} {us out zs:List Nat} (h:OrdI l us out) (ho:unitsOk l=true) {u:Nat} (hp:pickB l us u=true) (hz:zs.Perm (ofUnit l u)) (hs:zs.Pairwise (before l)):OrdI l (us++[u]) (out++zs):=by
  simp only [pickB,Bool.and_eq_true,Bool.not_eq_true',decide_eq_false_iff_not,List.all_eq_true,decide_eq_true_eq] at hp
  obtain ⟨hu,hall⟩:=hp
  refine ⟨?_,?_,?_⟩
  · refine (h.perm.append hz).trans ?_
    unfold ofUnit
    have h2:=filt_or (p:=fun i=>decide (unitAt l i ∈ us)) (q:=fun i=>decide (unitAt l i=u)) (fun a ha=>by
      simp only [decide_eq_true_eq] at ha
      simp only [decide_eq_false_iff_not]
      intro e;exact hu (e ▸ ha)) (List.range l.length)
    refine h2.trans (List.Perm.of_eq ?_)
    congr 1
    funext i
    simp
  · refine List.pairwise_append.2 ⟨h.pw,hs,fun a ha b hb=>?_⟩
    intro x y hx hy hsite
    have ha2:=(h.perm.mem_iff.1 ha)
    have hb2:=(hz.mem_iff.1 hb)
    simp only [ofUnit,List.mem_filter,List.mem_range,decide_eq_true_eq] at ha2 hb2
    have hne:unitAt l a≠unitAt l b:=fun e=>hu (by rw [← hb2.2,← e];exact ha2.2)
    have hlt:¬ y.order < x.order:=by
      intro hlt
      have hE:edgeB l a b=true:=by simp [edgeB,hx,hy,hsite,hlt,hne]
      have hm:(unitAt l a,unitAt l b) ∈ allE l:=allE_iff.2 ⟨a,b,ha2.1,hb2.1,hE,rfl,rfl⟩
      have:=h.closed _ ha2.2 _ (ahead_mem.2 hm)
      rw [hb2.2] at this
      exact hu this
    have hno:x.order≠y.order:=fun e=>by
      have:=units_ne ho hx hy hsite.symm e.symm
      exact hne (by rw [this])
    have hno2:x.order.toNat≠y.order.toNat:=fun e=>hno (UInt32.toNat_inj.1 e)
    rw [UInt32.lt_iff_toNat_lt] at hlt ⊢
    omega
  · intro w hw v hv
    rcases List.mem_append.1 hw with hw | hw
    · exact List.mem_append.2 (.inl (h.closed w hw v hv))
    · simp only [List.mem_singleton] at hw
      subst hw
      exact List.mem_append.2 (.inl (hall v hv))
theorem OrdI.full {l:List DeedM} {us out:List Nat} (h:OrdI l us out) (he:¬ out.length < l.length):OutOk l out:=by
  refine ⟨?_,h.pw⟩
  have hl:=h.len
  have h1:=h.perm.length_eq
  have h2:((List.range l.length).filter fun i=>decide (unitAt l i ∈ us))=List.range l.length:=by
    refine List.Sublist.eq_of_length_le List.filter_sublist ?_
    rw [List.length_range];omega
  rw [← h2]
  exact h.perm
theorem ofUnit_pos {l:List DeedM} {j:Nat} (hj:j < l.length):0 < (ofUnit l (unitAt l j)).length:=by
  refine List.length_pos_of_mem (a:=j) ?_
  simp [ofUnit,hj]
end Go.SL
namespace Go.SL
open Go
structure KeyW (es:List (EntV UInt32 UInt32)):Prop where
  nd:(es.map (·.key)).Nodup
  cl:∀ x y,y ∈ wsE es x→y ∈ es.map (·.key)
theorem KeyW.init:KeyW []:=⟨by simp,fun x y h=>by simp [wsE,findE] at h⟩
theorem setE_keys (es:List (EntV UInt32 UInt32)) (k:UInt32) (sv:SV) (ws:List UInt32) (j:UInt32):j ∈ (setE es k sv ws).map (·.key)↔j=k∨j ∈ es.map (·.key):=by
  rw [keys_st,setE_st,setS_keys,← keys_st]
theorem setE_nodup {es:List (EntV UInt32 UInt32)} (h:(es.map (·.key)).Nodup) (k:UInt32) (sv:SV) (ws:List UInt32):((setE es k sv ws).map (·.key)).Nodup:=by
  rw [keys_st,setE_st];exact setS_nodup (by rw [← keys_st];exact h) k ws
theorem findE_keys {es:List (EntV UInt32 UInt32)} {k:UInt32} (h:¬ findE es k=none):k ∈ es.map (·.key):=by
  cases hf:findE es k with
  | none=>exact absurd hf h
  | some e=>obtain ⟨h1,h2⟩:=findE_key hf;exact List.mem_map.2 ⟨e,h1,h2⟩
theorem wsE_keys {es:List (EntV UInt32 UInt32)} {x y:UInt32} (h:y ∈ wsE es x):x ∈ es.map (·.key):=findE_keys fun e=>by rw [findE_ws e] at h;cases h
theorem KeyW.old {es:List (EntV UInt32 UInt32)} (h:KeyW es) (x y:UInt32) (sv:SV) (hy:¬ findE (setE es x sv (wsE es x++[y])) y=none):KeyW (setE es x sv (wsE es x++[y])):=by
  refine ⟨setE_nodup h.nd _ _ _,fun a b hb=>?_⟩
  rw [wsE_set] at hb
  split at hb
  · rcases List.mem_append.1 hb with hb | hb
    · exact (setE_keys _ _ _ _ _).2 (.inr (h.cl _ _ hb))
    · simp only [List.mem_singleton] at hb
      subst hb
      exact findE_keys hy
  · exact (setE_keys _ _ _ _ _).2 (.inr (h.cl _ _ hb))
theorem KeyW.new {es:List (EntV UInt32 UInt32)} (h:KeyW es) (x y:UInt32) (sv sv':SV) (hy:findE (setE es x sv (wsE es x++[y])) y=none):KeyW (setE (setE es x sv (wsE es x++[y])) y sv' []):=by
  refine ⟨setE_nodup (setE_nodup h.nd _ _ _) _ _ _,fun a b hb=>?_⟩
  rw [setE_keys,setE_keys]
  rw [wsE_set] at hb
  split at hb
  · cases hb
  · rw [wsE_set] at hb
    split at hb
    · rcases List.mem_append.1 hb with hb | hb
      · exact .inr (.inr (h.cl _ _ hb))
      · simp only [List.mem_singleton] at hb
        exact .inl hb
    · exact .inr (.inr (h.cl _ _ hb))
theorem setE_len (es:List (EntV UInt32 UInt32)) (k:UInt32) (sv:SV) (ws:List UInt32):(setE es k sv ws).length≤es.length+1:=by
  unfold setE
  split
  · rw [List.length_set];omega
  · rw [List.length_append,List.length_singleton];omega
def idE2 (e:EntV UInt32 UInt32):List Value:=u32C e.key
theorem idE2E:EncOk 1 idE2:=⟨fun _=>rfl,fun _=>rfl⟩
structure TopO (es:List (EntV UInt32 UInt32)) (T ls:List UInt32):Prop where
  perm:(T++ls).Perm (es.map (·.key))
  nd:(T++ls).Nodup
  topo:∀ j x,T[j]?=some x→∀ y ∈ wsE es x,y ∈ T.take j
theorem TopO.init {es:List (EntV UInt32 UInt32)} (h:KeyW es) {ls:List UInt32} (hp:ls.Perm (es.map (·.key))):TopO es [] ls:=
  ⟨by simpa using hp,by rw [List.nil_append];exact hp.nodup_iff.2 h.nd,fun j x h=>by simp at h⟩
theorem TopO.step {es:List (EntV UInt32 UInt32)} {T ls:List UInt32} (h:TopO es T ls) {i:Nat} {x:UInt32} (hx:ls[i]?=some x) (hall:∀ y ∈ wsE es x,y ∈ T):TopO es (T++[x]) (ls.eraseIdx i):=by
  have hlt:=idx_lt hx
  have e1:ls=ls.take i++x::ls.drop (i+1):=by
    conv=>lhs;rw [← List.take_append_drop i ls,List.drop_eq_getElem_cons hlt]
    rw [List.getElem?_eq_getElem hlt] at hx
    rw [Option.some.inj hx]
  have hp:(T++[x]++ls.eraseIdx i).Perm (T++ls):=by
    rw [List.eraseIdx_eq_take_drop_succ,List.append_assoc]
    refine List.Perm.append_left T ?_
    conv=>rhs;rw [e1]
    exact (List.perm_middle (a:=x) (l₁:=ls.take i) (l₂:=ls.drop (i+1))).symm
  refine ⟨hp.trans h.perm,hp.nodup_iff.2 h.nd,fun j z hz y hy=>?_⟩
  rcases Nat.lt_or_ge j T.length with hj | hj
  · rw [List.getElem?_append_left hj] at hz
    rw [List.take_append_of_le_length (by omega)]
    exact h.topo j z hz y hy
  · have hj2:=idx_lt hz
    simp at hj2
    obtain rfl:j=T.length:=by omega
    rw [List.getElem?_append_right (Nat.le_refl _),Nat.sub_self] at hz
    simp at hz
    subst hz
    rw [List.take_append_of_le_length (Nat.le_refl _),List.take_length]
    exact hall y hy
theorem TopO.new {es:List (EntV UInt32 UInt32)} {T ls:List UInt32} (h:TopO es T ls) {i:Nat} {x:UInt32} (hx:ls[i]?=some x):x ∉ T:=fun hT=>by
  have:=(List.nodup_append.1 h.nd).2.2 x hT x (List.mem_of_getElem? hx)
  exact this rfl
theorem TopO.stuck {es:List (EntV UInt32 UInt32)} {T ls:List UInt32} (h:TopO es T ls) (hk:KeyW es) (h0:ls≠[]) (hall:∀ x ∈ ls,∃ y ∈ wsE es x,y ∉ T):Stuck fun x y=>y ∈ wsE es x:=by
  refine ⟨ls,h0,fun x hx=>?_⟩
  obtain ⟨y,hy,hn⟩:=hall x hx
  have:=h.perm.mem_iff.2 (hk.cl x y hy)
  rcases List.mem_append.1 this with h1 | h1
  · exact absurd h1 hn
  · exact ⟨y,h1,hy⟩
theorem TopO.rank {es:List (EntV UInt32 UInt32)} {T:List UInt32} (h:TopO es T []):∃ rk,Ranked (fun x y=>y ∈ wsE es x) rk:=by
  refine ⟨fun x=>T.idxOf x,fun x y hy=>?_⟩
  have hx:x ∈ T:=by
    have:=h.perm.mem_iff.2 (wsE_keys hy)
    simpa using this
  have hlt:=List.idxOf_lt_length_of_mem hx
  have hx2:T[T.idxOf x]?=some x:=by rw [List.getElem?_eq_getElem hlt];simp
  have h1:=h.topo _ _ hx2 y hy
  obtain ⟨j,hj⟩:=List.mem_iff_getElem?.1 h1
  have hj1:=idx_lt hj
  rw [List.length_take] at hj1
  rw [List.getElem?_take_of_lt (by omega)] at hj
  have:T.idxOf y≤j:=by
    have hjl:=idx_lt hj
    rcases Nat.lt_or_ge j (T.idxOf y) with h2 | h2
    · exfalso
      have h3:=List.not_of_lt_findIdx (p:=(· == y)) (xs:=T) h2
      rw [List.getElem?_eq_getElem hjl] at hj
      rw [Option.some.inj hj] at h3
      simp at h3
    · exact h2
  show T.idxOf y < T.idxOf x
  omega
theorem TopO.len {es:List (EntV UInt32 UInt32)} {T ls:List UInt32} (h:TopO es T ls):T.length+ls.length=es.length:=by
  have:=h.perm.length_eq
  simpa using this
end Go.SL
namespace Go.SL
open Go
structure CmpOn (cf:Nat→Nat→Int) (S:Nat→Prop):Prop where
  asym:∀ a b,S a→S b→cf a b < 0→0≤cf b a
  trans:∀ a b c,S a→S b→S c→0≤cf b a→0≤cf c b→0≤cf c a
def gp (ys:List Nat) (p:Nat):Nat:=ys.getD p 0
theorem gp_get {ys:List Nat} {p:Nat} {x:Nat} (h:ys[p]?=some x):gp ys p=x:=by simp [gp,List.getD,h]
theorem gp_mem {ys xs:List Nat} (h:ys.Perm xs) {p:Nat} (hp:p < xs.length):gp ys p ∈ xs:=by
  have hp2:p < ys.length:=by rw [h.length_eq];exact hp
  rw [gp_get (List.getElem?_eq_getElem hp2)]
  exact h.mem_iff.1 (List.getElem_mem hp2)
theorem gp_set {ys:List Nat} {p q v:Nat} (hp:p < ys.length):gp (ys.set p v) q=if q=p then v else gp ys q:=by
  unfold gp List.getD
  rw [List.getElem?_set]
  by_cases e:p=q
  · subst e;simp [hp]
  · rw [if_neg e,if_neg (fun x=>e x.symm)]
def swq (ys:List Nat) (j:Nat):List Nat:=(ys.set j (gp ys (j - 1))).set (j - 1) (gp ys j)
theorem swq_gp {ys:List Nat} {j q:Nat} (h0:0 < j) (hj:j < ys.length):gp (swq ys j) q=if q=j then gp ys (j - 1) else if q=j - 1 then gp ys j else gp ys q:=by
  unfold swq
  rw [gp_set (by simp;omega),gp_set hj]
  by_cases e:q=j
  · subst e;rw [if_neg (by omega),if_pos rfl,if_pos rfl]
  · rw [if_neg e,if_neg e]
theorem swq_perm {ys:List Nat} {j:Nat} (h0:0 < j) (hj:j < ys.length):(swq ys j).Perm ys:=by
  obtain ⟨k,rfl⟩:∃ k,j=k+1:=⟨j - 1,by omega⟩
  have e:ys=ys.take k++ys[k]::ys[k+1]::ys.drop (k+2):=by
    conv=>lhs;rw [← List.take_append_drop k ys,List.drop_eq_getElem_cons (by omega),List.drop_eq_getElem_cons hj]
  have g1:gp ys k=ys[k]:=gp_get (List.getElem?_eq_getElem (by omega))
  have g2:gp ys (k+1)=ys[k+1]:=gp_get (List.getElem?_eq_getElem hj)
  have e2:swq ys (k+1)=ys.take k++ys[k+1]::ys[k]::ys.drop (k+2):=by
    unfold swq
    rw [Nat.add_sub_cancel,g1,g2]
    have hl:(ys.take k).length=k:=by rw [List.length_take];omega
    generalize ys[k]=a at *
    generalize ys[k+1]=b at *
    rw [e]
    generalize ys.take k=A at *
    generalize ys.drop (k+2)=B at *
    subst hl
    simp [List.set_append]
  rw [e2]
  conv=>rhs;rw [e]
  exact List.Perm.append_left _ (List.Perm.swap _ _ _)
structure InsI (cf:Nat→Nat→Int) (xs ys:List Nat) (i j:Nat):Prop where
  perm:ys.Perm xs
  ji:j≤i
  il:i < xs.length
  ord:∀ p q,p < q→q≤i→p≠j→q≠j→0≤cf (gp ys q) (gp ys p)
  gt:∀ q,j < q→q≤i→0≤cf (gp ys q) (gp ys j)
structure SrtI (cf:Nat→Nat→Int) (xs ys:List Nat) (i:Nat):Prop where
  perm:ys.Perm xs
  ord:∀ p q,p < q→q < i→0≤cf (gp ys q) (gp ys p)
theorem SrtI.init (cf:Nat→Nat→Int) (xs:List Nat):SrtI cf xs xs 1:=⟨.refl _,fun p q h1 h2=>by omega⟩
theorem SrtI.start {cf:Nat→Nat→Int} {xs ys:List Nat} {i:Nat} (h:SrtI cf xs ys i) (hi:i < xs.length):InsI cf xs ys i i:=
  ⟨h.perm,Nat.le_refl _,hi,fun p q h1 h2 h3 h4=>h.ord p q h1 (by omega),fun q h1 h2=>by omega⟩
theorem InsI.step {cf:Nat→Nat→Int} {S:Nat→Prop} (hc:CmpOn cf S) {xs ys:List Nat} (hS:∀ x ∈ xs,S x) {i j:Nat} (h:InsI cf xs ys i j) (h0:0 < j) (hlt:cf (gp ys j) (gp ys (j - 1)) < 0):InsI cf xs (swq ys j) i (j - 1):=by
  have hl:=h.perm.length_eq
  have hji:=h.ji
  have hil:=h.il
  have hj:j < ys.length:=by omega
  refine ⟨(swq_perm h0 hj).trans h.perm,by omega,hil,fun p q h1 h2 h3 h4=>?_,fun q h1 h2=>?_⟩
  · rw [swq_gp h0 hj,swq_gp h0 hj]
    by_cases e1:q=j
    · subst e1
      rw [if_pos rfl,if_neg (by omega),if_neg h3]
      exact h.ord p (q - 1) (by omega) (by omega) (by omega) (by omega)
    · rw [if_neg e1,if_neg h4]
      by_cases e2:p=j
      · subst e2
        rw [if_pos rfl]
        exact h.ord (p - 1) q (by omega) h2 (by omega) e1
      · rw [if_neg e2,if_neg h3]
        exact h.ord p q h1 h2 e2 e1
  · rw [swq_gp h0 hj,swq_gp h0 hj,if_neg (show j - 1≠j by omega),if_pos (show j - 1=j - 1 from rfl)]
    by_cases e1:q=j
    · subst e1
      rw [if_pos rfl]
      exact hc.asym _ _ (hS _ (gp_mem h.perm (by omega))) (hS _ (gp_mem h.perm (by omega))) hlt
    · rw [if_neg e1,if_neg (by omega)]
      exact h.gt q (by omega) h2
theorem InsI.done {cf:Nat→Nat→Int} {S:Nat→Prop} (hc:CmpOn cf S) {xs ys:List Nat} (hS:∀ x ∈ xs,S x) {i j:Nat} (h:InsI cf xs ys i j) (he:j=0∨0≤cf (gp ys j) (gp ys (j - 1))):SrtI cf xs ys (i+1):=by
  refine ⟨h.perm,fun p q h1 h2=>?_⟩
  by_cases e1:p=j
  · subst e1;exact h.gt q h1 (by omega)
  · by_cases e2:q=j
    · subst e2
      rcases he with he | he
      · omega
      · by_cases e3:p=q - 1
        · subst e3;exact he
        · have hil:=h.il
          have hji:=h.ji
          exact hc.trans _ _ _ (hS _ (gp_mem h.perm (by omega))) (hS _ (gp_mem h.perm (by omega))) (hS _ (gp_mem h.perm (by omega))) (h.ord p (q - 1) (by omega) (by omega) (by omega) (by omega)) he
    · exact h.ord p q h1 (by omega) e1 e2
theorem SrtI.full {cf:Nat→Nat→Int} {xs ys:List Nat} {i:Nat} (h:SrtI cf xs ys i) (hi:xs.length≤i):ys.Perm xs∧ys.Pairwise fun a b=>0≤cf b a:=by
  refine ⟨h.perm,List.pairwise_iff_getElem.2 fun p q hp hq hpq=>?_⟩
  have hl:=h.perm.length_eq
  have:=h.ord p q hpq (by omega)
  rwa [gp_get (List.getElem?_eq_getElem hp),gp_get (List.getElem?_eq_getElem hq)] at this
def intC (n:Int):List Value:=[.int .i64 n]
theorem intE:EncOk 1 intC:=⟨fun _=>rfl,fun _=>rfl⟩
def c8 (a b:UInt8):Int:=if a < b then -1 else if b < a then 1 else 0
def c32 (a b:UInt32):Int:=if a < b then -1 else if b < a then 1 else 0
def orM (xs:List Int):Int:=(xs.find? fun x=>decide (x≠0)).getD 0
theorem orM_at {xs:List Int} {i:Nat} {x:Int} (h:∀ y ∈ xs.take i,y=0) (hx:xs[i]?=some x) (h0:x≠0):orM xs=x:=by
  have e:xs=xs.take i++x::xs.drop (i+1):=by
    have hlt:=idx_lt hx
    conv=>lhs;rw [← List.take_append_drop i xs,List.drop_eq_getElem_cons hlt]
    rw [List.getElem?_eq_getElem hlt] at hx
    rw [Option.some.inj hx]
  unfold orM
  rw [e,List.find?_append,List.find?_eq_none.2 (fun y hy=>by simp [h y hy])]
  simp [h0]
theorem orM_no {xs:List Int} (h:∀ y ∈ xs,y=0):orM xs=0:=by
  unfold orM
  rw [List.find?_eq_none.2 (fun y hy=>by simp [h y hy])]
  rfl
def cf2 (a b:DeedM):Int:=if a.site < b.site then -1 else if b.site < a.site then 1 else if a.order < b.order then -1 else if b.order < a.order then 1 else 0
def cfD (l:List DeedM) (a b:Nat):Int:=match l[a]?,l[b]? with
  | some x,some y=>cf2 x y
  | _,_=>(a:Int) - b
theorem cf2_or (a b:DeedM):orM [c8 a.site b.site,c32 a.order b.order]=cf2 a b:=by
  unfold cf2 c8 c32 orM
  split
  · rfl
  · split
    · rfl
    · split
      · rfl
      · split <;> rfl
theorem cf2_le (a b:DeedM):0≤cf2 b a↔a.site.toNat < b.site.toNat∨(a.site.toNat=b.site.toNat∧a.order.toNat≤b.order.toNat):=by
  unfold cf2
  simp only [UInt8.lt_iff_toNat_lt,UInt32.lt_iff_toNat_lt]
  split
  · constructor
    · intro h;simp at h
    · omega
  · split
    · constructor
      · omega
      · intro _;decide
    · split
      · constructor
        · intro h;simp at h
        · omega
      · split
        · constructor
          · omega
          · intro _;decide
        · constructor
          · omega
          · intro _;decide
theorem cf2_lt (a b:DeedM):cf2 a b < 0↔a.site.toNat < b.site.toNat∨(a.site.toNat=b.site.toNat∧a.order.toNat < b.order.toNat):=by
  have:=cf2_le b a
  constructor
  · intro h
    have h2:¬ 0≤cf2 a b:=by omega
    rw [this] at h2
    omega
  · intro h
    have h2:¬ 0≤cf2 a b:=by rw [this];omega
    omega
theorem sorted_before {l:List DeedM} (ho:unitsOk l=true) {zs:List Nat} (hz:∀ z ∈ zs,z < l.length) (hn:zs.Nodup) (hs:zs.Pairwise fun a b=>0≤cfD l b a):zs.Pairwise (before l):=by
  have h2:=hs.and hn
  refine h2.imp_of_mem fun {a b} ha hb hab=>?_
  obtain ⟨h1,hne⟩:=hab
  intro x y hx hy hsite
  have hle:0≤cf2 y x:=by simpa [cfD,hx,hy] using h1
  rw [cf2_le] at hle
  have hno:x.order≠y.order:=fun e=>hne (units_ne ho hx hy hsite.symm e.symm)
  have hno2:x.order.toNat≠y.order.toNat:=fun e=>hno (UInt32.toNat_inj.1 e)
  rw [UInt32.lt_iff_toNat_lt]
  rw [hsite] at hle
  omega
theorem cfD_on (l:List DeedM):CmpOn (cfD l) (· < l.length):=by
  have e:∀ a b (ha:a < l.length) (hb:b < l.length),cfD l a b=cf2 l[a] l[b]:=fun a b ha hb=>by
    unfold cfD;rw [List.getElem?_eq_getElem ha,List.getElem?_eq_getElem hb]
  refine ⟨fun a b ha hb h=>?_,fun a b c ha hb hc h1 h2=>?_⟩
  · rw [e _ _ ha hb,cf2_lt] at h
    rw [e _ _ hb ha,cf2_le]
    omega
  · rw [e _ _ hb ha,cf2_le] at h1
    rw [e _ _ hc hb,cf2_le] at h2
    rw [e _ _ hc ha,cf2_le]
    omega
end Go.SL
namespace Go.SL
open Go
def RkE (l:List DeedM):Prop:=∃ rk,Ranked (RelE (allE l)) rk
theorem RkE.of {l:List DeedM} (hl:l.length≤1000) (f:Nat→Nat) (h:∀ u v,(u,v) ∈ allE l→f v < f u):RkE l:=by
  refine ⟨fun x=>f (x.toNat - 1),?_⟩
  rintro x y ⟨u,v,hm,rfl,rfl⟩
  have hlt:=edge_lt (Nat.le_refl _) (Nat.zero_le _) hm
  have e:∀ w,w < l.length→(no32 w).toNat - 1=w:=fun w hw=>by
    rw [no32_nat (by omega)]
    omega
  show f _ < f _
  rw [e _ hlt.1,e _ hlt.2]
  exact h u v hm
theorem RkE.nat {l:List DeedM} (h:RkE l):∃ f:Nat→Nat,∀ u v,(u,v) ∈ allE l→f v < f u:=by
  obtain ⟨rk,hr⟩:=h
  exact ⟨fun u=>rk (no32 u),fun u v hm=>hr _ _ ⟨u,v,hm,rfl,rfl⟩⟩
theorem RkE.orders {l:List DeedM} (hl:l.length≤1000) (h:∀ i d,l[i]?=some d→∃ e,l[unitAt l i]?=some e∧e.order=d.order):RkE l:=by
  refine RkE.of hl (fun u=>((l[u]?).map fun d=>d.order.toNat).getD 0) fun u v hm=>?_
  obtain ⟨i,k,hi,hk,he,rfl,rfl⟩:=allE_iff.1 hm
  have hx:l[i]?=some l[i]:=List.getElem?_eq_getElem hi
  have hy:l[k]?=some l[k]:=List.getElem?_eq_getElem hk
  obtain ⟨a,h1,h2⟩:=h i _ hx
  obtain ⟨b,h3,h4⟩:=h k _ hy
  simp only [edgeB,hx,hy,Bool.and_eq_true,decide_eq_true_eq] at he
  simp only [h1,h3,Option.map_some,Option.getD_some,h2,h4]
  exact UInt32.lt_iff_toNat_lt.1 he.1.2
theorem RkE.local {l:List DeedM} (hl:l.length≤1000) (h:∀ d ∈ l,d.g=0):RkE l:=RkE.orders hl fun i d hd=>⟨d,by rw [unitAt_local hd (h d (List.mem_of_getElem? hd))];exact hd,rfl⟩
theorem RkE.cross {l:List DeedM} {u v:Nat} (h1:(u,v) ∈ allE l) (h2:(v,u) ∈ allE l):¬ RkE l:=fun h=>by
  obtain ⟨f,hf⟩:=h.nat
  have:=hf _ _ h1
  have:=hf _ _ h2
  omega
theorem filt_one {L:List Nat} (h:L.Nodup) (u:Nat):(L.filter fun i=>decide (i=u)).length≤1:=by
  have:=List.nodup_iff_count.1 h u
  rw [List.count,List.countP_eq_length_filter] at this
  have e:(L.filter fun i=>decide (i=u))=L.filter (fun i=>i == u):=by congr 1
  rw [e]
  exact this
theorem unit_few {A B:List DeedM} (hA:A.length≤11) (hB:∀ d ∈ B,d.g=0) (u:Nat):(ofUnit (A++B) u).length≤12:=by
  unfold ofUnit
  rw [List.length_append,List.range_add,List.filter_append,List.length_append]
  have h1:=List.length_filter_le (fun i=>decide (unitAt (A++B) i=u)) (List.range A.length)
  rw [List.length_range] at h1
  have e:((List.range B.length).map (A.length + ·)).filter (fun i=>decide (unitAt (A++B) i=u))=((List.range B.length).map (A.length + ·)).filter fun i=>decide (i=u):=by
    refine List.filter_congr fun i hi=>?_
    obtain ⟨k,hk,rfl⟩:=List.mem_map.1 hi
    have hlt:=List.mem_range.1 hk
    have hx:(A++B)[A.length+k]?=some B[k]:=by rw [List.getElem?_append_right (by omega),Nat.add_sub_cancel_left];exact List.getElem?_eq_getElem hlt
    rw [unitAt_local hx (hB _ (List.getElem_mem hlt))]
  rw [e]
  have h2:=filt_one (L:=(List.range B.length).map (A.length + ·)) (by
    unfold List.Nodup
    rw [List.pairwise_map]
    exact List.nodup_range.imp fun {a b} h e=>h (by omega)) u
  omega
def dd (g:UInt32) (s:UInt8) (o:UInt32):DeedM:=⟨g,s,o,⟨none,0,0⟩,⟨none,0,0⟩⟩
def two:List DeedM:=[dd 0 1 2,dd 0 1 1]
theorem two_out {out:List Nat} (h:OutOk two out):out=[1,0]:=by
  obtain ⟨hp,hw⟩:=h
  have hlen:=hp.length_eq
  have h0:(0:Nat) ∈ out:=hp.mem_iff.2 (by decide)
  have h1:(1:Nat) ∈ out:=hp.mem_iff.2 (by decide)
  match out,hlen with
  | [a,b],_=>
    have hb:before two a b:=by
      have:=List.pairwise_cons.1 hw
      exact this.1 b (by simp)
    have hno:¬ (a=0∧b=1):=by
      rintro ⟨rfl,rfl⟩
      have:=hb (dd 0 1 2) (dd 0 1 1) rfl rfl rfl
      revert this;decide
    simp only [List.mem_cons,List.not_mem_nil,or_false] at h0 h1
    have:a=1∧b=0:=by omega
    rw [this.1,this.2]
def four_:List DeedM:=[dd 7 1 1,dd 8 1 2,dd 8 2 1,dd 7 2 2]
theorem four_no:¬ RkE four_:=RkE.cross (u:=1) (v:=0) (by decide) (by decide)
def LocL (l:List DeedM) (i:Nat):Prop:=l.length=i∧(∀ d ∈ l,d.g=0∧1≤d.site.toNat∧d.site.toNat≤3)∧unitsOk l=true
theorem LocL.init:LocL [] 0:=⟨rfl,(fun d h=>by cases h),rfl⟩
theorem unitsOk_snoc {l:List DeedM} (h:unitsOk l=true) {d:DeedM} (hs:1≤d.site.toNat∧d.site.toNat≤3) (hn:∀ e ∈ l,¬ (e.site=d.site∧e.order=d.order)):unitsOk (l++[d])=true:=by
  unfold unitsOk at h ⊢
  rw [List.length_append,List.length_singleton,List.range_succ,List.all_append,Bool.and_eq_true]
  constructor
  · refine List.all_eq_true.2 fun j hj=>?_
    have hlt:=List.mem_range.1 hj
    have:=List.all_eq_true.1 h j hj
    unfold dOkAt at this ⊢
    rw [List.getElem?_append_left hlt,List.take_append_of_le_length (by omega)]
    exact this
  · simp only [List.all_cons,List.all_nil,Bool.and_true]
    unfold dOkAt
    rw [List.getElem?_append_right (Nat.le_refl _),Nat.sub_self]
    simp only [List.getElem?_cons_zero]
    rw [List.take_append_of_le_length (Nat.le_refl _),List.take_length]
    simp only [hs,and_self,decide_true,Bool.true_and,Bool.not_eq_true']
    refine List.any_eq_false.2 fun e he=>?_
    simpa using hn e he
theorem LocL.step {l:List DeedM} {i:Nat} (h:LocL l i) {d:DeedM} (hg:d.g=0) (hs:1≤d.site.toNat∧d.site.toNat≤3) (hn:∀ e ∈ l,¬ (e.site=d.site∧e.order=d.order)):LocL (l++[d]) (i+1):=by
  obtain ⟨h1,h2,h3⟩:=h
  refine ⟨by simp [h1],fun e he=>?_,?_⟩
  · rcases List.mem_append.1 he with he | he
    · exact h2 e he
    · simp only [List.mem_singleton] at he
      subst he;exact ⟨hg,hs⟩
  · exact unitsOk_snoc h3 hs hn
theorem OutOk.len {l:List DeedM} {out:List Nat} (h:OutOk l out):out.length=l.length:=by rw [h.1.length_eq,List.length_range]
theorem OutOk.nodup {l:List DeedM} {out:List Nat} (h:OutOk l out):out.Nodup:=h.1.nodup_iff.2 List.nodup_range
theorem OutOk.ne {l:List DeedM} {out:List Nat} (h:OutOk l out) {i k a b:Nat} (hk:out[k]?=some a) (hi:out[i]?=some b) (hlt:k < i):a≠b:=fun e=>by
  subst e
  have h1:=idx_lt hk
  have h2:=idx_lt hi
  rw [List.getElem?_eq_getElem h1] at hk
  rw [List.getElem?_eq_getElem h2] at hi
  have:=(List.pairwise_iff_getElem.1 h.nodup) k i h1 h2 hlt
  rw [Option.some.inj hk,Option.some.inj hi] at this
  exact this rfl
def crossA (g h:UInt32) (c:Bool):List DeedM:=[dd g 1 10,dd h 1 20,dd g 2 (if c then 30 else 10),dd h 2 20]
def moreD (i:Nat):DeedM:=dd 0 (1+UInt8.ofNat (i % 3)) (100+UInt32.ofNat i)
def crossL (g h:UInt32) (c:Bool) (m:Nat):List DeedM:=crossA g h c++(List.range m).map moreD
theorem more_ord {i:Nat} (hi:i < 100):(moreD i).order.toNat=100+i:=by
  unfold moreD dd
  simp only
  rw [UInt32.toNat_add,UInt32.toNat_ofNat']
  show (100+i % 2 ^ 32) % 2 ^ 32=100+i
  omega
theorem more_site (i:Nat):1≤(moreD i).site.toNat∧(moreD i).site.toNat≤3:=by
  unfold moreD dd
  simp only
  rw [UInt8.toNat_add,UInt8.toNat_ofNat']
  show 1≤(1+i % 3 % 2 ^ 8) % 2 ^ 8∧(1+i % 3 % 2 ^ 8) % 2 ^ 8≤3
  omega
theorem cross_snoc (g h:UInt32) (c:Bool) (m:Nat):crossL g h c (m+1)=crossL g h c m++[moreD m]:=by
  unfold crossL
  rw [List.range_succ,List.map_append,List.append_assoc];rfl
theorem cross_ok (g h:UInt32) (c:Bool):∀ m,m≤30→unitsOk (crossL g h c m)=true
  | 0,_=>by cases c <;> rfl
  | m+1,hm=>by
    rw [cross_snoc]
    refine unitsOk_snoc (cross_ok g h c m (by omega)) (more_site m) fun e he ⟨_,ho⟩=>?_
    have h1:=more_ord (i:=m) (by omega)
    rw [← ho] at h1
    rcases List.mem_append.1 he with he | he
    · cases c <;> simp [crossA,dd] at he <;> rcases he with rfl | rfl | rfl | rfl <;> simp at h1 <;> omega
    · obtain ⟨i,hi,rfl⟩:=List.mem_map.1 he
      have h2:=List.mem_range.1 hi
      have h3:=more_ord (i:=i) (by omega)
      omega
theorem cross_len (g h:UInt32) (c:Bool) (m:Nat):(crossL g h c m).length=4+m:=by simp [crossL,crossA];omega
theorem cross_units {g h:UInt32} (hg:g≠0) (hh:h≠0) (hne:g≠h) (c:Bool) (m:Nat):unitAt (crossL g h c m) 0=0∧unitAt (crossL g h c m) 1=1∧unitAt (crossL g h c m) 2=0∧unitAt (crossL g h c m) 3=1:=by
  refine ⟨?_,?_,?_,?_⟩ <;> simp [unitAt,crossL,crossA,dd,List.findIdx?_cons,hg,hh,hne]
theorem cross_more (g h:UInt32) (c:Bool) (m:Nat) {i:Nat} {d:DeedM} (hd:(crossL g h c m)[i]?=some d) (hi:4≤i):d.g=0:=by
  unfold crossL at hd
  rw [List.getElem?_append_right (by simpa [crossA] using hi)] at hd
  obtain ⟨k,hk,rfl⟩:=List.mem_map.1 (List.mem_of_getElem? hd)
  rfl
theorem cross_yes {g h:UInt32} (hg:g≠0) (hh:h≠0) (hne:g≠h) {m:Nat} (hm:m≤30):RkE (crossL g h false m):=by
  refine RkE.orders (by rw [cross_len];omega) fun i d hd=>?_
  obtain ⟨h0,h1,h2,h3⟩:=cross_units hg hh hne false m
  rcases Nat.lt_or_ge i 4 with hi | hi
  · have:i=0∨i=1∨i=2∨i=3:=by omega
    rcases this with rfl | rfl | rfl | rfl
    · rw [h0];exact ⟨d,hd,rfl⟩
    · rw [h1];exact ⟨d,hd,rfl⟩
    · rw [h2];simp [crossL,crossA,dd] at hd ⊢;rw [← hd]
    · rw [h3];simp [crossL,crossA,dd] at hd ⊢;rw [← hd]
  · rw [unitAt_local hd (cross_more g h false m hd hi)]
    exact ⟨d,hd,rfl⟩
theorem cross_no {g h:UInt32} (hg:g≠0) (hh:h≠0) (hne:g≠h) (m:Nat):¬ RkE (crossL g h true m):=by
  obtain ⟨h0,h1,h2,h3⟩:=cross_units hg hh hne true m
  have hl:=cross_len g h true m
  refine RkE.cross (u:=1) (v:=0) (allE_iff.2 ⟨1,0,by omega,by omega,?_,h1,h0⟩) (allE_iff.2 ⟨2,3,by omega,by omega,?_,h2,h3⟩)
  · unfold edgeB;rw [h0,h1];simp [crossL,crossA,dd]
  · unfold edgeB;rw [h2,h3];simp [crossL,crossA,dd]
theorem cross_unit (g h:UInt32) (c:Bool) (m:Nat) (u:Nat):(ofUnit (crossL g h c m) u).length≤12:=
  unit_few (by simp [crossA]) (fun d hd=>by obtain ⟨k,_,rfl⟩:=List.mem_map.1 hd;rfl) u
end Go.SL
