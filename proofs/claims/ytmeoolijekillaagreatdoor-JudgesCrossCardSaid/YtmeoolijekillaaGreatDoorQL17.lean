import Derived.Test.YtmeoolijekillaaGreatDoorQL16
import Derived.DefersIn
import Derived.Scope
set_option linter.unusedSimpArgs false
set_option linter.unusedVariables false
set_option linter.unusedSectionVars false
namespace Go.SL
open Go
structure TX where
  at_:UInt32
  looked:List SpanM
  own:List ChgM
  waits:List UInt32
structure LockM where
  s:SpanM
  alone:Bool
abbrev TxT:=TxU UInt32 TX
structure StV where
  d:DiskM
  at_:Nat
  H:List (List ChgM)
  trim:UInt32
  locks:List (UInt32 × List LockM)
  txs:List TxT
inductive DoS
  | err (s:StV) (e:Nat)
  | put (s:StV)
  | look (s:StV) (rows:List RowM)
def StV.rows (s:StV):List RowM:=rowsN s.H s.H.length
theorem StV.rising (s:StV):Rising s.rows:=rowsN_rising _ _
theorem rowsN_all (H:List (List ChgM)):rowsN H H.length=changeR [] H.flatten:=by unfold rowsN;rw [List.take_length]
structure StOk (s:StV) (b:Nat):Prop where
  log:DiskLogB s.d s.at_ (s.H.map chgsB)
  recs:∀ cs ∈ s.H,cs.length≤4096∧∀ c ∈ cs,chgOk c=true
  sum:s.H.flatten.length+(s.txs.map fun t=>t.x.own.length).sum≤b
  hl:s.H.length≤b
  ids:(s.txs.map (·.id)).Nodup
  own:∀ t ∈ s.txs,∀ c ∈ t.x.own,chgOk c=true
  lks:∀ t ∈ s.txs,t.x.looked.length≤b
  tl:s.txs.length≤32
  bb:b≤1000000000
theorem StOk.mono {s:StV} {b c:Nat} (h:StOk s b) (hb:b≤c) (hc:c≤1000000000):StOk s c:=
  ⟨h.log,h.recs,Nat.le_trans h.sum hb,Nat.le_trans h.hl hb,h.ids,h.own,fun t ht=>Nat.le_trans (h.lks t ht) hb,h.tl,hc⟩
theorem own_sum {ts:List TxT} {t:TxT} (ht:t ∈ ts):t.x.own.length≤(ts.map fun t=>t.x.own.length).sum:=by
  obtain ⟨A,B,rfl⟩:=List.append_of_mem ht
  simp;omega
theorem StOk.own_le {s:StV} {b:Nat} (h:StOk s b) {t:TxT} (ht:t ∈ s.txs):s.H.flatten.length+t.x.own.length≤b:=by
  have:=own_sum ht;have:=h.sum;omega
theorem StOk.rows_le {s:StV} {b:Nat} (h:StOk s b):s.rows.length≤b:=by
  have:=rowsN_len s.H s.H.length;have:=h.sum;unfold StV.rows;omega
theorem sum_subU {a b:List TxT} (h:a.Sublist b):(a.map fun t=>t.x.own.length).sum≤(b.map fun t=>t.x.own.length).sum:=by
  induction h with
  | slnil=>simp
  | cons x _ ih=>simp;omega
  | cons_cons x _ ih=>simp;omega
def begE (s:StV) (n:UInt32):Nat:=if n=0 then 1 else if (findU s.txs n).isSome then 7 else if 32≤s.txs.length then 5 else 0
def begT (s:StV) (n:UInt32) (q:Nat):TxT:=⟨n,q,⟨UInt32.ofNat s.H.length,[],[],[]⟩⟩
def begS (s:StV) (n:UInt32) (q:Nat):StV:=if begE s n=0 then { s with txs:=s.txs++[begT s n q] } else s
theorem begE_zero {s:StV} {n:UInt32} (h:begE s n=0):n≠0∧findU s.txs n=none:=by
  unfold begE at h
  split at h
  · cases h
  · rename_i h0
    cases e:findU s.txs n with
    | none=>exact ⟨h0,rfl⟩
    | some t=>rw [e] at h;simp at h
theorem StOk.beg {s:StV} {b:Nat} (h:StOk s b) (n:UInt32) (q:Nat):StOk (begS s n q) b:=by
  unfold begS
  split
  · rename_i hE
    have hf:=(begE_zero hE).2
    refine ⟨h.log,h.recs,?_,h.hl,?_,?_,?_,?_,h.bb⟩
    · have:=h.sum;simpa [begT] using this
    · simp only [List.map_append,List.map_cons,List.map_nil]
      refine List.nodup_append.2 ⟨h.ids,by simp,?_⟩
      intro a ha c hc e
      simp at hc;subst hc;subst e
      exact findU_none hf ha
    · intro t ht
      rcases List.mem_append.1 ht with ht | ht
      · exact h.own t ht
      · simp at ht;subst ht;simp [begT]
    · intro t ht
      rcases List.mem_append.1 ht with ht | ht
      · exact h.lks t ht
      · simp at ht;subst ht;simp [begT]
    · unfold begE at hE
      split at hE
      · cases hE
      · split at hE
        · cases hE
        · split at hE
          · cases hE
          · simp;omega
  · exact h
theorem StOk.sub {s s':StV} {b:Nat} (h:StOk s b) (hd:s'.d=s.d) (ha:s'.at_=s.at_) (hH:s'.H=s.H) (ht:s'.txs.Sublist s.txs):StOk s' b:=
  ⟨by rw [hd,ha,hH];exact h.log,by rw [hH];exact h.recs,by rw [hH];have:=sum_subU ht;have:=h.sum;omega,by rw [hH];exact h.hl,h.ids.sublist (ht.map _),fun t htt=>h.own t (ht.mem htt),fun t htt=>h.lks t (ht.mem htt),Nat.le_trans ht.length_le h.tl,h.bb⟩
def fitsS (s:StV) (t:TX):Prop:=(chgsB t.own).length≤16384∧s.at_+secs (chgsB t.own).length≤s.d.sure.length
instance (s:StV) (t:TX):Decidable (fitsS s t):=by unfold fitsS;infer_instance
theorem chgsB_len (l:List ChgM):(chgsB l).length=2+(l.flatMap chgB).length:=by simp only [chgsB,List.length_append,numB_len]
theorem not_fitsS {s:StV} {t:TX} (h:¬ t.own.length≤4096):¬ fitsS s t:=fun hf=>by
  have h1:=hf.1
  rw [chgsB_len] at h1
  have:=(chgs_len t.own).1
  omega
def addS (e:StV) (own:List ChgM):StV:={ e with d:=(addW e.d e.at_ (frame (chgsB own)) (secs (chgsB own).length)).sync,at_:=e.at_+secs (chgsB own).length,H:=e.H++[own] }
theorem addS_rows (e:StV) (own:List ChgM):(addS e own).rows=changeR e.rows own:=by
  show rowsN (e.H++[own]) (e.H++[own]).length=_
  rw [List.length_append,List.length_singleton,rowsN_new];rfl
theorem StOk.add {s e:StV} {b:Nat} (h:StOk s b) {n:UInt32} {t:TxT} (hf:findU s.txs n=some t) (he:StOk e b) (hd:e.d=s.d) (ha:e.at_=s.at_) (hH:e.H=s.H) (ht:e.txs=delU s.txs n) (hb:s.H.length+1≤b) (hfit:fitsS s t.x):StOk (addS e t.x.own) b:=by
  obtain ⟨_,A,B,hts,hdel,_⟩:=findU_mid hf
  have hmem:=findU_mem hf
  have hle:t.x.own.length≤4096:=by
    rcases Nat.lt_or_ge 4096 t.x.own.length with h5 | h5
    · exact absurd hfit (not_fitsS (by omega))
    · exact h5
  have hl:=he.log.add (y:=chgsB t.x.own) hfit.1 (by rw [ha,hd];exact hfit.2)
  refine ⟨?_,?_,?_,?_,he.ids,he.own,he.lks,he.tl,h.bb⟩
  · show DiskLogB _ _ ((e.H++[t.x.own]).map chgsB)
    rw [List.map_append];exact hl
  · intro cs hcs
    rcases List.mem_append.1 hcs with hcs | hcs
    · exact he.recs cs hcs
    · simp at hcs;subst hcs;exact ⟨hle,h.own t hmem⟩
  · have h1:=h.sum
    show (e.H++[t.x.own]).flatten.length+(e.txs.map _).sum≤b
    rw [ht,hdel,hH]
    rw [hts] at h1
    simp only [List.map_append,List.map_cons,List.sum_append,List.sum_cons,List.flatten_append,List.length_append,List.flatten_singleton] at h1 ⊢
    omega
  · show (e.H++[t.x.own]).length≤b
    rw [hH,List.length_append];exact hb
theorem StOk.upd {s s':StV} {b:Nat} (h:StOk s b) (hb:b+1≤1000000000) {t:TxT} (hm:t ∈ s.txs) {x:TX} (hd:s'.d=s.d) (ha:s'.at_=s.at_) (hH:s'.H=s.H) (ht:s'.txs=setU s.txs t.id x)
    (ho:x.own=t.x.own∨∃ c,chgOk c=true∧x.own=t.x.own++[c]) (hl:x.looked.length≤b+1):StOk s' (b+1):=by
  obtain ⟨A,B,e⟩:=List.append_of_mem hm
  have hp:s'.txs=A++{ t with x:=x }::B:=by rw [ht,e];exact setU_mid (e ▸ h.ids) x
  refine ⟨by rw [hd,ha,hH];exact h.log,by rw [hH];exact h.recs,?_,by rw [hH];have:=h.hl;omega,by rw [ht,setU_ids];exact h.ids,?_,?_,by rw [ht];simp only [setU,List.length_map];exact h.tl,hb⟩
  · rw [hH,hp]
    have h1:=h.sum
    rw [e] at h1
    have h2:x.own.length≤t.x.own.length+1:=by rcases ho with h | ⟨c,_,h⟩ <;> rw [h] <;> simp
    simp only [List.map_append,List.map_cons,List.sum_append,List.sum_cons] at h1 ⊢
    omega
  · rw [hp]
    intro y hy c' hc'
    rcases List.mem_append.1 hy with hy | hy
    · exact h.own y (by rw [e];simp [hy]) c' hc'
    · rcases List.mem_cons.1 hy with rfl | hy
      · rcases ho with h3 | ⟨c,hc,h3⟩
        · exact h.own t hm c' (by simpa [h3] using hc')
        · simp only [h3] at hc'
          rcases List.mem_append.1 hc' with hc' | hc'
          · exact h.own t hm c' hc'
          · simp at hc';subst hc';exact hc
      · exact h.own y (by rw [e];simp [hy]) c' hc'
  · rw [hp]
    intro y hy
    rcases List.mem_append.1 hy with hy | hy
    · exact Nat.le_succ_of_le (h.lks y (by rw [e];simp [hy]))
    · rcases List.mem_cons.1 hy with rfl | hy
      · exact hl
      · exact Nat.le_succ_of_le (h.lks y (by rw [e];simp [hy]))
structure Kind where
  ends:StV→UInt32→StV
  doS:StV→UInt32→OpM→DoS
  chk:StV→TX→Bool
section
variable (I : Kind)
def aboE (s:StV) (n:UInt32):Nat:=if (findU s.txs n).isSome then 0 else 6
def aboS (s:StV) (n:UInt32):StV:=if (findU s.txs n).isSome then I.ends s n else s
def comE (s:StV) (n:UInt32):Nat:=match findU s.txs n with
  | none=>6
  | some t=>if I.chk s t.x then 9 else if fitsS s t.x then 0 else 5
def comN (s:StV) (n:UInt32):UInt32:=if comE I s n=0 then UInt32.ofNat s.H.length+1 else 0
def comS (s:StV) (n:UInt32):StV:=match findU s.txs n with
  | none=>s
  | some t=>if I.chk s t.x then I.ends s n else if fitsS s t.x then addS (I.ends s n) t.x.own else I.ends s n
end
structure Good (I:Kind) where
  Ok:StV→Nat→Prop
  V:StV→Og→Prop
  ok:∀ {s b},Ok s b→StOk s b
  mono:∀ {s b c},Ok s b→b≤c→c≤1000000000→Ok s c
  beg:∀ {s b},Ok s b→∀ n q,Ok (begS s n q) b
  endsE:∀ {s b},Ok s b→∀ n,(I.ends s n).d=s.d∧(I.ends s n).at_=s.at_∧(I.ends s n).H=s.H∧(I.ends s n).txs=delU s.txs n
  ends:∀ {s b},Ok s b→∀ n,Ok (I.ends s n) b
  com:∀ {s b},Ok s b→b+1≤1000000000→∀ n,Ok (comS I s n) (b+1)
  err:∀ {s b n x s' e},Ok s b→I.doS s n x=.err s' e→e≠0∧s'.d=s.d∧s'.at_=s.at_∧s'.H=s.H∧(∀ t ∈ s'.txs,∃ u ∈ s.txs,t.id=u.id)∧Ok s' b∧∀ o,V s o→V s' o
  put:∀ {s b n x s'},Ok s b→b+1≤1000000000→I.doS s n x=.put s'→∃ t ∈ s.txs,t.id=n∧opOk x=true∧writes x=true∧s'.d=s.d∧s'.at_=s.at_∧s'.H=s.H∧(∀ t ∈ s'.txs,∃ u ∈ s.txs,t.id=u.id)∧Ok s' (b+1) ∧
    ∀ o,V s o→V s' (setO o n ((o n).1++[x],(o n).2++[[]]))
  look:∀ {s b n x s' rows},Ok s b→b+1≤1000000000→I.doS s n x=.look s' rows→∃ t ∈ s.txs,t.id=n∧opOk x=true∧writes x=false∧s'.d=s.d∧s'.at_=s.at_∧s'.H=s.H∧(∀ t ∈ s'.txs,∃ u ∈ s.txs,t.id=u.id)∧Ok s' (b+1)∧rows.length≤256 ∧
    ∀ o,V s o→V s' (setO o n ((o n).1++[x],(o n).2++[rows]))
  vbeg:∀ {s b o},Ok s b→V s o→∀ n q,begE s n=0→V (begS s n q) (setO o n ([],[]))
  vends:∀ {s b o},Ok s b→V s o→∀ n,V (I.ends s n) o
  vcongr:∀ {s o o'},V s o→(∀ t ∈ s.txs,o t.id=o' t.id)→V s o'
  vown:∀ {s o},V s o→∀ t ∈ s.txs,t.x.own=chs (o t.id).1∧(∀ x ∈ (o t.id).1,opOk x=true)
  vcom:∀ {s b o n t},Ok s b→V s o→findU s.txs n=some t→I.chk s t.x=false→fitsS s t.x→(runM s.rows (o n).1).1=(o n).2∧V (addS (I.ends s n) t.x.own) o
structure SerC {I:Kind} (G:Good I) (i:Nat) (s:StV) (F all:List DidV) (kvs:List (UInt32 × Value)):Prop where
  ok:G.Ok s i
  v:G.V s (ogD F)
  hist:s.H=all.map fun a=>chs a.ops
  nums:∀ k a,all[k]?=some a→a.num.toNat=k+1
  opsok:∀ a ∈ all,∀ x ∈ a.ops,opOk x=true
  expl:∀ k a,all[k]?=some a→(runM (rowsN s.H k) a.ops).1=a.l.map (·.2)
  has:∀ t ∈ s.txs,(findD F t.id).isSome=true
  opn:OpenOk kvs F
  lenF:∀ d ∈ F,d.ops.length≤i∧d.l.length≤i
  lenA:∀ d ∈ all,d.ops.length≤i∧d.l.length≤i
section
variable {I : Kind} {G : Good I} {i : Nat} {s : StV} {F all : List DidV} {kvs : List (UInt32 × Value)}
theorem SerC.len (h:SerC G i s F all kvs):all.length≤i:=by
  have:=(G.ok h.ok).hl;rw [h.hist,List.length_map] at this;exact this
theorem SerC.mono (h:SerC G i s F all kvs) (hi:i < 1000):SerC G (i+1) s F all kvs:=
  ⟨G.mono h.ok (Nat.le_succ _) (by omega),h.v,h.hist,h.nums,h.opsok,h.expl,h.has,h.opn,fun d hd=>by have:=h.lenF d hd;omega,fun d hd=>by have:=h.lenA d hd;omega⟩
theorem SerC.beg (h:SerC G i s F all kvs) (hi:i < 1000) {n:UInt32} (hE:begE s n=0) (q b:Nat) :
    SerC G (i+1) (begS s n q) (⟨n,b,0,⟨none,0,0⟩,[],⟨none,0,0⟩,[]⟩::delD F n) all (mset kvs n (.pointer (some ⟨b,0,none⟩))):=by
  have h2:=h.mono hi
  have hB:begS s n q={ s with txs:=s.txs++[begT s n q] }:=by rw [begS,if_pos hE]
  have hH:(begS s n q).H=s.H:=by rw [hB]
  refine ⟨G.beg h2.ok n q,?_,by rw [hH];exact h.hist,h.nums,h.opsok,by rw [hH];exact h.expl,fun t ht=>?_,h.opn.new ⟨n,b,0,⟨none,0,0⟩,[],⟨none,0,0⟩,[]⟩,fun d hd=>?_,h2.lenA⟩
  · rw [ogD_set F (d:=⟨n,b,0,⟨none,0,0⟩,[],⟨none,0,0⟩,[]⟩) rfl]
    exact G.vbeg h.ok h.v n q hE
  · rw [findD_cons,findD_del]
    by_cases e:n=t.id
    · simp [e]
    · rw [if_neg e,if_neg (fun e2=>e e2.symm)]
      rw [hB] at ht
      rcases List.mem_append.1 ht with ht | ht
      · exact h.has t ht
      · simp at ht;subst ht;exact absurd rfl e
  · rcases List.mem_cons.1 hd with rfl | hd
    · exact ⟨Nat.zero_le _,Nat.zero_le _⟩
    · exact h2.lenF d (delD_mem hd)
theorem SerC.ends (h:SerC G i s F all kvs) (n:UInt32):SerC G i (I.ends s n) F all kvs:=by
  obtain ⟨_,_,hH,ht⟩:=G.endsE h.ok n
  exact ⟨G.ends h.ok n,G.vends h.ok h.v n,by rw [hH];exact h.hist,h.nums,h.opsok,by rw [hH];exact h.expl,fun t htt=>h.has t (delU_sub.mem (ht ▸ htt)),h.opn,h.lenF,h.lenA⟩
theorem delU_no {ts:List TxT} (h:(ts.map (·.id)).Nodup) (n:UInt32):∀ t ∈ delU ts n,t.id≠n:=by
  cases hf:findU ts n with
  | none=>exact fun t ht e=>findU_none hf (List.mem_map.2 ⟨t,delU_sub.mem ht,e⟩)
  | some t=>
    obtain ⟨hid,A,B,hts,hdel,_⟩:=findU_mid hf
    intro u hu
    rw [← hid]
    exact nodupU_mid (hts ▸ h) u (hdel ▸ hu)
theorem SerC.gone (h:SerC G i s F all kvs) (hi:i < 1000) {n:UInt32} (hn:∀ t ∈ s.txs,t.id≠n):SerC G (i+1) s (delD F n) all (mset kvs n (.pointer none)):=by
  have h2:=h.mono hi
  refine ⟨h2.ok,G.vcongr h.v fun t ht=>?_,h.hist,h.nums,h.opsok,h.expl,fun t ht=>?_,h.opn.nil n,fun d hd=>h2.lenF d (delD_mem hd),h2.lenA⟩
  · unfold ogD;rw [findD_del,if_neg (hn t ht)]
  · rw [findD_del,if_neg (hn t ht)];exact h.has t ht
theorem findU_no {ts:List TxT} {n:UInt32} (h:findU ts n=none):∀ t ∈ ts,t.id≠n:=fun t ht e=>findU_none h (List.mem_map.2 ⟨t,ht,e⟩)
theorem comE_zero {n:UInt32} (hE:comE I s n=0):∃ t,findU s.txs n=some t∧I.chk s t.x=false∧fitsS s t.x∧comS I s n=addS (I.ends s n) t.x.own∧comN I s n=UInt32.ofNat s.H.length+1:=by
  have hN:comN I s n=UInt32.ofNat s.H.length+1:=by rw [comN,if_pos hE]
  unfold comE at hE
  cases hf:findU s.txs n with
  | none=>rw [hf] at hE;simp at hE
  | some t=>
    rw [hf] at hE
    simp only at hE
    cases hc:I.chk s t.x with
    | true=>rw [hc] at hE;simp at hE
    | false=>
      rw [hc] at hE
      by_cases hfit:fitsS s t.x
      · exact ⟨t,rfl,hc,hfit,by simp [comS,hf,hc,hfit],hN⟩
      · simp [hfit] at hE
theorem SerC.com (h:SerC G i s F all kvs) (hi:i < 1000) {n:UInt32} (hE:comE I s n=0):∃ d,findD F n=some d∧(∀ a ∈ all,a.num < comN I s n) ∧
    SerC G (i+1) (comS I s n) (delD F n) (all++[{ d with num:=comN I s n }]) (mset kvs n (.pointer none)):=by
  obtain ⟨t,hf,hc,hfit,hS,hN⟩:=comE_zero hE
  obtain ⟨hid,_⟩:=findU_mid hf
  have hst:=G.ok h.ok
  have hHl:s.H.length=all.length:=by rw [h.hist,List.length_map]
  have hal:=h.len
  have hnum:(comN I s n).toNat=all.length+1:=by
    rw [hN,UInt32.toNat_add,UInt32.toNat_ofNat',hHl];simp;omega
  obtain ⟨d,hd⟩:=Option.isSome_iff_exists.1 (h.has t (findU_mem hf))
  rw [hid] at hd
  have hog:ogD F n=(d.ops,d.l.map (·.2)):=ogD_some hd
  obtain ⟨hown,hopk⟩:=G.vown h.v t (findU_mem hf)
  rw [hid,hog] at hown hopk
  obtain ⟨hv1,hv2⟩:=G.vcom h.ok h.v hf hc hfit
  rw [hog] at hv1
  obtain ⟨eD,eA,eH,eT⟩:=G.endsE h.ok n
  have hH:(comS I s n).H=s.H++[t.x.own]:=by rw [hS];show (I.ends s n).H++_=_;rw [eH]
  have hT:(comS I s n).txs=delU s.txs n:=by rw [hS];exact eT
  have hno:∀ u ∈ (comS I s n).txs,u.id≠n:=fun u hu=>delU_no hst.ids n u (hT ▸ hu)
  refine ⟨d,hd,fun a ha=>?_,G.com h.ok (by omega) n,?_,?_,?_,?_,?_,fun u hu=>?_,h.opn.nil n,fun a ha=>?_,fun a ha=>?_⟩
  · obtain ⟨k,hk⟩:=List.mem_iff_getElem?.1 ha
    have:=h.nums k a hk
    have:=idx_lt hk
    rw [UInt32.lt_iff_toNat_lt];omega
  · rw [hS]
    refine G.vcongr hv2 fun u hu=>?_
    have:=hno u (by rw [hS];exact hu)
    unfold ogD;rw [findD_del,if_neg this]
  · rw [hH,List.map_append,h.hist,hown];rfl
  · intro k a hk
    rcases Nat.lt_or_ge k all.length with hlt | hge
    · rw [List.getElem?_append_left hlt] at hk;exact h.nums k a hk
    · rw [List.getElem?_append_right hge] at hk
      have:k=all.length:=by
        have:=idx_lt hk;simp at this;omega
      subst this
      simp at hk;subst hk;exact hnum
  · intro a ha
    rcases List.mem_append.1 ha with ha | ha
    · exact h.opsok a ha
    · simp at ha;subst ha;exact hopk
  · intro k a hk
    rcases Nat.lt_or_ge k all.length with hlt | hge
    · rw [List.getElem?_append_left hlt] at hk
      rw [hH,rowsN_old (by omega)];exact h.expl k a hk
    · rw [List.getElem?_append_right hge] at hk
      have:k=all.length:=by
        have:=idx_lt hk;simp at this;omega
      subst this
      simp at hk;subst hk
      rw [hH,rowsN_old (by omega),← hHl];exact hv1
  · rw [findD_del,if_neg (hno u hu)];exact h.has u (delU_sub.mem (hT ▸ hu))
  · have:=h.lenF a (delD_mem ha);omega
  · rcases List.mem_append.1 ha with ha | ha
    · have:=h.lenA a ha;omega
    · simp at ha;subst ha;have:=h.lenF d (findD_id hd).1;simp;omega
theorem SerC.err (h:SerC G i s F all kvs) (hi:i < 1000) {n:UInt32} {x:OpM} {s':StV} {e:Nat} (he:I.doS s n x=.err s' e):e≠0∧SerC G (i+1) s' F all kvs:=by
  obtain ⟨h0,_,_,hH,ht,hok,hv⟩:=G.err h.ok he
  have hm:=h.mono hi
  refine ⟨h0,G.mono hok (Nat.le_succ _) (by omega),hv _ h.v,by rw [hH];exact h.hist,h.nums,h.opsok,by rw [hH];exact h.expl,fun t htt=>?_,h.opn,hm.lenF,hm.lenA⟩
  obtain ⟨u,hu,e⟩:=ht t htt
  rw [e];exact h.has u hu
theorem SerC.upd (h:SerC G i s F all kvs) (hi:i < 1000) {n:UInt32} {x:OpM} {s':StV} {d:DidV} {r:SV × List RowM} (hd:findD F n=some d) (hok:G.Ok s' (i+1)) (hH:s'.H=s.H) (ht:∀ t ∈ s'.txs,∃ u ∈ s.txs,t.id=u.id)
    (hs:G.V s' (setO (ogD F) n ((ogD F n).1++[x],(ogD F n).2++[r.2]))) (os ls:SV):SerC G (i+1) s' ({ d with os:=os,ops:=d.ops++[x],ls:=ls,l:=d.l++[r] }::delD F n) all kvs:=by
  have hm:=h.mono hi
  obtain ⟨hdm,hid⟩:=findD_id hd
  refine ⟨hok,?_,by rw [hH];exact h.hist,h.nums,h.opsok,by rw [hH];exact h.expl,fun t htt=>?_,h.opn.upd hd hid rfl,fun a ha=>?_,hm.lenA⟩
  · rw [ogD_set F (n:=n) (by exact hid)]
    rw [ogD_some hd] at hs
    simpa using hs
  · rw [findD_cons,findD_del]
    by_cases e:d.id=t.id
    · rw [if_pos e];rfl
    · rw [if_neg e,if_neg (fun e2=>e (hid.trans e2.symm))]
      obtain ⟨u,hu,e3⟩:=ht t htt
      rw [e3];exact h.has u hu
  · rcases List.mem_cons.1 ha with rfl | ha
    · have:=h.lenF d hdm;simp;omega
    · exact hm.lenF a (delD_mem ha)
theorem SerC.put (h:SerC G i s F all kvs) (hi:i < 1000) {n:UInt32} {x:OpM} {s':StV} (hd:I.doS s n x=.put s'):∃ d,findD F n=some d∧∀ os ls,SerC G (i+1) s' ({ d with os:=os,ops:=d.ops++[x],ls:=ls,l:=d.l++[((⟨none,0,0⟩:SV),([]:List RowM))] }::delD F n) all kvs:=by
  obtain ⟨t,htm,hid,hx,hw,_,_,hH,ht,hok,hv⟩:=G.put h.ok (by omega) hd
  obtain ⟨d,he⟩:=Option.isSome_iff_exists.1 (h.has t htm)
  rw [hid] at he
  exact ⟨d,he,h.upd hi (x:=x) (r:=(⟨none,0,0⟩,[])) he hok hH ht (hv _ h.v)⟩
theorem SerC.look (h:SerC G i s F all kvs) (hi:i < 1000) {n:UInt32} {x:OpM} {s':StV} {rows:List RowM} (hd:I.doS s n x=.look s' rows) (sv:SV):∃ d,findD F n=some d∧∀ os ls,SerC G (i+1) s' ({ d with os:=os,ops:=d.ops++[x],ls:=ls,l:=d.l++[(sv,rows)] }::delD F n) all kvs:=by
  obtain ⟨t,htm,hid,hx,hw,_,_,hH,ht,hok,_,hv⟩:=G.look h.ok (by omega) hd
  obtain ⟨d,he⟩:=Option.isSome_iff_exists.1 (h.has t htm)
  rw [hid] at he
  exact ⟨d,he,h.upd hi (x:=x) (r:=(sv,rows)) he hok hH ht (hv _ h.v)⟩
def rowsC (all:List DidV) (k:Nat):List RowM:=rowsN (all.map fun a=>chs a.ops) k
theorem keys_rowsN {H:List (List ChgM)} (h:∀ cs ∈ H,∀ c ∈ cs,chgOk c=true) (k:Nat):KeysOk (rowsN H k):=
  changeR_keys List.Pairwise.nil (by simp [KeysOk]) fun c hc=>by
    obtain ⟨cs,h1,h2⟩:=List.mem_flatten.1 hc
    exact h cs (List.mem_of_mem_take h1) c h2
theorem SerC.run (h:SerC G i s F all kvs) {k:Nat} {a:DidV} (ha:all[k]?=some a) :
    (runM (rowsC all k) a.ops).1=a.l.map (·.2)∧(runM (rowsC all k) a.ops).2=rowsC all (k+1)∧(∀ x ∈ a.ops,opOk x=true)∧Rising (rowsC all k)∧KeysOk (rowsC all k)∧(rowsC all (k+1)).length≤(rowsC all k).length+i∧a.ops.length≤i∧a.l.length≤i:=by
  have hop:=h.opsok a (List.mem_of_getElem? ha)
  have h5:=h.lenA a (List.mem_of_getElem? ha)
  have hr:Rising (rowsC all k):=rowsN_rising _ _
  have h1:=h.expl k a ha
  have h2:(runM (rowsC all k) a.ops).2=rowsC all (k+1):=by
    rw [run_left hr a.ops hop]
    unfold rowsC rowsN
    rw [take_snoc (show (all.map fun a=>chs a.ops)[k]?=some (chs a.ops) by rw [List.getElem?_map,ha];rfl),List.flatten_append,changeR_app]
    simp
  have h6:=(runM_rows hr a.ops).2.1
  refine ⟨by unfold rowsC;rw [← h.hist];exact h1,h2,hop,hr,?_,?_,h5⟩
  · unfold rowsC
    rw [← h.hist]
    exact keys_rowsN (fun cs hcs=>((G.ok h.ok).recs cs hcs).2) k
  · rw [← h2];omega
theorem SerC.done (h:SerC G i s F all kvs):s.rows=rowsC all all.length:=by
  unfold StV.rows rowsC;rw [h.hist,List.length_map]
end
end Go.SL
namespace Go.SL
open Go
structure Solo {I:Kind} (G:Good I) where
  S:StV→UInt32→List RowM→List ChgM→Prop
  txs:∀ {s n rows own},S s n rows own→∃ t,s.txs=[t]∧t.id=n∧t.x.own=own∧s.rows=rows
  chk:∀ {s n rows own b},S s n rows own→G.Ok s b→∀ t ∈ s.txs,I.chk s t.x=false
  bad:∀ {s n x},opOk x=false→I.doS s n x=.err s 1
  put:∀ {s n rows own b x},S s n rows own→G.Ok s b→opOk x=true→writes x=true→∃ s',I.doS s n x=.put s'∧S s' n rows (own++[chgOf x])
  look:∀ {s n rows own b x},S s n rows own→G.Ok s b→opOk x=true→writes x=false→∃ s',I.doS s n x=.look s' (scanR (changeR rows own) (spanOf x) 256)∧S s' n rows own
  beg:∀ {s b n},G.Ok s b→s.txs=[]→n≠0→∀ q,S (begS s n q) n s.rows []
structure AloneC {I:Kind} {G:Good I} (Z:Solo G) (n:UInt32) (rows:List RowM) (at0:Nat) (s:StV) (b:Nat) (done:List OpM) (told:List (List RowM)):Prop where
  ok:G.Ok s b
  does:∃ own,Z.S s n rows own∧Does rows own done told
  at_:s.at_≤at0
section
variable {I : Kind} {G : Good I} {Z : Solo G} {n : UInt32} {rows : List RowM} {at0 : Nat} {s : StV} {b : Nat} {done : List OpM} {told : List (List RowM)}
theorem AloneC.mono (h:AloneC Z n rows at0 s b done told) {c:Nat} (hb:b≤c) (hc:c≤1000000000):AloneC Z n rows at0 s c done told:=⟨G.mono h.ok hb hc,h.does,h.at_⟩
theorem AloneC.step (h:AloneC Z n rows at0 s b done told) (hb:b+1≤1000000000) (x:OpM) :
    (opOk x=false∧I.doS s n x=.err s 1)∨(opOk x=true∧∃ s',I.doS s n x=.put s'∧AloneC Z n rows at0 s' (b+1) (done++[x]) (told++[[]])) ∨
    (opOk x=true∧∃ s' r,I.doS s n x=.look s' r∧r.length≤256∧AloneC Z n rows at0 s' (b+1) (done++[x]) (told++[r])):=by
  obtain ⟨own,hS,hD⟩:=h.does
  cases hx:opOk x with
  | false=>exact .inl ⟨rfl,Z.bad hx⟩
  | true=>
    right
    cases hw:writes x with
    | true=>
      left
      obtain ⟨s',h1,h2⟩:=Z.put hS h.ok hx hw
      obtain ⟨_,_,_,_,_,_,hat,_,_,hok,_⟩:=G.put h.ok hb h1
      exact ⟨rfl,s',h1,hok,⟨_,h2,hD.write hx hw⟩,by rw [hat];exact h.at_⟩
    | false=>
      right
      obtain ⟨s',h1,h2⟩:=Z.look hS h.ok hx hw
      obtain ⟨_,_,_,_,_,_,hat,_,_,hok,hl,_⟩:=G.look h.ok hb h1
      refine ⟨rfl,s',_,h1,hl,hok,⟨_,h2,hD.read ?_ hx hw⟩,by rw [hat];exact h.at_⟩
      obtain ⟨_,_,_,_,hr⟩:=Z.txs hS
      rw [← hr];exact s.rising
theorem AloneC.com (h:AloneC Z n rows at0 s b done told) (hb:b≤90) (ha:at0≤1000) :
    comE I s n=0∧(comS I s n).rows=(runM rows done).2∧(comS I s n).txs=[]∧(comS I s n).at_≤at0+82∧G.Ok (comS I s n) (b+1)∧comN I s n=UInt32.ofNat s.H.length+1∧∃ own,(comS I s n).H=s.H++[own]:=by
  obtain ⟨own,hS,hD⟩:=h.does
  obtain ⟨t,ht,hid,ho,hr⟩:=Z.txs hS
  have hck:=Z.chk hS h.ok t (by rw [ht];simp)
  have hok:=G.ok h.ok
  have hf:findU s.txs n=some t:=by rw [ht];simp [findU,hid]
  have hl:t.x.own.length≤90:=by have:=hok.own_le (t:=t) (by rw [ht];simp);omega
  have hc:=(chgs_len t.x.own).2 (hok.own t (by rw [ht];simp))
  have hlen:=chgsB_len t.x.own
  have hat:=h.at_
  have hfit:fitsS s t.x:=⟨by omega,by rw [hok.log.len];unfold secs;omega⟩
  have hE:comE I s n=0:=by simp [comE,hf,hck,hfit]
  have hS2:comS I s n=addS (I.ends s n) t.x.own:=by simp [comS,hf,hck,hfit]
  obtain ⟨e1,e2,e3,e4⟩:=G.endsE h.ok n
  refine ⟨hE,?_,?_,?_,G.com h.ok (by omega) n,by rw [comN,if_pos hE],t.x.own,?_⟩
  · rw [hS2,addS_rows]
    unfold StV.rows at hr ⊢
    rw [e3,hr,ho,hD.left]
  · rw [hS2];show (I.ends s n).txs=[];rw [e4,ht];simp [delU,hid]
  · rw [hS2];show (I.ends s n).at_+_≤_;rw [e2];unfold secs;omega
  · rw [hS2];show (I.ends s n).H++_=_;rw [e3]
theorem AloneC.start (hs:G.Ok s b) (ht:s.txs=[]) (hn:n≠0) (hat:s.at_≤at0) (q:Nat):begE s n=0∧AloneC Z n s.rows at0 (begS s n q) b [] []:=by
  have hE:begE s n=0:=by simp [begE,hn,ht,findU]
  refine ⟨hE,G.beg hs n q,⟨[],Z.beg hs ht hn q,Does.nil _⟩,?_⟩
  rw [begS,if_pos hE];exact hat
end
def st0 (d:DiskM) (at0:Nat) (H:List (List ChgM)):StV:=⟨d,at0,H,0,[],[]⟩
theorem st0_first:StOk (st0 (newDisk 4096).sync 0 []) 0:=⟨DiskLogB.first,by simp [st0],by simp [st0],by simp [st0],by simp [st0],by simp [st0],by simp [st0],by simp [st0],by decide⟩
def stF:StV:=st0 (newDisk 4096).sync 0 []
theorem SerC.first {I:Kind} {G:Good I} (h:G.Ok stF 0) (hv:G.V stF (ogD [])):SerC G 0 stF [] [] []:=
  ⟨h,hv,rfl,by simp,by simp,by simp,by simp [stF,st0],fun n=>rfl,by simp,by simp⟩
end Go.SL
namespace Go.SL
open Go
def leastB (ts:List TxT) (m:UInt32):UInt32:=ts.foldl (fun m t=>if t.x.at_ < m then t.x.at_ else m) m
theorem leastB_spec:∀ (ts:List TxT) (m:UInt32),leastB ts m≤m∧(∀ t ∈ ts,leastB ts m≤t.x.at_)∧(leastB ts m=m∨∃ t ∈ ts,leastB ts m=t.x.at_)
  | [],m=>⟨UInt32.le_refl _,by simp,.inl rfl⟩
  | t::ts,m=>by
    obtain ⟨h1,h2,h3⟩:=leastB_spec ts (if t.x.at_ < m then t.x.at_ else m)
    have e1:(if t.x.at_ < m then t.x.at_ else m)≤m∧(if t.x.at_ < m then t.x.at_ else m)≤t.x.at_:=by
      split
      · rename_i h;exact ⟨UInt32.le_of_lt h,UInt32.le_refl _⟩
      · rename_i h;exact ⟨UInt32.le_refl _,UInt32.not_lt.1 h⟩
    refine ⟨UInt32.le_trans h1 e1.1,fun u hu=>?_,?_⟩
    · rcases List.mem_cons.1 hu with rfl | hu
      · exact UInt32.le_trans h1 e1.2
      · exact h2 u hu
    · show leastB ts _=m∨_
      rcases h3 with h3 | ⟨u,hu,h3⟩
      · by_cases h:t.x.at_ < m
        · right;exact ⟨t,by simp,by show leastB ts _=_;rw [h3,if_pos h]⟩
        · left;rw [h3,if_neg h]
      · right;exact ⟨u,by simp [hu],h3⟩
def endsB (s:StV) (n:UInt32):StV:={ s with txs:=delU s.txs n,trim:=leastB (delU s.txs n) (UInt32.ofNat s.H.length) }
def doB (s:StV) (n:UInt32) (x:OpM):DoS:=
  if opOk x then match findU s.txs n with
    | none=>.err s 6
    | some t=>if writes x then .put { s with txs:=setU s.txs n { t.x with own:=t.x.own++[chgOf x] } }
      else .look { s with txs:=setU s.txs n { t.x with looked:=t.x.looked++[spanOf x] } } (scanR (changeR (rowsN s.H t.x.at_.toNat) t.x.own) (spanOf x) 256)
  else .err s 1
def chkB (s:StV) (t:TX):Bool:=t.looked.any fun p=>sinceH s.H t.at_.toNat p
def betaI:Kind:=⟨endsB,doB,chkB⟩
structure BetOk (s:StV) (b:Nat):Prop where
  st:StOk s b
  trim:s.trim.toNat≤s.H.length
  ats:∀ t ∈ s.txs,s.trim≤t.x.at_∧t.x.at_.toNat≤s.H.length
def VB (s:StV) (o:Og):Prop:=∀ t ∈ s.txs,t.x.own=chs (o t.id).1∧(∀ x ∈ (o t.id).1,opOk x=true)∧(runM (rowsN s.H t.x.at_.toNat) (o t.id).1).1=(o t.id).2∧∀ x ∈ (o t.id).1,writes x=false→spanOf x ∈ t.x.looked
theorem len32 {s:StV} {b:Nat} (h:StOk s b):(UInt32.ofNat s.H.length).toNat=s.H.length:=by
  have:=h.hl;have:=h.bb
  rw [UInt32.toNat_ofNat'];exact Nat.mod_eq_of_lt (by omega)
theorem ends_trim {s:StV} {b:Nat} (h:BetOk s b) (n:UInt32):s.trim≤(endsB s n).trim∧(endsB s n).trim≤UInt32.ofNat s.H.length∧∀ t ∈ delU s.txs n,(endsB s n).trim≤t.x.at_:=by
  obtain ⟨k1,k2,k3⟩:=leastB_spec (delU s.txs n) (UInt32.ofNat s.H.length)
  refine ⟨?_,k1,k2⟩
  show s.trim≤leastB _ _
  rcases k3 with e | ⟨t,ht,e⟩
  · rw [e,UInt32.le_iff_toNat_le,len32 h.st];exact h.trim
  · rw [e];exact (h.ats t (delU_sub.mem ht)).1
theorem BetOk.ends {s:StV} {b:Nat} (h:BetOk s b) (n:UInt32):BetOk (endsB s n) b:=by
  obtain ⟨h1,h2,h3⟩:=ends_trim h n
  refine ⟨h.st.sub rfl rfl rfl delU_sub,?_,fun t ht=>⟨h3 t ht,(h.ats t (delU_sub.mem ht)).2⟩⟩
  rw [UInt32.le_iff_toNat_le,len32 h.st] at h2;exact h2
theorem BetOk.mono {s:StV} {b c:Nat} (h:BetOk s b) (hb:b≤c) (hc:c≤1000000000):BetOk s c:=⟨h.st.mono hb hc,h.trim,h.ats⟩
theorem BetOk.beg {s:StV} {b:Nat} (h:BetOk s b) (n:UInt32) (q:Nat):BetOk (begS s n q) b:=by
  have hs:=h.st.beg n q
  refine ⟨hs,?_,?_⟩
  · unfold begS;split <;> exact h.trim
  · unfold begS
    split
    · intro t ht
      rcases List.mem_append.1 ht with ht | ht
      · exact h.ats t ht
      · simp at ht;subst ht
        have:=len32 h.st
        exact ⟨by rw [UInt32.le_iff_toNat_le];show _≤(UInt32.ofNat s.H.length).toNat;rw [this];exact h.trim,by show (UInt32.ofNat s.H.length).toNat≤s.H.length;omega⟩
    · exact h.ats
theorem BetOk.com {s:StV} {b:Nat} (h:BetOk s b) (hb:b+1≤1000000000) (n:UInt32):BetOk (comS betaI s n) (b+1):=by
  have hm:=h.mono (Nat.le_succ b) hb
  unfold comS
  cases hf:findU s.txs n with
  | none=>exact hm
  | some t=>
    simp only
    split
    · exact hm.ends n
    · split
      · rename_i hfit
        have he:=hm.ends n
        refine ⟨hm.st.add hf he.st rfl rfl rfl rfl (by have:=h.st.hl;omega) hfit,?_,fun u hu=>⟨(he.ats u hu).1,?_⟩⟩
        · show _≤(s.H++[_]).length
          have:=he.trim;rw [List.length_append];exact Nat.le_trans this (Nat.le_add_right _ _)
        · show _≤(s.H++[_]).length
          have:=(he.ats u hu).2;rw [List.length_append];exact Nat.le_trans this (Nat.le_add_right _ _)
      · exact hm.ends n
theorem doB_inv {s:StV} {n:UInt32} {x:OpM}:(∃ e,doB s n x=.err s e∧e≠0)∨∃ t,findU s.txs n=some t∧opOk x=true ∧
    ((writes x=true∧doB s n x=.put { s with txs:=setU s.txs n { t.x with own:=t.x.own++[chgOf x] } }) ∨
     (writes x=false∧doB s n x=.look { s with txs:=setU s.txs n { t.x with looked:=t.x.looked++[spanOf x] } } (scanR (changeR (rowsN s.H t.x.at_.toNat) t.x.own) (spanOf x) 256))):=by
  unfold doB
  cases hx:opOk x with
  | false=>left;exact ⟨1,by simp,by decide⟩
  | true=>
    cases hf:findU s.txs n with
    | none=>left;exact ⟨6,by simp,by decide⟩
    | some t=>
      right
      refine ⟨t,rfl,rfl,?_⟩
      cases hw:writes x <;> simp
theorem setU_ex {ts:List TxT} {n:UInt32} {x:TX}:∀ t ∈ setU ts n x,∃ u ∈ ts,t.id=u.id:=fun t ht=>by
  rcases setU_mem ht with ⟨u,hu,_,rfl⟩ | ⟨hu,_⟩
  · exact ⟨u,hu,rfl⟩
  · exact ⟨t,hu,rfl⟩
theorem BetOk.upd {s:StV} {b:Nat} (h:BetOk s b) (hb:b+1≤1000000000) {n:UInt32} {t:TxT} (hf:findU s.txs n=some t) {x:TX} (ha:x.at_=t.x.at_) (ho:x.own=t.x.own∨∃ c,chgOk c=true∧x.own=t.x.own++[c]) (hl:x.looked.length≤b+1) :
    BetOk { s with txs:=setU s.txs n x } (b+1):=by
  obtain ⟨hid,_⟩:=findU_mid hf
  have hm:=findU_mem hf
  refine ⟨h.st.upd hb hm rfl rfl rfl (by rw [hid]) ho hl,h.trim,fun u hu=>?_⟩
  rcases setU_mem hu with ⟨v,hv,hvi,rfl⟩ | ⟨hu,_⟩
  · have:=h.ats t hm;rw [← ha] at this;exact this
  · exact h.ats u hu
theorem uniqU {ts:List TxT} (hn:(ts.map (·.id)).Nodup) {n:UInt32} {t u:TxT} (hf:findU ts n=some t) (hu:u ∈ ts) (hi:u.id=n):u=t:=by
  have h1:=findU_of hn hu
  rw [hi,hf] at h1;exact (Option.some.inj h1).symm
theorem rows_since {H:List (List ChgM)} {a:Nat} {p:SpanM} (h:sinceH H a p=false) (r:RowM) (hr:inSpan p r.key=true):r ∈ rowsN H a↔r ∈ rowsN H H.length:=by
  have e:rowsN H H.length=changeR (rowsN H a) (H.drop a).flatten:=by
    rw [rowsN_all];unfold rowsN
    rw [← changeR_app,← List.flatten_append,List.take_append_drop]
  rw [e]
  refine (mem_change_skip _ (rowsN_rising H a) fun c hc e=>?_).symm
  obtain ⟨cs,h1,h2⟩:=List.mem_flatten.1 hc
  unfold sinceH at h
  have h3:=List.any_eq_false.1 h cs h1
  rw [List.any_eq_true] at h3
  exact h3 ⟨c,h2,by rw [e];exact hr⟩
def betaG:Good betaI where
  Ok:=BetOk
  V:=VB
  ok:=fun h=>h.st
  mono:=fun h hb hc=>h.mono hb hc
  beg:=fun h n q=>h.beg n q
  endsE:=fun _ _=>⟨rfl,rfl,rfl,rfl⟩
  ends:=fun h n=>h.ends n
  com:=fun h hb n=>h.com hb n
  err:=fun {s b n x s' e} h he=>by
    have he:doB s n x=.err s' e:=he
    rcases doB_inv (s:=s) (n:=n) (x:=x) with ⟨e',h1,h2⟩ | ⟨t,_,_,⟨_,h1⟩ | ⟨_,h1⟩⟩ <;> rw [h1] at he
    · cases he;exact ⟨h2,rfl,rfl,rfl,fun t ht=>⟨t,ht,rfl⟩,h,fun _ h=>h⟩
    · cases he
    · cases he
  put:=fun {s b n x s'} h hb he=>by
    have he:doB s n x=.put s':=he
    rcases doB_inv (s:=s) (n:=n) (x:=x) with ⟨e',h1,h2⟩ | ⟨t,hf,hx,⟨hw,h1⟩ | ⟨_,h1⟩⟩ <;> rw [h1] at he
    · cases he
    · cases he
      obtain ⟨hid,_⟩:=findU_mid hf
      refine ⟨t,findU_mem hf,hid,hx,hw,rfl,rfl,rfl,setU_ex,h.upd hb hf rfl (.inr ⟨_,chgOf_ok hx hw,rfl⟩) (Nat.le_succ_of_le (h.st.lks t (findU_mem hf))),fun o hv u hu=>?_⟩
      rcases setU_mem hu with ⟨v,hv',hvi,rfl⟩ | ⟨hu,hne⟩
      · obtain rfl:=uniqU h.st.ids hf hv' hvi
        obtain ⟨k1,k2,k3,k4⟩:=hv v hv'
        simp only
        rw [hvi] at k1 k2 k3 k4 ⊢
        rw [setO_same]
        refine ⟨by rw [chs_snoc_w _ hw,k1],fun y hy=>?_,?_,fun y hy hwy=>?_⟩
        · rcases List.mem_append.1 hy with hy | hy
          · exact k2 y hy
          · simp at hy;subst hy;exact hx
        · rw [runM_snoc,done_write hx hw];simp only;rw [k3]
        · rcases List.mem_append.1 hy with hy | hy
          · exact k4 y hy hwy
          · simp at hy;subst hy;rw [hw] at hwy;cases hwy
      · rw [setO_other _ _ hne];exact hv u hu
    · cases he
  look:=fun {s b n x s' rows} h hb he=>by
    have he:doB s n x=.look s' rows:=he
    rcases doB_inv (s:=s) (n:=n) (x:=x) with ⟨e',h1,h2⟩ | ⟨t,hf,hx,⟨hw,h1⟩ | ⟨hw,h1⟩⟩ <;> rw [h1] at he
    · cases he
    · cases he
    · cases he
      obtain ⟨hid,_⟩:=findU_mid hf
      refine ⟨t,findU_mem hf,hid,hx,hw,rfl,rfl,rfl,setU_ex,h.upd hb hf rfl (.inl rfl) (by have:=h.st.lks t (findU_mem hf);simp;omega),by unfold scanR;simp;omega,fun o hv u hu=>?_⟩
      rcases setU_mem hu with ⟨v,hv',hvi,rfl⟩ | ⟨hu,hne⟩
      · obtain rfl:=uniqU h.st.ids hf hv' hvi
        obtain ⟨k1,k2,k3,k4⟩:=hv v hv'
        simp only
        rw [hvi] at k1 k2 k3 k4 ⊢
        rw [setO_same]
        refine ⟨by rw [chs_snoc_r _ hw,k1],fun y hy=>?_,?_,fun y hy hwy=>?_⟩
        · rcases List.mem_append.1 hy with hy | hy
          · exact k2 y hy
          · simp at hy;subst hy;exact hx
        · rw [runM_snoc,run_left (rowsN_rising _ _) _ k2,done_read (changeR_rising _ (rowsN_rising _ _)).1 hx hw];simp only;rw [k3,k1]
        · rcases List.mem_append.1 hy with hy | hy
          · exact List.mem_append_left _ (k4 y hy hwy)
          · simp at hy;subst hy;simp
      · rw [setO_other _ _ hne];exact hv u hu
  vbeg:=fun {s b o} h hv n q hE=>by
    have hf:=(begE_zero hE).2
    intro t ht
    rw [begS,if_pos hE] at ht ⊢
    rcases List.mem_append.1 ht with ht | ht
    · rw [setO_other _ _ (fun e=>findU_none hf (List.mem_map.2 ⟨t,ht,e⟩))];exact hv t ht
    · simp at ht;subst ht
      show []=chs (setO o n ([],[]) n).1∧(∀ x ∈ (setO o n ([],[]) n).1,_)∧(runM _ (setO o n ([],[]) n).1).1=(setO o n ([],[]) n).2∧∀ x ∈ (setO o n ([],[]) n).1,_
      rw [setO_same];simp [chs,runM_nil]
  vends:=fun h hv n t ht=>hv t (delU_sub.mem ht)
  vcongr:=fun hv ho t ht=>by rw [← ho t ht];exact hv t ht
  vown:=fun hv t ht=>⟨(hv t ht).1,(hv t ht).2.1⟩
  vcom:=fun {s b o n t} h hv hf hc hfit=>by
    obtain ⟨hid,_⟩:=findU_mid hf
    obtain ⟨k1,k2,k3,k4⟩:=hv t (findU_mem hf)
    rw [hid] at k1 k2 k3 k4
    refine ⟨?_,fun u hu=>?_⟩
    · rw [← k3]
      refine run_agree s.rising (rowsN_rising _ _) _ k2 fun x hx hw r hr=>?_
      have:sinceH s.H t.x.at_.toNat (spanOf x)=false:=by
        have hc:chkB s t.x=false:=hc
        unfold chkB at hc
        have:=List.any_eq_false.1 hc _ (k4 x hx hw)
        simpa using this
      exact (rows_since this r hr).symm
    · have hu':u ∈ s.txs:=delU_sub.mem hu
      obtain ⟨j1,j2,j3,j4⟩:=hv u hu'
      refine ⟨j1,j2,?_,j4⟩
      show (runM (rowsN (s.H++[t.x.own]) _) _).1=_
      rw [rowsN_old (h.ats u hu').2];exact j3
end Go.SL
namespace Go.SL
open Go Go.Proofs Go.Sort
instance:Inhabited RowM:=⟨⟨.empty,0⟩⟩
end Go.SL
namespace Go.SL
open Go Go.Proofs
section
variable {P : Program} {g : World} {Γ : Env} {L M : List HP} {dst : Option Tmp} {t : TypeId} {pos : String} {aft : Array Edge} {gd : Option (Nat × Bool)}
theorem e_lookU {σ:Type} {x i:Operand} {T e kt:TypeId} {d:TypeDesc} {n:UInt32} {ts:List (TxU UInt32 σ)} {m:Value} (ht:P.underlying T=some (.map kt e)) (hk:KeyOk P kt d eU32) (hz:(P.info? e).bind (·.zero)=some (.pointer none)) (hx:ev Γ x=some m:=by rfl) (hi:ev Γ i=some (.int .u32 n.toNat):=by rfl) (hp:Pick L (Mp eU32 m (List.map kvU ts)) M:=by repeat first | exact .z | apply Pick.s) :
    EO P g ⟨dst,.lookup T x i false,t,pos,aft,gd⟩ Γ L (.pointer ((findU ts n).map fun t=>⟨t.q,0,none⟩)):=by
  have h:=e_lookup (g:=g) (L:=L) (dst:=dst) (t:=t) (pos:=pos) (aft:=aft) (gd:=gd) (x:=x) (i:=i) (k:=n) ht hk hz hx hi hp
  rw [mget_kvU] at h
  cases hf:findU ts n with
  | none=>rw [hf] at h;exact h
  | some t=>rw [hf] at h;exact h
end
def allSpan:SpanM:=⟨⟨#[48]⟩,⟨#[122,122,122,122,122,122,122,122,122,122,122,122,122,122,122,122]⟩⟩
theorem runes_in (s:ByteArray):∀ (k i:Nat),s.size≤i+k→allFrom keyRune s k i=true→∀ j,i≤j→(hj:j < s.size)→48≤(s[j]).toNat∧(s[j]).toNat≤122
  | 0,i,hk,_,j,h1,h2=>absurd h2 (by omega)
  | k+1,i,hk,h,j,h1,h2=>by
    have hi:i < s.size:=by omega
    rw [allFrom,if_pos hi,Bool.and_eq_true] at h
    by_cases ha:(s[i]'hi).toNat < 128
    · rw [decode_ascii s i hi ha] at h
      rcases Nat.eq_or_lt_of_le h1 with e | e
      · subst e
        have:=h.1
        simp only [keyRune,Bool.or_eq_true,Bool.and_eq_true,decide_eq_true_eq,beq_iff_eq] at this
        omega
      · exact runes_in s k (i+1) (by omega) h.2 j e h2
    · have h3:=(decode_high s i hi (by omega)).1
      have:=h.1
      simp only [keyRune,Bool.or_eq_true,Bool.and_eq_true,decide_eq_true_eq,beq_iff_eq] at this
      omega
theorem bl_z:∀ (n:Nat) (l:List UInt8),l.length≤n→(∀ b ∈ l,b.toNat≤122)→Op.bytesLess (List.replicate n 122) l=false
  | 0,[],_,_=>rfl
  | 0,_::_,h,_=>by simp at h
  | n+1,[],_,_=>by simp [List.replicate_succ,Op.bytesLess]
  | n+1,b::l,h,hb=>by
    have h1:=hb b (by simp)
    have ih:=bl_z n l (by simp at h;omega) (fun c hc=>hb c (by simp [hc]))
    simp only [List.replicate_succ,Op.bytesLess,ih,Bool.and_false,Bool.or_false,decide_eq_false_iff_not,UInt8.lt_iff_toNat_lt]
    show ¬ 122 < b.toNat
    omega
theorem all_in {k:ByteArray} (h:keyOk k=true):inSpan allSpan k=true:=by
  simp only [keyOk,Bool.and_eq_true,Bool.not_eq_true',decide_eq_true_eq] at h
  obtain ⟨⟨h1,h2⟩,h3⟩:=h
  have hl:∀ b ∈ k.toList,48≤b.toNat∧b.toNat≤122:=fun b hb=>by
    rw [ByteArray.toList_eq] at hb
    obtain ⟨j,hj,e⟩:=Array.getElem_of_mem (Array.mem_toList_iff.1 hb)
    have:=runes_in k k.size 0 (by omega) h3 j (Nat.zero_le _) hj
    have e2:k[j]'hj=b:=e
    rw [e2] at this;exact this
  have hlen:k.toList.length=k.size:=by rw [ByteArray.toList_eq];exact Array.length_toList
  rw [inSpan,sIn_iff]
  constructor
  · unfold sLt
    cases hk:k.toList with
    | nil=>
      exfalso
      have:sEq k ⟨#[]⟩=true:=by rw [sEq,hk,ByteArray.toList_eq];rfl
      rw [h1] at this;cases this
    | cons b l=>
      have:=(hl b (by rw [hk];simp)).1
      have e:(allSpan.a).toList=[48]:=by rw [ByteArray.toList_eq];rfl
      rw [e]
      have e2:Op.bytesLess l []=false:=by cases l <;> rfl
      simp only [Op.bytesLess,e2,Bool.and_false,Bool.or_false,decide_eq_false_iff_not,UInt8.lt_iff_toNat_lt]
      show ¬ b.toNat < 48
      omega
  · unfold sLt
    have e:(allSpan.b).toList=List.replicate 16 122:=by rw [ByteArray.toList_eq];rfl
    rw [e]
    exact bl_z 16 _ (by omega) fun b hb=>(hl b hb).2
theorem scan_all {V:List RowM} (hr:Rising V) (hk:KeysOk V) (hl:V.length≤2147483647):scanR V allSpan 2147483647=V:=by
  unfold scanR
  rw [List.filter_eq_self.2 (fun r hr=>all_in (hk r hr))]
  exact List.take_of_length_le hl
end Go.SL
namespace Go.SL.VO
open Go Go.Proofs Go.SL
end Go.SL.VO
namespace Go.SL
open Go Go.Proofs VO
def idC (t:TxT):List Value:=u32C t.id
theorem idE:EncOk 1 idC:=⟨fun _=>rfl,fun _=>rfl⟩
end Go.SL
namespace Go
section
variable {P : Program} {b : Frame} {a : Act} {k : List Item} {cs : List Frame} {w : World}
theorem stepR_scope {c:Code}:step P (lone (b.atR a (.code (.scope c)::k)) cs w)=.next (lone (b.atR a (.code c::.inScope c::k)) cs w):=
  step_lone_go (by simp [stepG,stepG.exec,Frame.atR])
theorem stepR_inScope {c:Code}:step P (lone (b.atR a (.inScope c::k)) cs w)=.next (lone (b.atR a k) cs w):=
  step_lone_go (by simp [stepG,stepG.exec,Frame.atR])
end
theorem wpIn_scope {F:Fence} {n:Nat} {P:Program} {Q:Exit→Act→World→Prop} {a:Act} {w:World} {c:Code} (h:c.wpIn F n P (Exit.noGoto Q) a w):(Code.scope c).wpIn F n P Q a w:=by
  intro b k cs hro hb hr
  have h0:(lone (b.atR a (.code (.scope c)::k)) cs w).fenced P F:=fenced_calm hb hr rfl
  obtain ⟨e,a₁,w₁,hq,harr⟩:=h b (.inScope c::k) cs hro hb hr
  cases e with
  | normal=>exact ⟨.normal,a₁,w₁,hq,.head h0 stepR_scope (StepsIn.trans harr (.one (fenced_calm hb hr rfl) stepR_inScope))⟩
  | exit id=>
    have hx:exitTo id (.inScope c::k)=exitTo id k:=by simp [exitTo]
    exact ⟨.exit id,a₁,w₁,hq,fun k' hk=>.head h0 stepR_scope (harr.1 k' (by rw [hx];exact hk)),
      fun hr' hk=>let ⟨k₁,h1,h2⟩:=harr.2 hr' (by rw [hx];exact hk);⟨k₁,h1,.head h0 stepR_scope h2⟩⟩
  | goto l=>exact hq.elim
  | ret=>exact ⟨_,a₁,w₁,hq,.of_steps (.one h0 stepR_scope) harr⟩
  | panic ch=>exact ⟨_,a₁,w₁,hq,.of_steps (.one h0 stepR_scope) harr⟩
  | outgrown=>exact ⟨_,a₁,w₁,hq,.of_steps (.one h0 stepR_scope) harr⟩
namespace SL
open Go Go.Proofs
section
variable {P : Program} {r : Option Nat} {g : World} {Γ : Env} {L : List HP} {Q : Post}
theorem WP.scope {c:Code} (h:WP P r g c (Exit.noGoto Q) Γ L):WP P r g (.scope c) Q Γ L:=fun a w ha hw=>wpIn_scope (h a w ha hw)
theorem WP.label {l:Nat} (h:PO g Q .normal Γ L):WP P r g (.label l) Q Γ L:=fun a w ha hw=>wpIn_label (h a w ha hw)
theorem PO.scopeR (h:PO g Q .ret Γ L):PO g (Exit.noGoto Q) .ret Γ L:=h
end
def SpecD (P:Program) (g:World) (f:FuncId) (args:List Value) (Pre:List HP) (T:(Value→List HP→Prop)→List HP→Prop):Prop:=
  ∀ (R:List HP) (K:Value→List HP→Prop) (w:World),Sat g (Pre++R) w→T K R→CallsDIn Fence.wide 0 P f args.toArray .returning w fun e u' w'=>u'=.returning∧∃ v M,e=.returned v∧K v M∧Sat g M w'
def RPD (P:Program) (g:World) (fn:Func) (K:Value→List HP→Prop):Post:=bodyPost P fn fun e w'=>∃ v M,e=.returned v∧K v M∧Sat g M w'
theorem SpecD.intro {P:Program} {g:World} {f:FuncId} {fn:Func} {c:Code} {args:List Value} {Pre:List HP} {T:(Value→List HP→Prop)→List HP→Prop} {n:Nat} (hf:P.funcs[f]?=some fn) (hb:fn.body=some c) (hn:fn.ntmps=n) (hle:Nat.ble args.length n=true)
    (h:∀ (R:List HP) (K:Value→List HP→Prop),T K R→WP P none g c (RPD P g fn K) ⟨n,[],bindArgs 0 args⟩ (Pre++R)):SpecD P g f args Pre T:=by
  intro R K w hw hT
  have hle':args.length≤n:=by simpa using hle
  refine callsDIn_of_wp hf hb trivial ?_
  refine h R K hT _ w ⟨?_,rfl,?_⟩ hw
  · simp;omega
  · intro i v hi
    obtain ⟨_,h2⟩:=look_bindArgs args 0 i v hi
    simp only [Nat.sub_zero] at h2
    have hlt:i < args.length:=by
      rcases Nat.lt_or_ge i args.length with h' | h'
      · exact h'
      · rw [List.getElem?_eq_none h'] at h2;cases h2
    simp only
    rw [Array.getElem?_append_left (by simpa using hlt)]
    simpa using h2
def dfr (f:FuncId) (args:List Value):Deferred:={ target:=.fn (.func f) #[],args:=args.toArray }
theorem WL.defer {P:Program} {g:World} {L:List HP} {Q:Post} {ops rest:List Oper} {n:Nat} {D:List Deferred} {l:List (Nat × Value)} {f:FuncId} {az:List Operand} {ts:Array TypeId} {t:TypeId} {pos:String} {aft:Array Edge} {gd:Option (Nat × Bool)} {args:List Value}
    (h:WL P none g ops rest Q ⟨n,dfr f args::D,l⟩ L) (ha:evs ⟨n,D,l⟩ az=some args:=by rfl) (hg:wants ops l gd=some true:=by rfl) :
    WL P none g ops (⟨none,.defer ⟨.value (.func f),az.toArray,ts⟩,t,pos,aft,gd⟩::rest) Q ⟨n,D,l⟩ L:=by
  intro a w hΓ hw
  unfold wpListIn
  rw [if_pos (wants_ok (Γ:=⟨n,D,l⟩) hg hΓ)]
  have h1:az.toArray.map a.eval=args.toArray:=evs_mapA ha (fun x u _ hx=>ev_ok hx hΓ)
  have hs:(Oper.semAt (FR none).round a.eval ⟨none,.defer ⟨.value (.func f),az.toArray,ts⟩,t,pos,aft,gd⟩).run P w=.ok (.defer (dfr f args)) w:=by
    show (do let d ← resolve a.eval ⟨.value (.func f),az.toArray,ts⟩ t;pure (Next.defer d):Sem Next).run P w=_
    simp only [resolve,h1,Act.eval,Deferred.ofValue,Sem.run_bind,Sem.run_pure,Result.andThen_ok,dfr]
    simp
  refine ⟨about_FR,?_⟩
  rw [hs,Oper.uponIn_defer]
  exact h _ w ⟨hΓ.size,by show dfr f args::a.defers=_;rw [hΓ.defers],hΓ.at_⟩ hw
end SL
end Go
namespace Go.SL
open Go
structure AtS {I:Kind} (G:Good I) (s:StV) (ts:List TxT) (H:List (List ChgM)) (b:Nat):Prop where
  ok:G.Ok s b
  txs:s.txs=ts
  his:s.H=H
  at_:s.at_≤82 * H.length
section
variable {I : Kind} {G : Good I} {s : StV} {ts : List TxT} {H : List (List ChgM)} {b : Nat}
theorem AtS.first (h:G.Ok stF 0):AtS G stF [] [] 0:=⟨h,rfl,rfl,Nat.zero_le _⟩
theorem AtS.beg (h:AtS G s ts H b) (n:UInt32) (q:Nat) (h0:n≠0) (hf:findU ts n=none) (hl:ts.length < 32) :
    begE s n=0∧AtS G (begS s n q) (ts++[⟨n,q,⟨UInt32.ofNat H.length,[],[],[]⟩⟩]) H b:=by
  have hE:begE s n=0:=by
    unfold begE
    rw [if_neg h0,h.txs,hf]
    simp;omega
  refine ⟨hE,G.beg h.ok n q,?_,?_,?_⟩ <;> rw [begS,if_pos hE]
  · show s.txs++[begT s n q]=_
    rw [h.txs,begT,h.his]
  · exact h.his
  · exact h.at_
theorem AtS.com (h:AtS G s ts H b) {n:UInt32} {t:TxT} (hf:findU ts n=some t) (hc:I.chk s t.x=false) (hl:t.x.own.length≤80) (hH:H.length≤40) (hb:b≤1000) :
    comE I s n=0∧comN I s n=UInt32.ofNat H.length+1∧AtS G (comS I s n) (delU ts n) (H++[t.x.own]) (b+1):=by
  have hok:=G.ok h.ok
  have hf':findU s.txs n=some t:=by rw [h.txs];exact hf
  have hcl:=(chgs_len t.x.own).2 (hok.own t (findU_mem hf'))
  have hlen:=chgsB_len t.x.own
  have hat:=h.at_
  have hfit:fitsS s t.x:=⟨by omega,by rw [hok.log.len];unfold secs;omega⟩
  have hE:comE I s n=0:=by simp [comE,hf',hc,hfit]
  have hS2:comS I s n=addS (I.ends s n) t.x.own:=by simp [comS,hf',hc,hfit]
  obtain ⟨e1,e2,e3,e4⟩:=G.endsE h.ok n
  refine ⟨hE,by rw [comN,if_pos hE,h.his],G.com h.ok (by omega) n,?_,?_,?_⟩
  · rw [hS2];show (I.ends s n).txs=_;rw [e4,h.txs]
  · rw [hS2];show (I.ends s n).H++_=_;rw [e3,h.his]
  · rw [hS2];show (I.ends s n).at_+_≤_;rw [e2,List.length_append,List.length_singleton];unfold secs;omega
theorem AtS.rows (h:AtS G s ts H b):s.rows=rowsN H H.length:=by unfold StV.rows;rw [h.his]
end
section
variable {s : StV} {ts : List TxT} {H : List (List ChgM)} {b : Nat}
theorem bet_first:BetOk stF 0:=⟨st0_first,by decide,by intro t h;cases h⟩
theorem AtS.put (h:AtS betaG s ts H b) {n:UInt32} {t:TxT} (hf:findU ts n=some t) {k:ByteArray} (hk:keyOk k=true) (v:UInt32) (hb:b≤1000) :
    ∃ s',doB s n (opPut k v)=.put s'∧AtS betaG s' (setU ts n { t.x with own:=t.x.own++[⟨k,v,false⟩] }) H (b+1):=by
  have hf':findU s.txs n=some t:=by rw [h.txs];exact hf
  have e:doB s n (opPut k v)=.put { s with txs:=setU s.txs n { t.x with own:=t.x.own++[chgOf (opPut k v)] } }:=by simp [doB,put_ok,hk,hf',w_put]
  refine ⟨_,e,?_,?_,h.his,h.at_⟩
  · obtain ⟨_,_,_,_,_,_,_,_,_,hok,_⟩:=betaG.put h.ok (by omega) e
    exact hok
  · show setU s.txs n _=_
    rw [h.txs];rfl
theorem AtS.get (h:AtS betaG s ts H b) {n:UInt32} {t:TxT} (hf:findU ts n=some t) {k:ByteArray} (hk:keyOk k=true) (hb:b≤1000) :
    ∃ s',doB s n (opGet k)=.look s' (scanR (changeR (rowsN H t.x.at_.toNat) t.x.own) (one k) 256)∧AtS betaG s' (setU ts n { t.x with looked:=t.x.looked++[one k] }) H (b+1):=by
  have hf':findU s.txs n=some t:=by rw [h.txs];exact hf
  have e:doB s n (opGet k)=.look { s with txs:=setU s.txs n { t.x with looked:=t.x.looked++[one k] } } (scanR (changeR (rowsN s.H t.x.at_.toNat) t.x.own) (one k) 256):=by simp [doB,get_ok,hk,hf',w_get,span_get]
  refine ⟨{ s with txs:=setU s.txs n { t.x with looked:=t.x.looked++[one k] } },e.trans (by rw [show rowsN s.H t.x.at_.toNat=rowsN H t.x.at_.toNat by rw [h.his]]),?_,?_,h.his,h.at_⟩
  · obtain ⟨_,_,_,_,_,_,_,_,_,hok,_⟩:=betaG.look h.ok (by omega) e
    exact hok
  · show setU s.txs n _=_
    rw [h.txs]
theorem AtS.chk (h:AtS betaG s ts H b) (x:TX):betaI.chk s x=x.looked.any fun p=>sinceH H x.at_.toNat p:=by
  show chkB s x=_
  unfold chkB;rw [h.his]
theorem AtS.step (h:AtS betaG s ts H b) {n:UInt32} {t:TxT} (hf:findU ts n=some t) (hb:b≤1000) (x:OpM) :
    (opOk x=false∧doB s n x=.err s 1)∨(opOk x=true∧writes x=true∧∃ s',doB s n x=.put s'∧AtS betaG s' (setU ts n { t.x with own:=t.x.own++[chgOf x] }) H (b+1)) ∨
    (opOk x=true∧writes x=false∧∃ s',doB s n x=.look s' (scanR (changeR (rowsN H t.x.at_.toNat) t.x.own) (spanOf x) 256)∧AtS betaG s' (setU ts n { t.x with looked:=t.x.looked++[spanOf x] }) H (b+1)):=by
  have hf':findU s.txs n=some t:=by rw [h.txs];exact hf
  cases hx:opOk x with
  | false=>exact .inl ⟨rfl,by unfold doB;rw [hx];rfl⟩
  | true=>
    right
    cases hw:writes x with
    | true=>
      have e:doB s n x=.put { s with txs:=setU s.txs n { t.x with own:=t.x.own++[chgOf x] } }:=by simp [doB,hx,hf',hw]
      refine .inl ⟨rfl,rfl,_,e,?_,?_,h.his,h.at_⟩
      · obtain ⟨_,_,_,_,_,_,_,_,_,hok,_⟩:=betaG.put h.ok (by omega) e
        exact hok
      · show setU s.txs n _=_
        rw [h.txs]
    | false=>
      have e:doB s n x=.look { s with txs:=setU s.txs n { t.x with looked:=t.x.looked++[spanOf x] } } (scanR (changeR (rowsN s.H t.x.at_.toNat) t.x.own) (spanOf x) 256):=by simp [doB,hx,hf',hw]
      refine .inr ⟨rfl,rfl,{ s with txs:=setU s.txs n { t.x with looked:=t.x.looked++[spanOf x] } },e.trans (by rw [show rowsN s.H t.x.at_.toNat=rowsN H t.x.at_.toNat by rw [h.his]]),?_,?_,h.his,h.at_⟩
      · obtain ⟨_,_,_,_,_,_,_,_,_,hok,_⟩:=betaG.look h.ok (by omega) e
        exact hok
      · show setU s.txs n _=_
        rw [h.txs]
theorem AtS.own_le (h:AtS betaG s ts H b) {t:TxT} (ht:t ∈ ts):t.x.own.length≤b:=by
  have:=(betaG.ok h.ok).own_le (t:=t) (by rw [h.txs];exact ht);omega
abbrev tS (n:UInt32) (q:Nat) (a:UInt32) (L:List SpanM) (O:List ChgM):TxT:=⟨n,q,⟨a,L,O,[]⟩⟩
end
end Go.SL
namespace Go.SL
open Go
abbrev LkT:=List (UInt32 × List LockM)
def eqS (a b:SpanM):Bool:=sEq a.a b.a && sEq a.b b.b
theorem eqS_iff {a b:SpanM}:eqS a b=true↔a=b:=by
 unfold eqS
 rw [Bool.and_eq_true,sEq_iff,sEq_iff]
 cases a;cases b;simp
def inWay (n:UInt32) (p:SpanM) (w:Bool) (e:UInt32 × List LockM):Bool:=decide (e.1≠n) && e.2.any fun l=>(w || l.alone) && meet l.s p
def wayL (L:LkT) (n:UInt32) (p:SpanM) (w:Bool):List UInt32:=((L.filter (inWay n p w)).map (·.1)).mergeSort (fun a b=>decide (a≤b))
theorem mem_way {L:LkT} {n k:UInt32} {p:SpanM} {w:Bool}:k ∈ wayL L n p w↔k≠n∧∃ ls,(k,ls) ∈ L∧∃ l ∈ ls,(w || l.alone)=true∧meet l.s p=true:=by
 unfold wayL
 rw [List.mem_mergeSort,List.mem_map]
 constructor
 ·rintro ⟨⟨k',ls⟩,h,rfl⟩
  obtain ⟨h1,h2⟩:=List.mem_filter.1 h
  simp only [inWay,Bool.and_eq_true,decide_eq_true_eq,List.any_eq_true] at h2
  obtain ⟨h3,l,h4,h5,h6⟩:=h2
  exact ⟨h3,ls,h1,l,h4,h5,h6⟩
 ·rintro ⟨h1,ls,h2,l,h3,h4,h5⟩
  refine ⟨(k,ls),List.mem_filter.2 ⟨h2,?_⟩,rfl⟩
  simp only [inWay,Bool.and_eq_true,decide_eq_true_eq,List.any_eq_true]
  exact ⟨h1,l,h3,h4,h5⟩
theorem way_no {L:LkT} (hn:(L.map (·.1)).Nodup) {n:UInt32} {p:SpanM} {w:Bool} (h:wayL L n p w=[]) {k:UInt32} (hk:k≠n) {ls:List LockM} (hl:getS L k=some ls) {l:LockM} (hm:l ∈ ls) (ha:(w || l.alone)=true):meet l.s p=false:=by
 cases e:meet l.s p with
 | false=>rfl
 | true=>
  have:k ∈ wayL L n p w:=mem_way.2 ⟨hk,ls,getS_some hl,l,hm,ha,e⟩
  rw [h] at this;cases this
def askL (ls:List LockM) (p:SpanM) (w:Bool):List LockM:=match ls.findIdx? (fun l=>eqS l.s p) with
 | none=>ls++[⟨p,w⟩]
 | some i=>ls.set i ⟨p,(match ls[i]? with | some l=>l.alone | none=>false) || w⟩
theorem askL_idx {ls:List LockM} {p:SpanM} {i:Nat} (h:ls.findIdx? (fun l=>eqS l.s p)=some i):∃ l,ls[i]?=some l∧l.s=p:=by
 obtain ⟨h1,h2,_⟩:=List.findIdx?_eq_some_iff_getElem.1 h
 exact ⟨ls[i],List.getElem?_eq_getElem h1,eqS_iff.1 h2⟩
theorem askL_len (ls:List LockM) (p:SpanM) (w:Bool):(askL ls p w).length≤ls.length+1:=by
 unfold askL;split <;> simp
theorem askL_new (ls:List LockM) (p:SpanM) (w:Bool):∃ l ∈ askL ls p w,l.s=p∧(w=true→l.alone=true):=by
 unfold askL
 split
 ·exact ⟨⟨p,w⟩,by simp,rfl,fun h=>h⟩
 ·rename_i i hi
  obtain ⟨l,hl,_⟩:=askL_idx hi
  refine ⟨⟨p,_⟩,List.mem_iff_getElem?.2 ⟨i,by rw [List.getElem?_set_self (idx_lt hl)]⟩,rfl,fun h=>by simp [h]⟩
theorem askL_old {ls:List LockM} {p:SpanM} {w:Bool} {l:LockM} (h:l ∈ ls):∃ m ∈ askL ls p w,m.s=l.s∧(l.alone=true→m.alone=true):=by
 unfold askL
 split
 ·exact ⟨l,by simp [h],rfl,fun h=>h⟩
 ·rename_i i hi
  obtain ⟨k,hk,hks⟩:=askL_idx hi
  obtain ⟨j,hj⟩:=List.mem_iff_getElem?.1 h
  by_cases e:i=j
  ·subst e
   rw [hk] at hj;cases hj
   exact ⟨⟨p,_⟩,List.mem_iff_getElem?.2 ⟨i,by rw [List.getElem?_set_self (idx_lt hk)]⟩,hks.symm,fun h=>by rw [hk];simp [h]⟩
  ·exact ⟨l,List.mem_iff_getElem?.2 ⟨j,by rw [List.getElem?_set_ne e];exact hj⟩,rfl,fun h=>h⟩
theorem askL_mem {ls:List LockM} {p:SpanM} {w:Bool} {m:LockM} (h:m ∈ askL ls p w):m ∈ ls∨(m.s=p∧(m.alone=true→w=true∨∃ l ∈ ls,l.s=p∧l.alone=true)):=by
 unfold askL at h
 split at h
 ·rcases List.mem_append.1 h with h | h
  ·exact .inl h
  ·simp at h;subst h;exact .inr ⟨rfl,fun h=>.inl h⟩
 ·rename_i i hi
  obtain ⟨k,hk,hks⟩:=askL_idx hi
  rcases List.mem_or_eq_of_mem_set h with h | h
  ·exact .inl h
  ·subst h
   refine .inr ⟨rfl,fun h=>?_⟩
   rw [hk] at h
   simp only [Bool.or_eq_true] at h
   rcases h with h | h
   ·exact .inr ⟨k,List.mem_of_getElem? hk,hks,h⟩
   ·exact .inl h
def lockS (L:LkT) (n:UInt32) (p:SpanM) (w:Bool):LkT:=setS L n (askL ((getS L n).getD []) p w)
def freeL (L:LkT) (n:UInt32):LkT:=L.eraseP fun e=>decide (e.1=n)
theorem freeL_get {L:LkT} (hn:(L.map (·.1)).Nodup) (n j:UInt32):getS (freeL L n) j=if j=n then none else getS L j:=by
 unfold getS freeL
 induction L with
 | nil=>simp
 | cons x L ih=>
  rw [List.map_cons] at hn
  obtain ⟨h1,h2⟩:=List.nodup_cons.1 hn
  rw [List.eraseP_cons]
  by_cases e:x.1=n
  ·simp only [e,decide_true,cond_true]
   by_cases e2:j=n
   ·subst e2
    rw [if_pos rfl,List.find?_eq_none.2 (fun y hy=>?_)];· rfl
    simp only [decide_eq_true_eq]
    intro e3
    exact h1 (by rw [e,← e3];exact List.mem_map.2 ⟨y,hy,rfl⟩)
   ·rw [if_neg e2,List.find?_cons]
    have:¬ n=j:=fun e3=>e2 e3.symm
    simp [e,this]
  ·simp only [e,decide_false,cond_false]
   rw [List.find?_cons,List.find?_cons]
   by_cases e3:x.1=j
   ·have:¬ j=n:=fun e4=>e (e3.trans e4)
    simp [e3,this]
   ·simp only [e3,decide_false]
    exact ih h2
def totL (L:LkT):Nat:=(L.map fun e=>e.2.length+1).sum
theorem totL_free (L:LkT) (n:UInt32):totL (freeL L n)≤totL L:=by
 unfold totL freeL
 induction L with
 | nil=>simp
 | cons x L ih=>
  rw [List.eraseP_cons]
  cases decide (x.1=n)
  ·simp only [cond_false,List.map_cons,List.sum_cons];omega
  ·simp
theorem totL_set (L:LkT) (n:UInt32) (ws:List LockM) (h:ws.length≤((getS L n).getD []).length+1):totL (setS L n ws)≤totL L+2:=by
 unfold setS
 split
 ·rename_i i hi
  obtain ⟨h1,h2,_⟩:=List.findIdx?_eq_some_iff_getElem.1 hi
  have hg:getS L n=some L[i].2:=by
   have:=hi
   unfold getS
   rw [List.findIdx?_eq_some_iff_getElem] at hi
   obtain ⟨_,_,h3⟩:=hi
   rw [(List.find?_eq_some_iff_getElem (p:=fun p:UInt32 × List LockM=>decide (p.1=n)) (b:=L[i])).2 ⟨h2,i,h1,rfl,fun j hj=>by simpa using h3 j hj⟩];rfl
  rw [hg,Option.getD_some] at h
  have e:L=L.take i++L[i]::L.drop (i+1):=by rw [List.getElem_cons_drop,List.take_append_drop]
  have e2:L.set i (n,ws)=L.take i++(n,ws)::L.drop (i+1):=by rw [List.set_eq_take_append_cons_drop,if_pos h1]
  unfold totL
  rw [e2]
  conv=>rhs;rw [e]
  simp only [List.map_append,List.map_cons,List.sum_append,List.sum_cons]
  omega
 ·rename_i hi
  have hg:getS L n=none:=by
   unfold getS
   rw [List.find?_eq_none.2 (fun y hy=>by simpa using List.findIdx?_eq_none_iff.1 hi y hy)];rfl
  rw [hg] at h
  simp at h
  simp [totL];omega
inductive Reach (R:UInt32→UInt32→Prop) (a:UInt32):UInt32→Prop
 | refl:Reach R a a
 | tail {b c:UInt32}:Reach R a b→R b c→Reach R a c
def edgesA (ts:List TxT) (n:UInt32):List (UInt32 × UInt32):=ts.flatMap fun t=>if t.id=n then [] else (t.x.waits.filter fun w=>(findU ts w).isSome).map fun w=>(t.id,w)
open Classical in
noncomputable def ringB (ts:List TxT) (n:UInt32) (way:List UInt32):Bool:=decide (∃ w ∈ way,Reach (fun a b=>(a,b) ∈ edgesA ts n) w n)
def endsA (s:StV) (n:UInt32):StV:={ s with txs:=delU s.txs n,locks:=freeL s.locks n }
noncomputable def doA (s:StV) (n:UInt32) (x:OpM):DoS:=
 if opOk x then match findU s.txs n with
  | none=>.err s 6
  | some t=>
   if meet (spanOf x) (spanOf x) && decide (0 < (wayL s.locks n (spanOf x) (writes x)).length) then
    if ringB (setU s.txs n { t.x with waits:=[] }) n (wayL s.locks n (spanOf x) (writes x)) then .err (endsA { s with txs:=setU s.txs n { t.x with waits:=[] } } n) 9
    else .err { s with txs:=setU s.txs n { t.x with waits:=wayL s.locks n (spanOf x) (writes x) } } 8
   else if writes x then .put { s with locks:=if meet (spanOf x) (spanOf x) then lockS s.locks n (spanOf x) (writes x) else s.locks,txs:=setU s.txs n { t.x with own:=t.x.own++[chgOf x],waits:=[] } }
    else .look { s with locks:=if meet (spanOf x) (spanOf x) then lockS s.locks n (spanOf x) (writes x) else s.locks,txs:=setU s.txs n { t.x with waits:=[] } } (scanR (changeR s.rows t.x.own) (spanOf x) 256)
 else .err s 1
noncomputable def alphaI:Kind:=⟨endsA,doA,fun _ _=>false⟩
end Go.SL
