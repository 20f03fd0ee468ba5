import Derived.Test.YtjllpjpokkmaiaaGreatDoorQB10
import Derived.Shelf.SlSortCmp.WholeK
import Derived.Shelf.SlSortCmp.Whole1
set_option linter.unusedSimpArgs false
set_option linter.unusedVariables false
set_option linter.unusedSectionVars false
namespace Go.SL
open Go
structure TX where
  at_:UInt32
  looked:List SpanM
  own:List ChgM
  waits:List UInt32
structure LockM where
  s:SpanM
  alone:Bool
abbrev TxT:=TxU UInt32 TX
structure StV where
  d:DiskM
  at_:Nat
  H:List (List ChgM)
  trim:UInt32
  locks:List (UInt32 × List LockM)
  txs:List TxT
inductive DoS
  | err (s:StV) (e:Nat)
  | put (s:StV)
  | look (s:StV) (rows:List RowM)
def StV.rows (s:StV):List RowM:=rowsN s.H s.H.length
theorem StV.rising (s:StV):Rising s.rows:=rowsN_rising _ _
theorem rowsN_all (H:List (List ChgM)):rowsN H H.length=changeR [] H.flatten:=by unfold rowsN;rw [List.take_length]
structure StOk (s:StV) (b:Nat):Prop where
  log:DiskLogB s.d s.at_ (s.H.map chgsB)
  recs:∀ cs ∈ s.H,cs.length≤4096∧∀ c ∈ cs,chgOk c=true
  sum:s.H.flatten.length+(s.txs.map fun t=>t.x.own.length).sum≤b
  hl:s.H.length≤b
  ids:(s.txs.map (·.id)).Nodup
  own:∀ t ∈ s.txs,∀ c ∈ t.x.own,chgOk c=true
  lks:∀ t ∈ s.txs,t.x.looked.length≤b
  tl:s.txs.length≤32
  bb:b≤1000000000
theorem StOk.mono {s:StV} {b c:Nat} (h:StOk s b) (hb:b≤c) (hc:c≤1000000000):StOk s c:=
  ⟨h.log,h.recs,Nat.le_trans h.sum hb,Nat.le_trans h.hl hb,h.ids,h.own,fun t ht=>Nat.le_trans (h.lks t ht) hb,h.tl,hc⟩
theorem own_sum {ts:List TxT} {t:TxT} (ht:t ∈ ts):t.x.own.length≤(ts.map fun t=>t.x.own.length).sum:=by
  obtain ⟨A,B,rfl⟩:=List.append_of_mem ht
  simp;omega
theorem StOk.own_le {s:StV} {b:Nat} (h:StOk s b) {t:TxT} (ht:t ∈ s.txs):s.H.flatten.length+t.x.own.length≤b:=by
  have:=own_sum ht;have:=h.sum;omega
theorem StOk.rows_le {s:StV} {b:Nat} (h:StOk s b):s.rows.length≤b:=by
  have:=rowsN_len s.H s.H.length;have:=h.sum;unfold StV.rows;omega
theorem sum_subU {a b:List TxT} (h:a.Sublist b):(a.map fun t=>t.x.own.length).sum≤(b.map fun t=>t.x.own.length).sum:=by
  induction h with
  | slnil=>simp
  | cons x _ ih=>simp;omega
  | cons_cons x _ ih=>simp;omega
theorem chgOk_key {c:ChgM} (h:chgOk c=true):keyOk c.key=true:=by unfold chgOk at h;simp at h;exact h.1
def begE (s:StV) (n:UInt32):Nat:=if n=0 then 1 else if (findU s.txs n).isSome then 7 else if 32≤s.txs.length then 5 else 0
def begT (s:StV) (n:UInt32) (q:Nat):TxT:=⟨n,q,⟨UInt32.ofNat s.H.length,[],[],[]⟩⟩
def begS (s:StV) (n:UInt32) (q:Nat):StV:=if begE s n=0 then { s with txs:=s.txs++[begT s n q] } else s
theorem begE_zero {s:StV} {n:UInt32} (h:begE s n=0):n≠0∧findU s.txs n=none:=by
  unfold begE at h
  split at h
  · cases h
  · rename_i h0
    cases e:findU s.txs n with
    | none=>exact ⟨h0,rfl⟩
    | some t=>rw [e] at h;simp at h
theorem StOk.beg {s:StV} {b:Nat} (h:StOk s b) (n:UInt32) (q:Nat):StOk (begS s n q) b:=by
  unfold begS
  split
  · rename_i hE
    have hf:=(begE_zero hE).2
    refine ⟨h.log,h.recs,?_,h.hl,?_,?_,?_,?_,h.bb⟩
    · have:=h.sum;simpa [begT] using this
    · simp only [List.map_append,List.map_cons,List.map_nil]
      refine List.nodup_append.2 ⟨h.ids,by simp,?_⟩
      intro a ha c hc e
      simp at hc;subst hc;subst e
      exact findU_none hf ha
    · intro t ht
      rcases List.mem_append.1 ht with ht | ht
      · exact h.own t ht
      · simp at ht;subst ht;simp [begT]
    · intro t ht
      rcases List.mem_append.1 ht with ht | ht
      · exact h.lks t ht
      · simp at ht;subst ht;simp [begT]
    · unfold begE at hE
      split at hE
      · cases hE
      · split at hE
        · cases hE
        · split at hE
          · cases hE
          · simp;omega
  · exact h
theorem StOk.sub {s s':StV} {b:Nat} (h:StOk s b) (hd:s'.d=s.d) (ha:s'.at_=s.at_) (hH:s'.H=s.H) (ht:s'.txs.Sublist s.txs):StOk s' b:=
  ⟨by rw [hd,ha,hH];exact h.log,by rw [hH];exact h.recs,by rw [hH];have:=sum_subU ht;have:=h.sum;omega,by rw [hH];exact h.hl,h.ids.sublist (ht.map _),fun t htt=>h.own t (ht.mem htt),fun t htt=>h.lks t (ht.mem htt),Nat.le_trans ht.length_le h.tl,h.bb⟩
def fitsS (s:StV) (t:TX):Prop:=(chgsB t.own).length≤16384∧s.at_+secs (chgsB t.own).length≤s.d.sure.length
instance (s:StV) (t:TX):Decidable (fitsS s t):=by unfold fitsS;infer_instance
theorem chgsB_len (l:List ChgM):(chgsB l).length=2+(l.flatMap chgB).length:=by simp only [chgsB,List.length_append,numB_len]
theorem not_fitsS {s:StV} {t:TX} (h:¬ t.own.length≤4096):¬ fitsS s t:=fun hf=>by
  have h1:=hf.1
  rw [chgsB_len] at h1
  have:=(chgs_len t.own).1
  omega
def addS (e:StV) (own:List ChgM):StV:={ e with d:=(addW e.d e.at_ (frame (chgsB own)) (secs (chgsB own).length)).sync,at_:=e.at_+secs (chgsB own).length,H:=e.H++[own] }
theorem addS_rows (e:StV) (own:List ChgM):(addS e own).rows=changeR e.rows own:=by
  show rowsN (e.H++[own]) (e.H++[own]).length=_
  rw [List.length_append,List.length_singleton,rowsN_new];rfl
theorem StOk.add {s e:StV} {b:Nat} (h:StOk s b) {n:UInt32} {t:TxT} (hf:findU s.txs n=some t) (he:StOk e b) (hd:e.d=s.d) (ha:e.at_=s.at_) (hH:e.H=s.H) (ht:e.txs=delU s.txs n) (hb:s.H.length+1≤b) (hfit:fitsS s t.x):StOk (addS e t.x.own) b:=by
  obtain ⟨_,A,B,hts,hdel,_⟩:=findU_mid hf
  have hmem:=findU_mem hf
  have hle:t.x.own.length≤4096:=by
    rcases Nat.lt_or_ge 4096 t.x.own.length with h5 | h5
    · exact absurd hfit (not_fitsS (by omega))
    · exact h5
  have hl:=he.log.add (y:=chgsB t.x.own) hfit.1 (by rw [ha,hd];exact hfit.2)
  refine ⟨?_,?_,?_,?_,he.ids,he.own,he.lks,he.tl,h.bb⟩
  · show DiskLogB _ _ ((e.H++[t.x.own]).map chgsB)
    rw [List.map_append];exact hl
  · intro cs hcs
    rcases List.mem_append.1 hcs with hcs | hcs
    · exact he.recs cs hcs
    · simp at hcs;subst hcs;exact ⟨hle,h.own t hmem⟩
  · have h1:=h.sum
    show (e.H++[t.x.own]).flatten.length+(e.txs.map _).sum≤b
    rw [ht,hdel,hH]
    rw [hts] at h1
    simp only [List.map_append,List.map_cons,List.sum_append,List.sum_cons,List.flatten_append,List.length_append,List.flatten_singleton] at h1 ⊢
    omega
  · show (e.H++[t.x.own]).length≤b
    rw [hH,List.length_append];exact hb
theorem StOk.upd {s s':StV} {b:Nat} (h:StOk s b) (hb:b+1≤1000000000) {t:TxT} (hm:t ∈ s.txs) {x:TX} (hd:s'.d=s.d) (ha:s'.at_=s.at_) (hH:s'.H=s.H) (ht:s'.txs=setU s.txs t.id x)
    (ho:x.own=t.x.own∨∃ c,chgOk c=true∧x.own=t.x.own++[c]) (hl:x.looked.length≤b+1):StOk s' (b+1):=by
  obtain ⟨A,B,e⟩:=List.append_of_mem hm
  have hp:s'.txs=A++{ t with x:=x }::B:=by rw [ht,e];exact setU_mid (e ▸ h.ids) x
  refine ⟨by rw [hd,ha,hH];exact h.log,by rw [hH];exact h.recs,?_,by rw [hH];have:=h.hl;omega,by rw [ht,setU_ids];exact h.ids,?_,?_,by rw [ht];simp only [setU,List.length_map];exact h.tl,hb⟩
  · rw [hH,hp]
    have h1:=h.sum
    rw [e] at h1
    have h2:x.own.length≤t.x.own.length+1:=by rcases ho with h | ⟨c,_,h⟩ <;> rw [h] <;> simp
    simp only [List.map_append,List.map_cons,List.sum_append,List.sum_cons] at h1 ⊢
    omega
  · rw [hp]
    intro y hy c' hc'
    rcases List.mem_append.1 hy with hy | hy
    · exact h.own y (by rw [e];simp [hy]) c' hc'
    · rcases List.mem_cons.1 hy with rfl | hy
      · rcases ho with h3 | ⟨c,hc,h3⟩
        · exact h.own t hm c' (by simpa [h3] using hc')
        · simp only [h3] at hc'
          rcases List.mem_append.1 hc' with hc' | hc'
          · exact h.own t hm c' hc'
          · simp at hc';subst hc';exact hc
      · exact h.own y (by rw [e];simp [hy]) c' hc'
  · rw [hp]
    intro y hy
    rcases List.mem_append.1 hy with hy | hy
    · exact Nat.le_succ_of_le (h.lks y (by rw [e];simp [hy]))
    · rcases List.mem_cons.1 hy with rfl | hy
      · exact hl
      · exact Nat.le_succ_of_le (h.lks y (by rw [e];simp [hy]))
structure Kind where
  ends:StV→UInt32→StV
  doS:StV→UInt32→OpM→DoS
  chk:StV→TX→Bool
section
variable (I : Kind)
def aboE (s:StV) (n:UInt32):Nat:=if (findU s.txs n).isSome then 0 else 6
def aboS (s:StV) (n:UInt32):StV:=if (findU s.txs n).isSome then I.ends s n else s
def comE (s:StV) (n:UInt32):Nat:=match findU s.txs n with
  | none=>6
  | some t=>if I.chk s t.x then 9 else if fitsS s t.x then 0 else 5
def comN (s:StV) (n:UInt32):UInt32:=if comE I s n=0 then UInt32.ofNat s.H.length+1 else 0
def comS (s:StV) (n:UInt32):StV:=match findU s.txs n with
  | none=>s
  | some t=>if I.chk s t.x then I.ends s n else if fitsS s t.x then addS (I.ends s n) t.x.own else I.ends s n
end
structure Good (I:Kind) where
  Ok:StV→Nat→Prop
  V:StV→Og→Prop
  ok:∀ {s b},Ok s b→StOk s b
  mono:∀ {s b c},Ok s b→b≤c→c≤1000000000→Ok s c
  beg:∀ {s b},Ok s b→∀ n q,Ok (begS s n q) b
  endsE:∀ {s b},Ok s b→∀ n,(I.ends s n).d=s.d∧(I.ends s n).at_=s.at_∧(I.ends s n).H=s.H∧(I.ends s n).txs=delU s.txs n
  ends:∀ {s b},Ok s b→∀ n,Ok (I.ends s n) b
  com:∀ {s b},Ok s b→b+1≤1000000000→∀ n,Ok (comS I s n) (b+1)
  err:∀ {s b n x s' e},Ok s b→I.doS s n x=.err s' e→e≠0∧s'.d=s.d∧s'.at_=s.at_∧s'.H=s.H∧(∀ t ∈ s'.txs,∃ u ∈ s.txs,t.id=u.id)∧Ok s' b∧∀ o,V s o→V s' o
  put:∀ {s b n x s'},Ok s b→b+1≤1000000000→I.doS s n x=.put s'→∃ t ∈ s.txs,t.id=n∧opOk x=true∧writes x=true∧s'.d=s.d∧s'.at_=s.at_∧s'.H=s.H∧(∀ t ∈ s'.txs,∃ u ∈ s.txs,t.id=u.id)∧Ok s' (b+1) ∧
    ∀ o,V s o→V s' (setO o n ((o n).1++[x],(o n).2++[[]]))
  look:∀ {s b n x s' rows},Ok s b→b+1≤1000000000→I.doS s n x=.look s' rows→∃ t ∈ s.txs,t.id=n∧opOk x=true∧writes x=false∧s'.d=s.d∧s'.at_=s.at_∧s'.H=s.H∧(∀ t ∈ s'.txs,∃ u ∈ s.txs,t.id=u.id)∧Ok s' (b+1)∧rows.length≤256 ∧
    ∀ o,V s o→V s' (setO o n ((o n).1++[x],(o n).2++[rows]))
  vbeg:∀ {s b o},Ok s b→V s o→∀ n q,begE s n=0→V (begS s n q) (setO o n ([],[]))
  vends:∀ {s b o},Ok s b→V s o→∀ n,V (I.ends s n) o
  vcongr:∀ {s o o'},V s o→(∀ t ∈ s.txs,o t.id=o' t.id)→V s o'
  vown:∀ {s o},V s o→∀ t ∈ s.txs,t.x.own=chs (o t.id).1∧(∀ x ∈ (o t.id).1,opOk x=true)
  vcom:∀ {s b o n t},Ok s b→V s o→findU s.txs n=some t→I.chk s t.x=false→fitsS s t.x→(runM s.rows (o n).1).1=(o n).2∧V (addS (I.ends s n) t.x.own) o
structure SerC {I:Kind} (G:Good I) (i:Nat) (s:StV) (F all:List DidV) (kvs:List (UInt32 × Value)):Prop where
  ok:G.Ok s i
  v:G.V s (ogD F)
  hist:s.H=all.map fun a=>chs a.ops
  nums:∀ k a,all[k]?=some a→a.num.toNat=k+1
  opsok:∀ a ∈ all,∀ x ∈ a.ops,opOk x=true
  expl:∀ k a,all[k]?=some a→(runM (rowsN s.H k) a.ops).1=a.l.map (·.2)
  has:∀ t ∈ s.txs,(findD F t.id).isSome=true
  opn:OpenOk kvs F
  lenF:∀ d ∈ F,d.ops.length≤i∧d.l.length≤i
  lenA:∀ d ∈ all,d.ops.length≤i∧d.l.length≤i
section
variable {I : Kind} {G : Good I} {i : Nat} {s : StV} {F all : List DidV} {kvs : List (UInt32 × Value)}
theorem SerC.len (h:SerC G i s F all kvs):all.length≤i:=by
  have:=(G.ok h.ok).hl;rw [h.hist,List.length_map] at this;exact this
theorem SerC.mono (h:SerC G i s F all kvs) (hi:i < 1000):SerC G (i+1) s F all kvs:=
  ⟨G.mono h.ok (Nat.le_succ _) (by omega),h.v,h.hist,h.nums,h.opsok,h.expl,h.has,h.opn,fun d hd=>by have:=h.lenF d hd;omega,fun d hd=>by have:=h.lenA d hd;omega⟩
theorem SerC.beg (h:SerC G i s F all kvs) (hi:i < 1000) {n:UInt32} (hE:begE s n=0) (q b:Nat) :
    SerC G (i+1) (begS s n q) (⟨n,b,0,⟨none,0,0⟩,[],⟨none,0,0⟩,[]⟩::delD F n) all (mset kvs n (.pointer (some ⟨b,0,none⟩))):=by
  have h2:=h.mono hi
  have hB:begS s n q={ s with txs:=s.txs++[begT s n q] }:=by rw [begS,if_pos hE]
  have hH:(begS s n q).H=s.H:=by rw [hB]
  refine ⟨G.beg h2.ok n q,?_,by rw [hH];exact h.hist,h.nums,h.opsok,by rw [hH];exact h.expl,fun t ht=>?_,h.opn.new ⟨n,b,0,⟨none,0,0⟩,[],⟨none,0,0⟩,[]⟩,fun d hd=>?_,h2.lenA⟩
  · rw [ogD_set F (d:=⟨n,b,0,⟨none,0,0⟩,[],⟨none,0,0⟩,[]⟩) rfl]
    exact G.vbeg h.ok h.v n q hE
  · rw [findD_cons,findD_del]
    by_cases e:n=t.id
    · simp [e]
    · rw [if_neg e,if_neg (fun e2=>e e2.symm)]
      rw [hB] at ht
      rcases List.mem_append.1 ht with ht | ht
      · exact h.has t ht
      · simp at ht;subst ht;exact absurd rfl e
  · rcases List.mem_cons.1 hd with rfl | hd
    · exact ⟨Nat.zero_le _,Nat.zero_le _⟩
    · exact h2.lenF d (delD_mem hd)
theorem SerC.ends (h:SerC G i s F all kvs) (n:UInt32):SerC G i (I.ends s n) F all kvs:=by
  obtain ⟨_,_,hH,ht⟩:=G.endsE h.ok n
  exact ⟨G.ends h.ok n,G.vends h.ok h.v n,by rw [hH];exact h.hist,h.nums,h.opsok,by rw [hH];exact h.expl,fun t htt=>h.has t (delU_sub.mem (ht ▸ htt)),h.opn,h.lenF,h.lenA⟩
theorem delU_no {ts:List TxT} (h:(ts.map (·.id)).Nodup) (n:UInt32):∀ t ∈ delU ts n,t.id≠n:=by
  cases hf:findU ts n with
  | none=>exact fun t ht e=>findU_none hf (List.mem_map.2 ⟨t,delU_sub.mem ht,e⟩)
  | some t=>
    obtain ⟨hid,A,B,hts,hdel,_⟩:=findU_mid hf
    intro u hu
    rw [← hid]
    exact nodupU_mid (hts ▸ h) u (hdel ▸ hu)
theorem SerC.gone (h:SerC G i s F all kvs) (hi:i < 1000) {n:UInt32} (hn:∀ t ∈ s.txs,t.id≠n):SerC G (i+1) s (delD F n) all (mset kvs n (.pointer none)):=by
  have h2:=h.mono hi
  refine ⟨h2.ok,G.vcongr h.v fun t ht=>?_,h.hist,h.nums,h.opsok,h.expl,fun t ht=>?_,h.opn.nil n,fun d hd=>h2.lenF d (delD_mem hd),h2.lenA⟩
  · unfold ogD;rw [findD_del,if_neg (hn t ht)]
  · rw [findD_del,if_neg (hn t ht)];exact h.has t ht
theorem findU_no {ts:List TxT} {n:UInt32} (h:findU ts n=none):∀ t ∈ ts,t.id≠n:=fun t ht e=>findU_none h (List.mem_map.2 ⟨t,ht,e⟩)
theorem SerC.gone' (h:SerC G i s F all kvs) (hi:i < 1000) (n:UInt32):SerC G (i+1) (I.ends s n) (delD F n) all (mset kvs n (.pointer none)):=by
  refine (h.ends n).gone hi fun t ht=>?_
  rw [(G.endsE h.ok n).2.2.2] at ht
  exact delU_no (G.ok h.ok).ids n t ht
theorem SerC.abo (h:SerC G i s F all kvs) (hi:i < 1000) (n:UInt32):SerC G (i+1) (aboS I s n) (delD F n) all (mset kvs n (.pointer none)):=by
  unfold aboS
  split
  · exact h.gone' hi n
  · rename_i hf
    exact h.gone hi (findU_no (by simpa using hf))
theorem comE_zero {n:UInt32} (hE:comE I s n=0):∃ t,findU s.txs n=some t∧I.chk s t.x=false∧fitsS s t.x∧comS I s n=addS (I.ends s n) t.x.own∧comN I s n=UInt32.ofNat s.H.length+1:=by
  have hN:comN I s n=UInt32.ofNat s.H.length+1:=by rw [comN,if_pos hE]
  unfold comE at hE
  cases hf:findU s.txs n with
  | none=>rw [hf] at hE;simp at hE
  | some t=>
    rw [hf] at hE
    simp only at hE
    cases hc:I.chk s t.x with
    | true=>rw [hc] at hE;simp at hE
    | false=>
      rw [hc] at hE
      by_cases hfit:fitsS s t.x
      · exact ⟨t,rfl,hc,hfit,by simp [comS,hf,hc,hfit],hN⟩
      · simp [hfit] at hE
theorem SerC.com (h:SerC G i s F all kvs) (hi:i < 1000) {n:UInt32} (hE:comE I s n=0):∃ d,findD F n=some d∧(∀ a ∈ all,a.num < comN I s n) ∧
    SerC G (i+1) (comS I s n) (delD F n) (all++[{ d with num:=comN I s n }]) (mset kvs n (.pointer none)):=by
  obtain ⟨t,hf,hc,hfit,hS,hN⟩:=comE_zero hE
  obtain ⟨hid,_⟩:=findU_mid hf
  have hst:=G.ok h.ok
  have hHl:s.H.length=all.length:=by rw [h.hist,List.length_map]
  have hal:=h.len
  have hnum:(comN I s n).toNat=all.length+1:=by
    rw [hN,UInt32.toNat_add,UInt32.toNat_ofNat',hHl];simp;omega
  obtain ⟨d,hd⟩:=Option.isSome_iff_exists.1 (h.has t (findU_mem hf))
  rw [hid] at hd
  have hog:ogD F n=(d.ops,d.l.map (·.2)):=ogD_some hd
  obtain ⟨hown,hopk⟩:=G.vown h.v t (findU_mem hf)
  rw [hid,hog] at hown hopk
  obtain ⟨hv1,hv2⟩:=G.vcom h.ok h.v hf hc hfit
  rw [hog] at hv1
  obtain ⟨eD,eA,eH,eT⟩:=G.endsE h.ok n
  have hH:(comS I s n).H=s.H++[t.x.own]:=by rw [hS];show (I.ends s n).H++_=_;rw [eH]
  have hT:(comS I s n).txs=delU s.txs n:=by rw [hS];exact eT
  have hno:∀ u ∈ (comS I s n).txs,u.id≠n:=fun u hu=>delU_no hst.ids n u (hT ▸ hu)
  refine ⟨d,hd,fun a ha=>?_,G.com h.ok (by omega) n,?_,?_,?_,?_,?_,fun u hu=>?_,h.opn.nil n,fun a ha=>?_,fun a ha=>?_⟩
  · obtain ⟨k,hk⟩:=List.mem_iff_getElem?.1 ha
    have:=h.nums k a hk
    have:=idx_lt hk
    rw [UInt32.lt_iff_toNat_lt];omega
  · rw [hS]
    refine G.vcongr hv2 fun u hu=>?_
    have:=hno u (by rw [hS];exact hu)
    unfold ogD;rw [findD_del,if_neg this]
  · rw [hH,List.map_append,h.hist,hown];rfl
  · intro k a hk
    rcases Nat.lt_or_ge k all.length with hlt | hge
    · rw [List.getElem?_append_left hlt] at hk;exact h.nums k a hk
    · rw [List.getElem?_append_right hge] at hk
      have:k=all.length:=by
        have:=idx_lt hk;simp at this;omega
      subst this
      simp at hk;subst hk;exact hnum
  · intro a ha
    rcases List.mem_append.1 ha with ha | ha
    · exact h.opsok a ha
    · simp at ha;subst ha;exact hopk
  · intro k a hk
    rcases Nat.lt_or_ge k all.length with hlt | hge
    · rw [List.getElem?_append_left hlt] at hk
      rw [hH,rowsN_old (by omega)];exact h.expl k a hk
    · rw [List.getElem?_append_right hge] at hk
      have:k=all.length:=by
        have:=idx_lt hk;simp at this;omega
      subst this
      simp at hk;subst hk
      rw [hH,rowsN_old (by omega),← hHl];exact hv1
  · rw [findD_del,if_neg (hno u hu)];exact h.has u (delU_sub.mem (hT ▸ hu))
  · have:=h.lenF a (delD_mem ha);omega
  · rcases List.mem_append.1 ha with ha | ha
    · have:=h.lenA a ha;omega
    · simp at ha;subst ha;have:=h.lenF d (findD_id hd).1;simp;omega
theorem SerC.err (h:SerC G i s F all kvs) (hi:i < 1000) {n:UInt32} {x:OpM} {s':StV} {e:Nat} (he:I.doS s n x=.err s' e):e≠0∧SerC G (i+1) s' F all kvs:=by
  obtain ⟨h0,_,_,hH,ht,hok,hv⟩:=G.err h.ok he
  have hm:=h.mono hi
  refine ⟨h0,G.mono hok (Nat.le_succ _) (by omega),hv _ h.v,by rw [hH];exact h.hist,h.nums,h.opsok,by rw [hH];exact h.expl,fun t htt=>?_,h.opn,hm.lenF,hm.lenA⟩
  obtain ⟨u,hu,e⟩:=ht t htt
  rw [e];exact h.has u hu
theorem SerC.upd (h:SerC G i s F all kvs) (hi:i < 1000) {n:UInt32} {x:OpM} {s':StV} {d:DidV} {r:SV × List RowM} (hd:findD F n=some d) (hok:G.Ok s' (i+1)) (hH:s'.H=s.H) (ht:∀ t ∈ s'.txs,∃ u ∈ s.txs,t.id=u.id)
    (hs:G.V s' (setO (ogD F) n ((ogD F n).1++[x],(ogD F n).2++[r.2]))) (os ls:SV):SerC G (i+1) s' ({ d with os:=os,ops:=d.ops++[x],ls:=ls,l:=d.l++[r] }::delD F n) all kvs:=by
  have hm:=h.mono hi
  obtain ⟨hdm,hid⟩:=findD_id hd
  refine ⟨hok,?_,by rw [hH];exact h.hist,h.nums,h.opsok,by rw [hH];exact h.expl,fun t htt=>?_,h.opn.upd hd hid rfl,fun a ha=>?_,hm.lenA⟩
  · rw [ogD_set F (n:=n) (by exact hid)]
    rw [ogD_some hd] at hs
    simpa using hs
  · rw [findD_cons,findD_del]
    by_cases e:d.id=t.id
    · rw [if_pos e];rfl
    · rw [if_neg e,if_neg (fun e2=>e (hid.trans e2.symm))]
      obtain ⟨u,hu,e3⟩:=ht t htt
      rw [e3];exact h.has u hu
  · rcases List.mem_cons.1 ha with rfl | ha
    · have:=h.lenF d hdm;simp;omega
    · exact hm.lenF a (delD_mem ha)
theorem SerC.put (h:SerC G i s F all kvs) (hi:i < 1000) {n:UInt32} {x:OpM} {s':StV} (hd:I.doS s n x=.put s'):∃ d,findD F n=some d∧∀ os ls,SerC G (i+1) s' ({ d with os:=os,ops:=d.ops++[x],ls:=ls,l:=d.l++[((⟨none,0,0⟩:SV),([]:List RowM))] }::delD F n) all kvs:=by
  obtain ⟨t,htm,hid,hx,hw,_,_,hH,ht,hok,hv⟩:=G.put h.ok (by omega) hd
  obtain ⟨d,he⟩:=Option.isSome_iff_exists.1 (h.has t htm)
  rw [hid] at he
  exact ⟨d,he,h.upd hi (x:=x) (r:=(⟨none,0,0⟩,[])) he hok hH ht (hv _ h.v)⟩
theorem SerC.look (h:SerC G i s F all kvs) (hi:i < 1000) {n:UInt32} {x:OpM} {s':StV} {rows:List RowM} (hd:I.doS s n x=.look s' rows) (sv:SV):∃ d,findD F n=some d∧∀ os ls,SerC G (i+1) s' ({ d with os:=os,ops:=d.ops++[x],ls:=ls,l:=d.l++[(sv,rows)] }::delD F n) all kvs:=by
  obtain ⟨t,htm,hid,hx,hw,_,_,hH,ht,hok,_,hv⟩:=G.look h.ok (by omega) hd
  obtain ⟨d,he⟩:=Option.isSome_iff_exists.1 (h.has t htm)
  rw [hid] at he
  exact ⟨d,he,h.upd hi (x:=x) (r:=(sv,rows)) he hok hH ht (hv _ h.v)⟩
def rowsC (all:List DidV) (k:Nat):List RowM:=rowsN (all.map fun a=>chs a.ops) k
theorem keys_rowsN {H:List (List ChgM)} (h:∀ cs ∈ H,∀ c ∈ cs,chgOk c=true) (k:Nat):KeysOk (rowsN H k):=
  changeR_keys List.Pairwise.nil (by simp [KeysOk]) fun c hc=>by
    obtain ⟨cs,h1,h2⟩:=List.mem_flatten.1 hc
    exact h cs (List.mem_of_mem_take h1) c h2
theorem SerC.run (h:SerC G i s F all kvs) {k:Nat} {a:DidV} (ha:all[k]?=some a) :
    (runM (rowsC all k) a.ops).1=a.l.map (·.2)∧(runM (rowsC all k) a.ops).2=rowsC all (k+1)∧(∀ x ∈ a.ops,opOk x=true)∧Rising (rowsC all k)∧KeysOk (rowsC all k)∧(rowsC all (k+1)).length≤(rowsC all k).length+i∧a.ops.length≤i∧a.l.length≤i:=by
  have hop:=h.opsok a (List.mem_of_getElem? ha)
  have h5:=h.lenA a (List.mem_of_getElem? ha)
  have hr:Rising (rowsC all k):=rowsN_rising _ _
  have h1:=h.expl k a ha
  have h2:(runM (rowsC all k) a.ops).2=rowsC all (k+1):=by
    rw [run_left hr a.ops hop]
    unfold rowsC rowsN
    rw [take_snoc (show (all.map fun a=>chs a.ops)[k]?=some (chs a.ops) by rw [List.getElem?_map,ha];rfl),List.flatten_append,changeR_app]
    simp
  have h6:=(runM_rows hr a.ops).2.1
  refine ⟨by unfold rowsC;rw [← h.hist];exact h1,h2,hop,hr,?_,?_,h5⟩
  · unfold rowsC
    rw [← h.hist]
    exact keys_rowsN (fun cs hcs=>((G.ok h.ok).recs cs hcs).2) k
  · rw [← h2];omega
theorem SerC.done (h:SerC G i s F all kvs):s.rows=rowsC all all.length:=by
  unfold StV.rows rowsC;rw [h.hist,List.length_map]
end
end Go.SL
namespace Go.SL
open Go
structure Solo {I:Kind} (G:Good I) where
  S:StV→UInt32→List RowM→List ChgM→Prop
  txs:∀ {s n rows own},S s n rows own→∃ t,s.txs=[t]∧t.id=n∧t.x.own=own∧s.rows=rows
  chk:∀ {s n rows own b},S s n rows own→G.Ok s b→∀ t ∈ s.txs,I.chk s t.x=false
  bad:∀ {s n x},opOk x=false→I.doS s n x=.err s 1
  put:∀ {s n rows own b x},S s n rows own→G.Ok s b→opOk x=true→writes x=true→∃ s',I.doS s n x=.put s'∧S s' n rows (own++[chgOf x])
  look:∀ {s n rows own b x},S s n rows own→G.Ok s b→opOk x=true→writes x=false→∃ s',I.doS s n x=.look s' (scanR (changeR rows own) (spanOf x) 256)∧S s' n rows own
  beg:∀ {s b n},G.Ok s b→s.txs=[]→n≠0→∀ q,S (begS s n q) n s.rows []
structure AloneC {I:Kind} {G:Good I} (Z:Solo G) (n:UInt32) (rows:List RowM) (at0:Nat) (s:StV) (b:Nat) (done:List OpM) (told:List (List RowM)):Prop where
  ok:G.Ok s b
  does:∃ own,Z.S s n rows own∧Does rows own done told
  at_:s.at_≤at0
section
variable {I : Kind} {G : Good I} {Z : Solo G} {n : UInt32} {rows : List RowM} {at0 : Nat} {s : StV} {b : Nat} {done : List OpM} {told : List (List RowM)}
theorem AloneC.mono (h:AloneC Z n rows at0 s b done told) {c:Nat} (hb:b≤c) (hc:c≤1000000000):AloneC Z n rows at0 s c done told:=⟨G.mono h.ok hb hc,h.does,h.at_⟩
theorem AloneC.step (h:AloneC Z n rows at0 s b done told) (hb:b+1≤1000000000) (x:OpM) :
    (opOk x=false∧I.doS s n x=.err s 1)∨(opOk x=true∧∃ s',I.doS s n x=.put s'∧AloneC Z n rows at0 s' (b+1) (done++[x]) (told++[[]])) ∨
    (opOk x=true∧∃ s' r,I.doS s n x=.look s' r∧r.length≤256∧AloneC Z n rows at0 s' (b+1) (done++[x]) (told++[r])):=by
  obtain ⟨own,hS,hD⟩:=h.does
  cases hx:opOk x with
  | false=>exact .inl ⟨rfl,Z.bad hx⟩
  | true=>
    right
    cases hw:writes x with
    | true=>
      left
      obtain ⟨s',h1,h2⟩:=Z.put hS h.ok hx hw
      obtain ⟨_,_,_,_,_,_,hat,_,_,hok,_⟩:=G.put h.ok hb h1
      exact ⟨rfl,s',h1,hok,⟨_,h2,hD.write hx hw⟩,by rw [hat];exact h.at_⟩
    | false=>
      right
      obtain ⟨s',h1,h2⟩:=Z.look hS h.ok hx hw
      obtain ⟨_,_,_,_,_,_,hat,_,_,hok,hl,_⟩:=G.look h.ok hb h1
      refine ⟨rfl,s',_,h1,hl,hok,⟨_,h2,hD.read ?_ hx hw⟩,by rw [hat];exact h.at_⟩
      obtain ⟨_,_,_,_,hr⟩:=Z.txs hS
      rw [← hr];exact s.rising
theorem AloneC.com (h:AloneC Z n rows at0 s b done told) (hb:b≤90) (ha:at0≤1000) :
    comE I s n=0∧(comS I s n).rows=(runM rows done).2∧(comS I s n).txs=[]∧(comS I s n).at_≤at0+82∧G.Ok (comS I s n) (b+1)∧comN I s n=UInt32.ofNat s.H.length+1∧∃ own,(comS I s n).H=s.H++[own]:=by
  obtain ⟨own,hS,hD⟩:=h.does
  obtain ⟨t,ht,hid,ho,hr⟩:=Z.txs hS
  have hck:=Z.chk hS h.ok t (by rw [ht];simp)
  have hok:=G.ok h.ok
  have hf:findU s.txs n=some t:=by rw [ht];simp [findU,hid]
  have hl:t.x.own.length≤90:=by have:=hok.own_le (t:=t) (by rw [ht];simp);omega
  have hc:=(chgs_len t.x.own).2 (hok.own t (by rw [ht];simp))
  have hlen:=chgsB_len t.x.own
  have hat:=h.at_
  have hfit:fitsS s t.x:=⟨by omega,by rw [hok.log.len];unfold secs;omega⟩
  have hE:comE I s n=0:=by simp [comE,hf,hck,hfit]
  have hS2:comS I s n=addS (I.ends s n) t.x.own:=by simp [comS,hf,hck,hfit]
  obtain ⟨e1,e2,e3,e4⟩:=G.endsE h.ok n
  refine ⟨hE,?_,?_,?_,G.com h.ok (by omega) n,by rw [comN,if_pos hE],t.x.own,?_⟩
  · rw [hS2,addS_rows]
    unfold StV.rows at hr ⊢
    rw [e3,hr,ho,hD.left]
  · rw [hS2];show (I.ends s n).txs=[];rw [e4,ht];simp [delU,hid]
  · rw [hS2];show (I.ends s n).at_+_≤_;rw [e2];unfold secs;omega
  · rw [hS2];show (I.ends s n).H++_=_;rw [e3]
theorem AloneC.abo (h:AloneC Z n rows at0 s b done told):aboE s n=0∧(aboS I s n).rows=rows:=by
  obtain ⟨own,hS,hD⟩:=h.does
  obtain ⟨t,ht,hid,ho,hr⟩:=Z.txs hS
  have hf:findU s.txs n=some t:=by rw [ht];simp [findU,hid]
  refine ⟨by simp [aboE,hf],?_⟩
  rw [← hr]
  unfold aboS StV.rows
  rw [hf]
  simp only [Option.isSome_some,if_true]
  rw [(G.endsE h.ok n).2.2.1]
theorem AloneC.start (hs:G.Ok s b) (ht:s.txs=[]) (hn:n≠0) (hat:s.at_≤at0) (q:Nat):begE s n=0∧AloneC Z n s.rows at0 (begS s n q) b [] []:=by
  have hE:begE s n=0:=by simp [begE,hn,ht,findU]
  refine ⟨hE,G.beg hs n q,⟨[],Z.beg hs ht hn q,Does.nil _⟩,?_⟩
  rw [begS,if_pos hE];exact hat
end
def st0 (d:DiskM) (at0:Nat) (H:List (List ChgM)):StV:=⟨d,at0,H,0,[],[]⟩
theorem st0_ok {s:StV} {b:Nat} (h:StOk s b):StOk (st0 s.d s.at_ s.H) b:=
  ⟨h.log,h.recs,by have:=h.sum;simp [st0] at this ⊢;omega,h.hl,by simp [st0],by simp [st0],by simp [st0],by simp [st0],h.bb⟩
theorem st0_first:StOk (st0 (newDisk 4096).sync 0 []) 0:=⟨DiskLogB.first,by simp [st0],by simp [st0],by simp [st0],by simp [st0],by simp [st0],by simp [st0],by simp [st0],by decide⟩
def stF:StV:=st0 (newDisk 4096).sync 0 []
theorem SerC.first {I:Kind} {G:Good I} (h:G.Ok stF 0) (hv:G.V stF (ogD [])):SerC G 0 stF [] [] []:=
  ⟨h,hv,rfl,by simp,by simp,by simp,by simp [stF,st0],fun n=>rfl,by simp,by simp⟩
end Go.SL
namespace Go.SL
open Go
def leastB (ts:List TxT) (m:UInt32):UInt32:=ts.foldl (fun m t=>if t.x.at_ < m then t.x.at_ else m) m
theorem leastB_spec:∀ (ts:List TxT) (m:UInt32),leastB ts m≤m∧(∀ t ∈ ts,leastB ts m≤t.x.at_)∧(leastB ts m=m∨∃ t ∈ ts,leastB ts m=t.x.at_)
  | [],m=>⟨UInt32.le_refl _,by simp,.inl rfl⟩
  | t::ts,m=>by
    obtain ⟨h1,h2,h3⟩:=leastB_spec ts (if t.x.at_ < m then t.x.at_ else m)
    have e1:(if t.x.at_ < m then t.x.at_ else m)≤m∧(if t.x.at_ < m then t.x.at_ else m)≤t.x.at_:=by
      split
      · rename_i h;exact ⟨UInt32.le_of_lt h,UInt32.le_refl _⟩
      · rename_i h;exact ⟨UInt32.le_refl _,UInt32.not_lt.1 h⟩
    refine ⟨UInt32.le_trans h1 e1.1,fun u hu=>?_,?_⟩
    · rcases List.mem_cons.1 hu with rfl | hu
      · exact UInt32.le_trans h1 e1.2
      · exact h2 u hu
    · show leastB ts _=m∨_
      rcases h3 with h3 | ⟨u,hu,h3⟩
      · by_cases h:t.x.at_ < m
        · right;exact ⟨t,by simp,by show leastB ts _=_;rw [h3,if_pos h]⟩
        · left;rw [h3,if_neg h]
      · right;exact ⟨u,by simp [hu],h3⟩
theorem leastB_eq {ts:List TxT} {m a:UInt32} (h1:a≤m) (h2:∀ t ∈ ts,a≤t.x.at_) (h3:a=m∨∃ t ∈ ts,a=t.x.at_):leastB ts m=a:=by
  obtain ⟨k1,k2,k3⟩:=leastB_spec ts m
  refine UInt32.le_antisymm ?_ ?_
  · rcases h3 with rfl | ⟨t,ht,rfl⟩
    · exact k1
    · exact k2 t ht
  · rcases k3 with e | ⟨t,ht,e⟩
    · rw [e];exact h1
    · rw [e];exact h2 t ht
def endsB (s:StV) (n:UInt32):StV:={ s with txs:=delU s.txs n,trim:=leastB (delU s.txs n) (UInt32.ofNat s.H.length) }
def doB (s:StV) (n:UInt32) (x:OpM):DoS:=
  if opOk x then match findU s.txs n with
    | none=>.err s 6
    | some t=>if writes x then .put { s with txs:=setU s.txs n { t.x with own:=t.x.own++[chgOf x] } }
      else .look { s with txs:=setU s.txs n { t.x with looked:=t.x.looked++[spanOf x] } } (scanR (changeR (rowsN s.H t.x.at_.toNat) t.x.own) (spanOf x) 256)
  else .err s 1
def chkB (s:StV) (t:TX):Bool:=t.looked.any fun p=>sinceH s.H t.at_.toNat p
def betaI:Kind:=⟨endsB,doB,chkB⟩
structure BetOk (s:StV) (b:Nat):Prop where
  st:StOk s b
  trim:s.trim.toNat≤s.H.length
  ats:∀ t ∈ s.txs,s.trim≤t.x.at_∧t.x.at_.toNat≤s.H.length
def VB (s:StV) (o:Og):Prop:=∀ t ∈ s.txs,t.x.own=chs (o t.id).1∧(∀ x ∈ (o t.id).1,opOk x=true)∧(runM (rowsN s.H t.x.at_.toNat) (o t.id).1).1=(o t.id).2∧∀ x ∈ (o t.id).1,writes x=false→spanOf x ∈ t.x.looked
theorem len32 {s:StV} {b:Nat} (h:StOk s b):(UInt32.ofNat s.H.length).toNat=s.H.length:=by
  have:=h.hl;have:=h.bb
  rw [UInt32.toNat_ofNat'];exact Nat.mod_eq_of_lt (by omega)
theorem ends_trim {s:StV} {b:Nat} (h:BetOk s b) (n:UInt32):s.trim≤(endsB s n).trim∧(endsB s n).trim≤UInt32.ofNat s.H.length∧∀ t ∈ delU s.txs n,(endsB s n).trim≤t.x.at_:=by
  obtain ⟨k1,k2,k3⟩:=leastB_spec (delU s.txs n) (UInt32.ofNat s.H.length)
  refine ⟨?_,k1,k2⟩
  show s.trim≤leastB _ _
  rcases k3 with e | ⟨t,ht,e⟩
  · rw [e,UInt32.le_iff_toNat_le,len32 h.st];exact h.trim
  · rw [e];exact (h.ats t (delU_sub.mem ht)).1
theorem BetOk.ends {s:StV} {b:Nat} (h:BetOk s b) (n:UInt32):BetOk (endsB s n) b:=by
  obtain ⟨h1,h2,h3⟩:=ends_trim h n
  refine ⟨h.st.sub rfl rfl rfl delU_sub,?_,fun t ht=>⟨h3 t ht,(h.ats t (delU_sub.mem ht)).2⟩⟩
  rw [UInt32.le_iff_toNat_le,len32 h.st] at h2;exact h2
theorem BetOk.mono {s:StV} {b c:Nat} (h:BetOk s b) (hb:b≤c) (hc:c≤1000000000):BetOk s c:=⟨h.st.mono hb hc,h.trim,h.ats⟩
theorem BetOk.beg {s:StV} {b:Nat} (h:BetOk s b) (n:UInt32) (q:Nat):BetOk (begS s n q) b:=by
  have hs:=h.st.beg n q
  refine ⟨hs,?_,?_⟩
  · unfold begS;split <;> exact h.trim
  · unfold begS
    split
    · intro t ht
      rcases List.mem_append.1 ht with ht | ht
      · exact h.ats t ht
      · simp at ht;subst ht
        have:=len32 h.st
        exact ⟨by rw [UInt32.le_iff_toNat_le];show _≤(UInt32.ofNat s.H.length).toNat;rw [this];exact h.trim,by show (UInt32.ofNat s.H.length).toNat≤s.H.length;omega⟩
    · exact h.ats
theorem BetOk.com {s:StV} {b:Nat} (h:BetOk s b) (hb:b+1≤1000000000) (n:UInt32):BetOk (comS betaI s n) (b+1):=by
  have hm:=h.mono (Nat.le_succ b) hb
  unfold comS
  cases hf:findU s.txs n with
  | none=>exact hm
  | some t=>
    simp only
    split
    · exact hm.ends n
    · split
      · rename_i hfit
        have he:=hm.ends n
        refine ⟨hm.st.add hf he.st rfl rfl rfl rfl (by have:=h.st.hl;omega) hfit,?_,fun u hu=>⟨(he.ats u hu).1,?_⟩⟩
        · show _≤(s.H++[_]).length
          have:=he.trim;rw [List.length_append];exact Nat.le_trans this (Nat.le_add_right _ _)
        · show _≤(s.H++[_]).length
          have:=(he.ats u hu).2;rw [List.length_append];exact Nat.le_trans this (Nat.le_add_right _ _)
      · exact hm.ends n
theorem doB_inv {s:StV} {n:UInt32} {x:OpM}:(∃ e,doB s n x=.err s e∧e≠0)∨∃ t,findU s.txs n=some t∧opOk x=true ∧
    ((writes x=true∧doB s n x=.put { s with txs:=setU s.txs n { t.x with own:=t.x.own++[chgOf x] } }) ∨
     (writes x=false∧doB s n x=.look { s with txs:=setU s.txs n { t.x with looked:=t.x.looked++[spanOf x] } } (scanR (changeR (rowsN s.H t.x.at_.toNat) t.x.own) (spanOf x) 256))):=by
  unfold doB
  cases hx:opOk x with
  | false=>left;exact ⟨1,by simp,by decide⟩
  | true=>
    cases hf:findU s.txs n with
    | none=>left;exact ⟨6,by simp,by decide⟩
    | some t=>
      right
      refine ⟨t,rfl,rfl,?_⟩
      cases hw:writes x <;> simp
theorem setU_ex {ts:List TxT} {n:UInt32} {x:TX}:∀ t ∈ setU ts n x,∃ u ∈ ts,t.id=u.id:=fun t ht=>by
  rcases setU_mem ht with ⟨u,hu,_,rfl⟩ | ⟨hu,_⟩
  · exact ⟨u,hu,rfl⟩
  · exact ⟨t,hu,rfl⟩
theorem BetOk.upd {s:StV} {b:Nat} (h:BetOk s b) (hb:b+1≤1000000000) {n:UInt32} {t:TxT} (hf:findU s.txs n=some t) {x:TX} (ha:x.at_=t.x.at_) (ho:x.own=t.x.own∨∃ c,chgOk c=true∧x.own=t.x.own++[c]) (hl:x.looked.length≤b+1) :
    BetOk { s with txs:=setU s.txs n x } (b+1):=by
  obtain ⟨hid,_⟩:=findU_mid hf
  have hm:=findU_mem hf
  refine ⟨h.st.upd hb hm rfl rfl rfl (by rw [hid]) ho hl,h.trim,fun u hu=>?_⟩
  rcases setU_mem hu with ⟨v,hv,hvi,rfl⟩ | ⟨hu,_⟩
  · have:=h.ats t hm;rw [← ha] at this;exact this
  · exact h.ats u hu
theorem uniqU {ts:List TxT} (hn:(ts.map (·.id)).Nodup) {n:UInt32} {t u:TxT} (hf:findU ts n=some t) (hu:u ∈ ts) (hi:u.id=n):u=t:=by
  have h1:=findU_of hn hu
  rw [hi,hf] at h1;exact (Option.some.inj h1).symm
theorem rows_since {H:List (List ChgM)} {a:Nat} {p:SpanM} (h:sinceH H a p=false) (r:RowM) (hr:inSpan p r.key=true):r ∈ rowsN H a↔r ∈ rowsN H H.length:=by
  have e:rowsN H H.length=changeR (rowsN H a) (H.drop a).flatten:=by
    rw [rowsN_all];unfold rowsN
    rw [← changeR_app,← List.flatten_append,List.take_append_drop]
  rw [e]
  refine (mem_change_skip _ (rowsN_rising H a) fun c hc e=>?_).symm
  obtain ⟨cs,h1,h2⟩:=List.mem_flatten.1 hc
  unfold sinceH at h
  have h3:=List.any_eq_false.1 h cs h1
  rw [List.any_eq_true] at h3
  exact h3 ⟨c,h2,by rw [e];exact hr⟩
def betaG:Good betaI where
  Ok:=BetOk
  V:=VB
  ok:=fun h=>h.st
  mono:=fun h hb hc=>h.mono hb hc
  beg:=fun h n q=>h.beg n q
  endsE:=fun _ _=>⟨rfl,rfl,rfl,rfl⟩
  ends:=fun h n=>h.ends n
  com:=fun h hb n=>h.com hb n
  err:=fun {s b n x s' e} h he=>by
    have he:doB s n x=.err s' e:=he
    rcases doB_inv (s:=s) (n:=n) (x:=x) with ⟨e',h1,h2⟩ | ⟨t,_,_,⟨_,h1⟩ | ⟨_,h1⟩⟩ <;> rw [h1] at he
    · cases he;exact ⟨h2,rfl,rfl,rfl,fun t ht=>⟨t,ht,rfl⟩,h,fun _ h=>h⟩
    · cases he
    · cases he
  put:=fun {s b n x s'} h hb he=>by
    have he:doB s n x=.put s':=he
    rcases doB_inv (s:=s) (n:=n) (x:=x) with ⟨e',h1,h2⟩ | ⟨t,hf,hx,⟨hw,h1⟩ | ⟨_,h1⟩⟩ <;> rw [h1] at he
    · cases he
    · cases he
      obtain ⟨hid,_⟩:=findU_mid hf
      refine ⟨t,findU_mem hf,hid,hx,hw,rfl,rfl,rfl,setU_ex,h.upd hb hf rfl (.inr ⟨_,chgOf_ok hx hw,rfl⟩) (Nat.le_succ_of_le (h.st.lks t (findU_mem hf))),fun o hv u hu=>?_⟩
      rcases setU_mem hu with ⟨v,hv',hvi,rfl⟩ | ⟨hu,hne⟩
      · obtain rfl:=uniqU h.st.ids hf hv' hvi
        obtain ⟨k1,k2,k3,k4⟩:=hv v hv'
        simp only
        rw [hvi] at k1 k2 k3 k4 ⊢
        rw [setO_same]
        refine ⟨by rw [chs_snoc_w _ hw,k1],fun y hy=>?_,?_,fun y hy hwy=>?_⟩
        · rcases List.mem_append.1 hy with hy | hy
          · exact k2 y hy
          · simp at hy;subst hy;exact hx
        · rw [runM_snoc,done_write hx hw];simp only;rw [k3]
        · rcases List.mem_append.1 hy with hy | hy
          · exact k4 y hy hwy
          · simp at hy;subst hy;rw [hw] at hwy;cases hwy
      · rw [setO_other _ _ hne];exact hv u hu
    · cases he
  look:=fun {s b n x s' rows} h hb he=>by
    have he:doB s n x=.look s' rows:=he
    rcases doB_inv (s:=s) (n:=n) (x:=x) with ⟨e',h1,h2⟩ | ⟨t,hf,hx,⟨hw,h1⟩ | ⟨hw,h1⟩⟩ <;> rw [h1] at he
    · cases he
    · cases he
    · cases he
      obtain ⟨hid,_⟩:=findU_mid hf
      refine ⟨t,findU_mem hf,hid,hx,hw,rfl,rfl,rfl,setU_ex,h.upd hb hf rfl (.inl rfl) (by have:=h.st.lks t (findU_mem hf);simp;omega),by unfold scanR;simp;omega,fun o hv u hu=>?_⟩
      rcases setU_mem hu with ⟨v,hv',hvi,rfl⟩ | ⟨hu,hne⟩
      · obtain rfl:=uniqU h.st.ids hf hv' hvi
        obtain ⟨k1,k2,k3,k4⟩:=hv v hv'
        simp only
        rw [hvi] at k1 k2 k3 k4 ⊢
        rw [setO_same]
        refine ⟨by rw [chs_snoc_r _ hw,k1],fun y hy=>?_,?_,fun y hy hwy=>?_⟩
        · rcases List.mem_append.1 hy with hy | hy
          · exact k2 y hy
          · simp at hy;subst hy;exact hx
        · rw [runM_snoc,run_left (rowsN_rising _ _) _ k2,done_read (changeR_rising _ (rowsN_rising _ _)).1 hx hw];simp only;rw [k3,k1]
        · rcases List.mem_append.1 hy with hy | hy
          · exact List.mem_append_left _ (k4 y hy hwy)
          · simp at hy;subst hy;simp
      · rw [setO_other _ _ hne];exact hv u hu
  vbeg:=fun {s b o} h hv n q hE=>by
    have hf:=(begE_zero hE).2
    intro t ht
    rw [begS,if_pos hE] at ht ⊢
    rcases List.mem_append.1 ht with ht | ht
    · rw [setO_other _ _ (fun e=>findU_none hf (List.mem_map.2 ⟨t,ht,e⟩))];exact hv t ht
    · simp at ht;subst ht
      show []=chs (setO o n ([],[]) n).1∧(∀ x ∈ (setO o n ([],[]) n).1,_)∧(runM _ (setO o n ([],[]) n).1).1=(setO o n ([],[]) n).2∧∀ x ∈ (setO o n ([],[]) n).1,_
      rw [setO_same];simp [chs,runM_nil]
  vends:=fun h hv n t ht=>hv t (delU_sub.mem ht)
  vcongr:=fun hv ho t ht=>by rw [← ho t ht];exact hv t ht
  vown:=fun hv t ht=>⟨(hv t ht).1,(hv t ht).2.1⟩
  vcom:=fun {s b o n t} h hv hf hc hfit=>by
    obtain ⟨hid,_⟩:=findU_mid hf
    obtain ⟨k1,k2,k3,k4⟩:=hv t (findU_mem hf)
    rw [hid] at k1 k2 k3 k4
    refine ⟨?_,fun u hu=>?_⟩
    · rw [← k3]
      refine run_agree s.rising (rowsN_rising _ _) _ k2 fun x hx hw r hr=>?_
      have:sinceH s.H t.x.at_.toNat (spanOf x)=false:=by
        have hc:chkB s t.x=false:=hc
        unfold chkB at hc
        have:=List.any_eq_false.1 hc _ (k4 x hx hw)
        simpa using this
      exact (rows_since this r hr).symm
    · have hu':u ∈ s.txs:=delU_sub.mem hu
      obtain ⟨j1,j2,j3,j4⟩:=hv u hu'
      refine ⟨j1,j2,?_,j4⟩
      show (runM (rowsN (s.H++[t.x.own]) _) _).1=_
      rw [rowsN_old (h.ats u hu').2];exact j3
end Go.SL
namespace Go.SL
open Go Go.Proofs Go.Sort Go.Shelf
theorem putCells_splice {β:Type} [Inhabited β] (f:β→Value) (off:Nat) (d:Array β) (l:List Value) (h:off+d.size≤l.length):(putCells f off d l.toArray).toList=splice l off (d.toList.map f):=by
  apply List.ext_getElem?
  intro i
  rw [splice_get _ _ _ (by simpa using h)]
  simp only [putCells,Array.toList_mapIdx,List.getElem?_mapIdx,List.length_map,Array.length_toList]
  by_cases h1:i < off
  · rw [if_pos h1]
    cases e:l[i]? with
    | none=>simp [e]
    | some x=>simp [e];intro h2;omega
  · rw [if_neg h1]
    by_cases h2:i < off+d.size
    · rw [if_pos h2]
      have hl:i < l.length:=by omega
      have hd:i - off < d.size:=by omega
      simp only [List.getElem?_eq_getElem hl,Option.map_some]
      rw [if_pos ⟨by omega,h2⟩,List.getElem?_map,Array.getElem?_toList,Array.getElem?_eq_getElem hd]
      simp [getElem!_pos d (i - off) hd]
    · rw [if_neg h2]
      cases e:l[i]? with
      | none=>simp [e]
      | some x=>simp [e];intro _ h3;omega
theorem flatK_list {α:Type} [Inhabited α] {enc:α→List Value} {k:Nat} (he:EncOk k enc) (d:Array α):(flatK enc k d).toList=d.toList.flatMap enc:=by
  apply List.ext_getElem?
  intro i
  rcases Nat.lt_or_ge i (d.size * k) with h | h
  · have k0:0 < k:=Nat.pos_of_ne_zero fun e=>by subst e;simp at h
    have hj:i / k < d.size:=Nat.div_lt_of_lt_mul (by rwa [Nat.mul_comm])
    have hx:d.toList[i / k]?=some d[i / k]!:=by rw [Array.getElem?_toList,Array.getElem?_eq_getElem hj,getElem!_pos d _ hj]
    have hm:=flat_at he hx (i % k) (Nat.mod_lt _ k0)
    rw [Nat.div_add_mod'] at hm
    rw [hm,Array.getElem?_toList,Array.getElem?_eq_getElem (by simpa using h)]
    have hg:=get_flatK enc k d i h
    rw [getElem!_pos _ i (by simpa using h)] at hg
    rw [hg]
    have:i % k < (enc d[i / k]!).length:=by rw [he.len];exact Nat.mod_lt _ k0
    rw [List.getElem?_eq_getElem this,List.getElem!_eq_getElem?_getD,List.getElem?_eq_getElem this];rfl
  · rw [List.getElem?_eq_none (by simpa using h),List.getElem?_eq_none (by rw [flat_len he];simpa using h)]
theorem splice_part (l vs:List Value) (o:Nat) (h:o+vs.length≤l.length):((splice l o vs).drop o).take vs.length=vs:=by
  have h0:(l.take o).length=o:=by rw [List.length_take];omega
  rw [splice_eq vs l o h,List.append_assoc,List.drop_left' h0,List.take_left' rfl]
section
variable {P : Program} {ρ : Ren} {g : World}
theorem sat_row {β:Type} [Inhabited β] (f:β→Value) {E z:Nat} {u:Value} {cs:List Value} {n b o c m:Nat} {l:List Value} {D:Array β} {os:Array Obj} {L R:List HP} {w:World} {S1 S2:Piece} (hw:Sat g L w) (hd:disj S1 S2) (l1:le S1 (heapOf w)) (l2:le S2 (heapOf w))
    (hu:u=.slice (some ⟨b,o,none⟩) n c) (hnc:n≤c) (hc:c < 9223372036854775808) (hS:S1 b=some (.cells (List.toArray l) E (0,0))) (hl:o+c * z≤l.length) (hD:D.size=n * z) (hcs:D.toList.map f=cs) (hR:stars R S2) :
    Sat g (Own E z u n cs::R) (grow (putRow f (Sort.ahead w m) b o D) os):=by
  have hb:=l1 _ _ hS
  have hbl:b < w.heap.size:=by
    rcases Nat.lt_or_ge b w.heap.size with h' | h'
    · exact h'
    · simp [heapOf,Array.getElem?_eq_none h'] at hb
  have hnz:n * z≤c * z:=Nat.mul_le_mul_right z hnc
  have hsz:(putRow f (Sort.ahead w m) b o D).heap.size=w.heap.size:=by simp [putRow,mapBlock,Sort.ahead]
  have hat:∀ i,i < w.heap.size→(grow (putRow f (Sort.ahead w m) b o D) os).heap[i]?=if i=b then some (.cells (putCells f o D l.toArray) E (0,0)) else w.heap[i]?:=fun i hi=>by
    have:(grow (putRow f (Sort.ahead w m) b o D) os).heap[i]?=(putRow f (Sort.ahead w m) b o D).heap[i]?:=by
      show ((putRow f (Sort.ahead w m) b o D).heap++os)[i]?=_
      rw [Array.getElem?_append_left (by rw [hsz];exact hi)]
    rw [this]
    show (w.heap.modify b (onCells _))[i]?=_
    rw [Array.getElem?_modify]
    by_cases e:i=b
    · subst e
      rw [if_pos rfl,if_pos rfl]
      have:w.heap[i]?=some (.cells (List.toArray l) E (0,0)):=hb
      rw [this];rfl
    · rw [if_neg (Ne.symm e),if_neg e]
  have hS2:S2 b=none:=by
    rcases hd b with h0 | h0
    · rw [hS] at h0;cases h0
    · exact h0
  refine ⟨hw.os,hw.tape,hw.output,?_,fun i=>if i=b then some (.cells (putCells f o D l.toArray) E (0,0)) else none,S2,fun i=>?_,fun i x hx=>?_,fun i x hx=>?_,?_,hR⟩
  · have:=hw.size
    show _≤((putRow f (Sort.ahead w m) b o D).heap++os).size
    rw [Array.size_append,hsz];omega
  · by_cases hi:i=b
    · subst hi;exact .inr hS2
    · left;simp [hi]
  · by_cases hi:i=b
    · subst hi;simp at hx;subst hx
      show (grow _ _).heap[i]?=_
      rw [hat i hbl,if_pos rfl]
    · simp [hi] at hx
  · have hi:i≠b:=fun e=>by subst e;rw [hS2] at hx;cases hx
    have hx':=l2 _ _ hx
    have hil:i < w.heap.size:=by
      rcases Nat.lt_or_ge i w.heap.size with h' | h'
      · exact h'
      · simp [heapOf,Array.getElem?_eq_none h'] at hx'
    show (grow _ _).heap[i]?=_
    rw [hat i hil,if_neg hi];exact hx'
  · have hsp:=putCells_splice f o D l (by rw [hD];omega)
    have hle:o+(D.toList.map f).length≤l.length:=by simp [hD];omega
    refine .inr ⟨b,o,c,splice l o (D.toList.map f),hu,hnc,hc,?_,?_,?_⟩
    · simp only [if_true]
      congr 1
      rw [← hsp]
    · rw [splice_len _ _ _ hle];exact hl
    · have h:=splice_part l (D.toList.map f) o hle
      rw [hcs] at h
      have hlen:cs.length=n * z:=by rw [← hcs];simp [hD]
      rw [hlen] at h
      rw [hcs];exact h.symm
theorem heap_row {β:Type} [Inhabited β] (f:β→Value) {b o m:Nat} {D:Array β} {os:Array Obj} {w:World} {S1 S2 S3:Piece} {x:Obj} (hd:disj S1 S2) (l2:le S2 (heapOf w)) (hS:S1 b=some x) (h3:le S3 S2):le S3 (heapOf (grow (putRow f (Sort.ahead w m) b o D) os)):=fun i y hy=>by
  have hy2:=h3 i y hy
  have hi:i≠b:=fun e=>by
    subst e
    rcases hd i with h0 | h0
    · rw [hS] at h0;cases h0
    · rw [hy2] at h0;cases h0
  have hy':=l2 _ _ hy2
  have hil:i < w.heap.size:=by
    rcases Nat.lt_or_ge i w.heap.size with h' | h'
    · exact h'
    · simp [heapOf,Array.getElem?_eq_none h'] at hy'
  have hsz:(putRow f (Sort.ahead w m) b o D).heap.size=w.heap.size:=by simp [putRow,mapBlock,Sort.ahead]
  show ((putRow f (Sort.ahead w m) b o D).heap++os)[i]?=_
  rw [Array.getElem?_append_left (by rw [hsz];exact hil)]
  show (w.heap.modify b (onCells _))[i]?=_
  rw [Array.getElem?_modify,if_neg (Ne.symm hi)]
  exact hy'
theorem holds_of {β:Type} [Inhabited β] (f:β→Value) {E b o:Nat} {l:List Value} {D:Array β} {w:World} (hb:w.heap[b]?=some (.cells (List.toArray l) E (0,0))) (hl:o+D.size≤l.length) (hc:(l.drop o).take D.size=D.toList.map f):Holds f w b o D:=fun j hj=>by
  refine ⟨?_,by simp [World.frozen?,hb]⟩
  have h:=congrArg (·[j]?) hc
  have hD2:D.toList[j]?=some D[j]!:=by rw [Array.getElem?_toList,Array.getElem?_eq_getElem hj,getElem!_pos D j hj]
  rw [td_get,if_pos hj,List.getElem?_map,hD2] at h
  simp only [World.cell?,hb,Option.isSome_none,Bool.false_eq_true,if_false]
  rw [List.getElem?_toArray,h];rfl
theorem perm_list {α:Type} [Inhabited α] {d d':Array α} (h:PermIn 0 d.size d d'):d'.size=d.size∧d'.toList.Perm d.toList:=by
  obtain ⟨h1,_,h3⟩:=h
  refine ⟨h1,?_⟩
  rwa [← h1,Array.extract_size,h1,Array.extract_size] at h3
theorem sorted_list {α:Type} [Inhabited α] {lt:α→α→Bool} {d':Array α} {n:Nat} (hn:d'.size=n) (h:SortedIn lt 0 n d'):d'.toList.Pairwise fun a b=>lt b a=false:=by
  rw [List.pairwise_iff_getElem]
  intro i j hi hj hij
  simp only [Array.length_toList] at hi hj
  have:=h i j (Nat.zero_le _) hij (by omega)
  rw [getElem!_pos d' i hi,getElem!_pos d' j hj] at this
  simpa using this
def CmpB (P:Program) (gf:Nat) (cb:List Value) (B:HP) {α:Type} (arg:α→Value) (cf:α→α→Int):Prop:=
  ∀ (W:World) (S:Piece),le S (heapOf W)→B S→∀ x y:α,Calls P gf (#[arg x,arg y]++cb.toArray) W fun e w'=>e=.returned (.int .i64 (cf x y))∧∃ q os',w'=grow (W.drewN q) os'
theorem sortK_spec {α:Type} [Inhabited α] (La:SlLaysF0.n6 P ρ) {k E:Nat} {enc:α→List Value} {cf:α→α→Int} {gf:Nat} {cb:List Value} {B:HP} {xs:List α} {a:Option Addr} {m0 c0:Nat} (aE:∀ w,(isAgg (ρ.t 24)).run P w=.ok true w) (zE:∀ w,(Go.sizeOf (ρ.t 24)).run P w=.ok k w) (he:EncOk k enc) (hO:SWO (ltOf cf))
    (eg:∀ args w,(callFunc gf args).run P w=.ok (.enter gf args) w) (hcmp:CmpB P gf cb B (fun x=>.agg (enc x).toArray) cf) (h0:0 < xs.length) (hn:xs.length≤68719476736) :
    Spec P g (ρ.f 6) [.slice a m0 c0,.func (.func gf) #[] cb.toArray] [Sl E k enc (.slice a m0 c0) xs,B] fun K R=>∀ ys,ys.Perm xs→ys.Pairwise (fun a b=>ltOf cf b a=false)→K (.tuple #[]) (Sl E k enc (.slice a m0 c0) ys::B::R):=by
  intro R K w hw hT
  obtain ⟨S1,S2,hd,l1,l2,hOwn,hR⟩:=hw.heap
  rcases hOwn with ⟨hz,_⟩ | ⟨b,o,c,l,hu,hnc,hc,hS,hl,hcs⟩
  · omega
  · obtain ⟨S3,S4,hd',l3,l4,hB,hR'⟩:=hR
    simp only [Value.slice.injEq] at hu
    obtain ⟨rfl,rfl,rfl⟩:=hu
    have hb:=l1 _ _ hS
    have hbl:b < w.heap.size:=by
      rcases Nat.lt_or_ge b w.heap.size with h' | h'
      · exact h'
      · simp [heapOf,Array.getElem?_eq_none h'] at hb
    have hnz:xs.length * k≤c0 * k:=Nat.mul_le_mul_right k hnc
    have hH:HoldsK enc k w b o xs.toArray:=holds_of id hb (by rw [size_flatK];simp;omega) (by rw [size_flatK,flatK_list he];simp [hcs])
    refine (AnyQ.slices_SortFunc La k aE zE enc he.len (fun x v hv=>ones_ok (he.one x) v hv) cf hO gf cb.toArray b o c0 xs.toArray w eg (fun m os dk _ x y=>hcmp _ S3 (heap_row id hd l2 hS l3) hB x y) hH hbl (by simp;omega)).mono ?_
    rintro e w' ⟨he',d',n,os,hp,hs,rfl⟩
    obtain ⟨p1,p2⟩:=perm_list hp
    have hlen:d'.toList.length=xs.length:=by rw [p2.length_eq]
    refine ⟨_,_,he',hT d'.toList (by simpa using p2) (sorted_list p1 hs),?_⟩
    unfold Sl
    rw [hlen]
    refine sat_row (β:=Value) id hw hd l1 l2 rfl hnc hc hS hl (by rw [size_flatK,p1];simp) ?_ ⟨S3,S4,hd',l3,l4,hB,hR'⟩
    rw [List.map_id,flatK_list he]
theorem sort1_spec {α:Type} [Inhabited α] (La:SlLaysF.n6 P ρ) {E:Nat} {enc:α→Value} {cf:α→α→Int} {gf:Nat} {cb:List Value} {B:HP} {xs:List α} {a:Option Addr} {m0 c0:Nat} (h1:∀ x,(enc x).oneCell'=true) (hO:SWO (ltOf cf))
    (eg:∀ args w,(callFunc gf args).run P w=.ok (.enter gf args) w) (hcmp:CmpB P gf cb B enc cf) (h0:0 < xs.length) (hn:xs.length≤68719476736) :
    Spec P g (ρ.f 6) [.slice a m0 c0,.func (.func gf) #[] cb.toArray] [Sl E 1 (fun x=>[enc x]) (.slice a m0 c0) xs,B] fun K R=>∀ ys,ys.Perm xs→ys.Pairwise (fun a b=>ltOf cf b a=false)→K (.tuple #[]) (Sl E 1 (fun x=>[enc x]) (.slice a m0 c0) ys::B::R):=by
  intro R K w hw hT
  obtain ⟨S1,S2,hd,l1,l2,hOwn,hR⟩:=hw.heap
  rcases hOwn with ⟨hz,_⟩ | ⟨b,o,c,l,hu,hnc,hc,hS,hl,hcs⟩
  · omega
  · obtain ⟨S3,S4,hd',l3,l4,hB,hR'⟩:=hR
    simp only [Value.slice.injEq] at hu
    obtain ⟨rfl,rfl,rfl⟩:=hu
    have hb:=l1 _ _ hS
    have hbl:b < w.heap.size:=by
      rcases Nat.lt_or_ge b w.heap.size with h' | h'
      · exact h'
      · simp [heapOf,Array.getElem?_eq_none h'] at hb
    have hfm:∀ ys:List α,ys.flatMap (fun x=>[enc x])=ys.map enc:=fun ys=>by induction ys <;> simp_all
    have hH:Holds enc w b o xs.toArray:=holds_of enc hb (by simp;omega) (by simp [← hfm];rw [hcs];simp)
    refine (Any.slices_SortFunc La enc h1 cf hO gf cb.toArray b o c0 xs.toArray w eg (fun m os dk _ x y=>hcmp _ S3 (heap_row enc hd l2 hS l3) hB x y) hH hbl (by simp;omega)).mono ?_
    rintro e w' ⟨he',d',n,os,hp,hs,rfl⟩
    obtain ⟨p1,p2⟩:=perm_list hp
    have hlen:d'.toList.length=xs.length:=by rw [p2.length_eq]
    refine ⟨_,_,he',hT d'.toList (by simpa using p2) (sorted_list p1 hs),?_⟩
    unfold Sl
    rw [hlen]
    refine sat_row enc hw hd l1 l2 rfl hnc hc hS hl (by rw [p1];simp) (hfm _).symm ⟨S3,S4,hd',l3,l4,hB,hR'⟩
theorem spec_unpu {ι:Type} {f:FuncId} {args:List Value} {A:HP} {v:Value} {φ:ι→Prop} {B:ι→HP} (h:Spec P g f args [A,pu True] fun K R=>∀ y,φ y→K v (B y::pu True::R)):Spec P g f args [A] fun K R=>∀ y,φ y→K v (B y::R):=fun R K w hw hT=>by
  refine (h R (fun v M=>∃ M',K v M'∧∀ S,stars M S→stars M' S) w (hw.conv fun S h=>stars_cons (fun S h=>pu_stars trivial h) h) fun y hy=>⟨_,hT y hy,fun S h=>stars_cons (fun S h=>stars_tail h) h⟩).mono ?_
  rintro e w' ⟨v',M,rfl,⟨M',k1,k2⟩,hs⟩
  exact ⟨v',M',rfl,k1,hs.conv k2⟩
theorem spec_imp {ι:Type} {f:FuncId} {args:List Value} {Pre:List HP} {v:Value} {φ ψ:ι→Prop} {B:ι→HP} (h:Spec P g f args Pre fun K R=>∀ y,φ y→K v (B y::R)) (hi:∀ y,φ y→ψ y):Spec P g f args Pre fun K R=>∀ y,ψ y→K v (B y::R):=fun R K w hw hT=>h R K w hw fun y hy=>hT y (hi y hy)
theorem own_zero {E z:Nat} {a:Option Addr} {m c:Nat} {cs:List Value} {S:Piece} (h:Own E z (.slice a m c) 0 cs S):m=0:=by
  rcases h with ⟨_,_,a',e⟩ | ⟨_,_,_,_,e,_⟩ <;> (simp only [Value.slice.injEq] at e;obtain ⟨_,e,_⟩:=e;exact e)
end
end Go.SL
namespace Go.SL
open Go Go.Proofs Go.Sort
section
variable {κ β : Type} [DecidableEq κ]
def aget (l:List (κ × β)) (k:κ):Option β:=(l.find? fun p=>decide (p.1=k)).map (·.2)
def aset (l:List (κ × β)) (k:κ) (b:β):List (κ × β):=match l.findIdx? (fun p=>decide (p.1=k)) with
  | some i=>l.set i (k,b)
  | none=>l++[(k,b)]
theorem mget_a (f:β→Value) (l:List (κ × β)) (k:κ):mget (l.map fun p=>(p.1,f p.2)) k=(aget l k).map f:=by
  unfold mget aget
  rw [List.find?_map]
  simp only [Option.map_map]
  rfl
theorem mset_a (f:β→Value) (l:List (κ × β)) (k:κ) (b:β):mset (l.map fun p=>(p.1,f p.2)) k (f b)=(aset l k b).map fun p=>(p.1,f p.2):=by
  have h:midx (l.map fun p=>(p.1,f p.2)) k=l.findIdx? (fun p=>decide (p.1=k)):=by
    unfold midx;rw [List.findIdx?_map];rfl
  unfold mset aset
  rw [h]
  cases List.findIdx? (fun p:κ × β=>decide (p.1=k)) l with
  | none=>simp
  | some i=>simp [List.map_set]
theorem aset_get (l:List (κ × β)) (k:κ) (b:β) (j:κ):aget (aset l k b) j=if j=k then some b else aget l j:=by
  unfold aset aget
  induction l with
  | nil=>
    by_cases h:j=k
    · subst h;simp
    · simp [h,Ne.symm h]
  | cons x l ih=>
    rw [List.findIdx?_cons]
    by_cases hx:x.1=k
    · simp only [hx,decide_true,if_true,List.set_cons_zero,List.find?_cons]
      by_cases h:j=k
      · subst h;simp
      · have h':¬ k=j:=fun e=>h e.symm
        simp [h,h']
    · simp only [hx,decide_false,Bool.false_eq_true,if_false]
      cases hf:List.findIdx? (fun p:κ × β=>decide (p.1=k)) l with
      | none=>
        rw [hf] at ih
        simp only [Option.map_none,List.cons_append,List.find?_cons]
        by_cases h:x.1=j
        · have:j≠k:=fun e=>hx (h.trans e)
          simp [h,this]
        · simp only [h,decide_false];exact ih
      | some i=>
        rw [hf] at ih
        simp only [Option.map_some,List.set_cons_succ,List.find?_cons]
        by_cases h:x.1=j
        · have:j≠k:=fun e=>hx (h.trans e)
          simp [h,this]
        · simp only [h,decide_false];exact ih
theorem aset_nodup {l:List (κ × β)} (hn:(l.map (·.1)).Nodup) (k:κ) (b:β):((aset l k b).map (·.1)).Nodup:=by
  unfold aset
  split
  · rename_i i hi
    have:(l.set i (k,b)).map (·.1)=l.map (·.1):=by
      rw [List.map_set]
      apply List.ext_getElem?
      intro j
      rw [List.getElem?_set]
      obtain ⟨h1,h2,_⟩:=List.findIdx?_eq_some_iff_getElem.1 hi
      split
      · rename_i e;subst e
        rw [if_pos (by simpa using h1)]
        simp only [List.getElem?_map,List.getElem?_eq_getElem h1,Option.map_some]
        simp at h2;rw [h2]
      · rfl
    rw [this];exact hn
  · rename_i hi
    rw [List.map_append,List.nodup_append]
    refine ⟨hn,by simp,?_⟩
    intro a ha b hb e
    simp at hb;subst hb;subst e
    obtain ⟨p,hp,rfl⟩:=List.mem_map.1 ha
    have:=List.findIdx?_eq_none_iff.1 hi p hp
    simp at this
theorem aset_len (l:List (κ × β)) (k:κ) (b:β):(aset l k b).length≤l.length+1:=by
  unfold aset;split <;> simp
theorem aget_mem {l:List (κ × β)} (hn:(l.map (·.1)).Nodup) {p:κ × β} (h:p ∈ l):aget l p.1=some p.2:=by
  unfold aget
  induction l with
  | nil=>cases h
  | cons x l ih=>
    rw [List.map_cons] at hn
    obtain ⟨h1,h2⟩:=List.nodup_cons.1 hn
    rw [List.find?_cons]
    rcases List.mem_cons.1 h with rfl | h
    · simp
    · have:x.1≠p.1:=fun e=>h1 (e ▸ List.mem_map.2 ⟨p,h,rfl⟩)
      simp only [this,decide_false]
      exact ih h2 h
theorem aget_some {l:List (κ × β)} {k:κ} {b:β} (h:aget l k=some b):(k,b) ∈ l:=by
  unfold aget at h
  rw [Option.map_eq_some_iff] at h
  obtain ⟨p,h1,rfl⟩:=h
  have h2:=List.find?_some h1
  have h3:=List.mem_of_find?_eq_some h1
  simp at h2;subst h2
  exact h3
end
abbrev Mine:=List (ByteArray × ChgM)
def mineL (cs:List ChgM):Mine:=cs.foldl (fun l c=>aset l c.key c) []
def kvC (p:ByteArray × ChgM):ByteArray × Value:=(p.1,p.2.v)
theorem mineL_snoc (cs:List ChgM) (c:ChgM):mineL (cs++[c])=aset (mineL cs) c.key c:=by simp [mineL]
theorem mineL_ok:∀ cs:List ChgM,((mineL cs).map (·.1)).Nodup∧(mineL cs).length≤cs.length:=by
  refine snoc_ind ⟨List.nodup_nil,Nat.le_refl _⟩ fun cs c ⟨h1,h2⟩=>?_
  rw [mineL_snoc]
  refine ⟨aset_nodup h1 _ _,?_⟩
  have:=aset_len (mineL cs) c.key c
  rw [List.length_append,List.length_singleton];omega
theorem mset_C (l:Mine) (c:ChgM):mset (l.map kvC) c.key c.v=(aset l c.key c).map kvC:=mset_a ChgM.v l c.key c
theorem mget_C (l:Mine) (k:ByteArray):mget (l.map kvC) k=(aget l k).map ChgM.v:=mget_a ChgM.v l k
theorem getR_mine {V:List RowM} (hV:Rising V) (k:ByteArray):∀ cs:List ChgM,getR (changeR V cs) k=match aget (mineL cs) k with
    | some c=>if c.gone then none else some c.val
    | none=>getR V k:=by
  refine snoc_ind rfl fun cs c ih=>?_
  rw [changeR_snoc,mineL_snoc,getR_apply (changeR_rising cs hV).1,aset_get]
  by_cases e:k=c.key
  · rw [if_pos e,if_pos e]
  · rw [if_neg e,if_neg e];exact ih
def entL (sp:SpanM) (l:Mine):List RowM:=l.filterMap fun p=>if !p.2.gone && inSpan sp p.1 then some ⟨p.1,p.2.val⟩ else none
theorem entL_mid (sp:SpanM) (A B:Mine) (p:ByteArray × ChgM):entL sp (A++p::B)=entL sp A++((if !p.2.gone && inSpan sp p.1 then [⟨p.1,p.2.val⟩] else [])++entL sp B):=by
  unfold entL
  rw [List.filterMap_append,List.filterMap_cons]
  split
  · rename_i h
    split at h
    · cases h
    · rename_i h2;rw [if_neg h2];rfl
  · rename_i b h
    split at h
    · rename_i h2;rw [if_pos h2];cases h;rfl
    · cases h
theorem entL_app (sp:SpanM) (A B:Mine):entL sp (A++B)=entL sp A++entL sp B:=by unfold entL;rw [List.filterMap_append]
def baseL (V:List RowM) (sp:SpanM) (m:Mine):List RowM:=V.filter fun r=>inSpan sp r.key && (aget m r.key).isNone
theorem entL_mem {sp:SpanM} {l:Mine} {r:RowM}:r ∈ entL sp l↔∃ c,(r.key,c) ∈ l∧c.gone=false∧inSpan sp r.key=true∧r.val=c.val:=by
  unfold entL
  rw [List.mem_filterMap]
  constructor
  · rintro ⟨p,h1,h2⟩
    split at h2
    · rename_i h3
      simp only [Bool.and_eq_true,Bool.not_eq_true'] at h3
      cases h2
      exact ⟨p.2,h1,h3.1,h3.2,rfl⟩
    · cases h2
  · rintro ⟨c,h1,h2,h3,h4⟩
    refine ⟨_,h1,?_⟩
    rw [if_pos (by simp [h2,h3])]
    cases r;simp at h4;rw [h4]
theorem look_sorted {V:List RowM} (hV:Rising V) (cs:List ChgM) (sp:SpanM) {ys:List RowM} (hp:ys.Perm (baseL V sp (mineL cs)++entL sp (mineL cs))) (hs:ys.Pairwise fun a b=>sLt b.key a.key=false):ys=(changeR V cs).filter fun r=>inSpan sp r.key:=by
  obtain ⟨hm,_⟩:=mineL_ok cs
  have hC:=(changeR_rising cs hV).1
  have hmem:∀ r,r ∈ ys↔r ∈ (changeR V cs).filter fun r=>inSpan sp r.key:=fun r=>by
    rw [hp.mem_iff,List.mem_append,List.mem_filter,mem_getR hC,getR_mine hV]
    unfold baseL
    rw [List.mem_filter,entL_mem,Bool.and_eq_true,mem_getR hV]
    cases ha:aget (mineL cs) r.key with
    | none=>
      simp only [Option.isNone_none,and_true]
      constructor
      · rintro (h | ⟨c,h,_⟩)
        · exact h
        · rw [aget_mem hm h] at ha;cases ha
      · exact .inl
    | some c=>
      simp only [Option.isNone_some,Bool.false_eq_true,and_false,false_or]
      constructor
      · rintro ⟨d,h1,h2,h3,h4⟩
        have:=aget_mem hm h1
        simp only at this
        rw [ha] at this;cases this
        exact ⟨by rw [h2];simp [h4],h3⟩
      · rintro ⟨h1,h2⟩
        cases hg:c.gone with
        | true=>rw [hg] at h1;simp at h1
        | false=>
          rw [hg] at h1
          simp at h1
          exact ⟨c,aget_some ha,hg,h2,h1.symm⟩
  refine rising_ext ?_ (hC.sublist List.filter_sublist) hmem
  have hnd:(ys.map (·.key)).Nodup:=by
    rw [(hp.map _).nodup_iff,List.map_append,List.nodup_append]
    refine ⟨?_,?_,?_⟩
    · have h1:=hV.sublist (List.filter_sublist (p:=fun r=>inSpan sp r.key && (aget (mineL cs) r.key).isNone))
      rw [List.nodup_iff_pairwise_ne,List.pairwise_map]
      exact h1.imp fun h e=>by rw [e,sLt_irrefl] at h;cases h
    · have:∀ l:Mine,(l.map (·.1)).Nodup→((entL sp l).map (·.key)).Nodup:=fun l hl=>by
        have hsub:((entL sp l).map (·.key)).Sublist (l.map (·.1)):=by
          unfold entL
          clear hl
          induction l with
          | nil=>exact List.Sublist.refl _
          | cons p l ih=>
            rw [List.filterMap_cons]
            split
            · exact List.Sublist.cons _ ih
            · rename_i b h
              split at h
              · cases h;exact ih.cons_cons _
              · cases h
        exact hl.sublist hsub
      exact this _ hm
    · intro a ha b hb e
      obtain ⟨r,hr,rfl⟩:=List.mem_map.1 ha
      obtain ⟨q,hq,rfl⟩:=List.mem_map.1 hb
      unfold baseL at hr
      rw [List.mem_filter,Bool.and_eq_true] at hr
      obtain ⟨c,h1,_⟩:=entL_mem.1 hq
      have h2:=aget_mem hm h1
      simp only at h2
      rw [← e] at h2
      rw [h2] at hr;simp at hr
  rw [List.nodup_iff_pairwise_ne,List.pairwise_map] at hnd
  refine (hs.and hnd).imp fun ⟨h1,h2⟩=>?_
  rcases sLt_tri _ _ with h | h | h
  · exact h
  · exact absurd h h2
  · rw [h] at h1;cases h1
def cfRow (x y:RowM):Int:=if sLt x.key y.key then -1 else 1
theorem lt_cfRow (x y:RowM):ltOf cfRow x y=sLt x.key y.key:=by
  unfold ltOf cfRow
  cases sLt x.key y.key <;> simp
theorem swoRow:SWO (ltOf cfRow) where
  irrefl x:=by rw [lt_cfRow,sLt_irrefl]
  trans x y z h1 h2:=by rw [lt_cfRow] at *;exact sLt_trans h1 h2
  ntrans x y z h1 h2:=by rw [lt_cfRow] at *;exact sLe_trans h2 h1
instance:Inhabited RowM:=⟨⟨.empty,0⟩⟩
abbrev Of {α:Type} (ts:List α):={ t:α // t ∈ ts }
def cfTx {ts:List TxT} (x y:Of ts):Int:=(x.1.x.at_.toNat:Int) - y.1.x.at_.toNat
theorem lt_cfTx {ts:List TxT} (x y:Of ts):ltOf cfTx x y=decide (x.1.x.at_ < y.1.x.at_):=by
  unfold ltOf cfTx
  rw [Bool.eq_iff_iff]
  simp only [decide_eq_true_eq,UInt32.lt_iff_toNat_lt]
  omega
theorem swoTx {ts:List TxT}:SWO (ltOf (cfTx (ts:=ts))) where
  irrefl x:=by rw [lt_cfTx];simp [UInt32.lt_iff_toNat_lt]
  trans x y z h1 h2:=by rw [lt_cfTx] at *;simp only [decide_eq_true_eq,UInt32.lt_iff_toNat_lt] at *;omega
  ntrans x y z h1 h2:=by rw [lt_cfTx] at *;simp only [decide_eq_false_iff_not,UInt32.lt_iff_toNat_lt] at *;omega
theorem least_first {ts:List TxT} {now:UInt32} {ys:List TxT} (hp:ys.Perm ts) (hs:ys.Pairwise fun a b=>decide (b.x.at_ < a.x.at_)=false) (hle:∀ t ∈ ts,t.x.at_≤now):leastB ts now=match ys.head? with
    | some t=>t.x.at_
    | none=>now:=by
  cases ys with
  | nil=>rw [List.nil_perm.1 hp];rfl
  | cons y ys=>
    have hy:y ∈ ts:=hp.mem_iff.1 (by simp)
    refine leastB_eq (hle y hy) (fun t ht=>?_) (.inr ⟨y,hy,rfl⟩)
    rcases List.mem_cons.1 (hp.mem_iff.2 ht) with rfl | h
    · exact UInt32.le_refl _
    · have:=(List.pairwise_cons.1 hs).1 t h
      exact UInt32.not_lt.1 (by simpa using this)
section
variable {P : Program} {g : World} {Γ : Env} {L M : List HP} {dst : Option Tmp} {t : TypeId} {pos : String} {aft : Array Edge} {gd : Option (Nat × Bool)}
theorem e_minN {x y:Operand} {T U:TypeId} {k j:IntKind} {a b:Nat} (hx:ev Γ x=some (.int k a):=by rfl) (hy:ev Γ y=some (.int j b):=by rfl):EO P g ⟨dst,.call ⟨.builtin .min,#[x,y],#[T,U]⟩,t,pos,aft,gd⟩ Γ L (.int k (min a b:Nat)):=by
  have h:=e_minI (P:=P) (g:=g) (L:=L) (dst:=dst) (t:=t) (pos:=pos) (aft:=aft) (gd:=gd) (T:=T) (U:=U) hx hy
  rw [show (if (b:Int) < a then (b:Int) else a)=((min a b:Nat):Int) by split <;> omega] at h
  exact h
theorem e_lookC {m:Value} {d:TypeDesc} {kt:TypeId} {l:Mine} {x i:Operand} {T e:TypeId} {k:ByteArray} (ht:P.underlying T=some (.map kt e)) (hk:KeyOk P kt d eStr) (hz:(P.info? e).bind (·.zero)=some (.agg #[.string .empty,.int .u32 0,.bool false])) (hx:ev Γ x=some m:=by rfl) (hi:ev Γ i=some (.string k):=by rfl) (hp:Pick L (Mp eStr m (l.map kvC)) M:=by repeat first | exact .z | apply Pick.s) :
    EO P g ⟨dst,.lookup T x i true,t,pos,aft,gd⟩ Γ L (.tuple #[((aget l k).getD ⟨.empty,0,false⟩).v,.bool (aget l k).isSome]):=by
  have h:=e_lookup2 (g:=g) (L:=L) (dst:=dst) (t:=t) (pos:=pos) (aft:=aft) (gd:=gd) (x:=x) (i:=i) (k:=k) ht hk hz hx hi hp
  rw [mget_C] at h
  cases hf:aget l k with
  | none=>rw [hf] at h;exact h
  | some c=>rw [hf] at h;exact h
end
end Go.SL
