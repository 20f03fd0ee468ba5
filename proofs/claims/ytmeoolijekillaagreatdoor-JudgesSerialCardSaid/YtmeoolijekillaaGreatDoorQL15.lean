import Derived.Test.YtmeoolijekillaaGreatDoorQL14
import Derived.Shelf.SlSortCmp.WholeK
import Derived.Shelf.SlSortCmp.Whole1
import Derived.Sort.AssemblyPlain
set_option linter.unusedSimpArgs false
set_option linter.unusedVariables false
set_option linter.unusedSectionVars false
namespace Go.SL
open Go Go.Proofs Go.Sort Go.Shelf
theorem putCells_splice {β:Type} [Inhabited β] (f:β→Value) (off:Nat) (d:Array β) (l:List Value) (h:off+d.size≤l.length):(putCells f off d l.toArray).toList=splice l off (d.toList.map f):=by
  apply List.ext_getElem?
  intro i
  rw [splice_get _ _ _ (by simpa using h)]
  simp only [putCells,Array.toList_mapIdx,List.getElem?_mapIdx,List.length_map,Array.length_toList]
  by_cases h1:i < off
  · rw [if_pos h1]
    cases e:l[i]? with
    | none=>simp [e]
    | some x=>simp [e];intro h2;omega
  · rw [if_neg h1]
    by_cases h2:i < off+d.size
    · rw [if_pos h2]
      have hl:i < l.length:=by omega
      have hd:i - off < d.size:=by omega
      simp only [List.getElem?_eq_getElem hl,Option.map_some]
      rw [if_pos ⟨by omega,h2⟩,List.getElem?_map,Array.getElem?_toList,Array.getElem?_eq_getElem hd]
      simp [getElem!_pos d (i - off) hd]
    · rw [if_neg h2]
      cases e:l[i]? with
      | none=>simp [e]
      | some x=>simp [e];intro _ h3;omega
theorem splice_part (l vs:List Value) (o:Nat) (h:o+vs.length≤l.length):((splice l o vs).drop o).take vs.length=vs:=by
  have h0:(l.take o).length=o:=by rw [List.length_take];omega
  rw [splice_eq vs l o h,List.append_assoc,List.drop_left' h0,List.take_left' rfl]
section
variable {P : Program} {ρ : Ren} {g : World}
theorem sat_row {β:Type} [Inhabited β] (f:β→Value) {E z:Nat} {u:Value} {cs:List Value} {n b o c m:Nat} {l:List Value} {D:Array β} {os:Array Obj} {L R:List HP} {w:World} {S1 S2:Piece} (hw:Sat g L w) (hd:disj S1 S2) (l1:le S1 (heapOf w)) (l2:le S2 (heapOf w))
    (hu:u=.slice (some ⟨b,o,none⟩) n c) (hnc:n≤c) (hc:c < 9223372036854775808) (hS:S1 b=some (.cells (List.toArray l) E (0,0))) (hl:o+c * z≤l.length) (hD:D.size=n * z) (hcs:D.toList.map f=cs) (hR:stars R S2) :
    Sat g (Own E z u n cs::R) (grow (putRow f (Sort.ahead w m) b o D) os):=by
  have hb:=l1 _ _ hS
  have hbl:b < w.heap.size:=by
    rcases Nat.lt_or_ge b w.heap.size with h' | h'
    · exact h'
    · simp [heapOf,Array.getElem?_eq_none h'] at hb
  have hnz:n * z≤c * z:=Nat.mul_le_mul_right z hnc
  have hsz:(putRow f (Sort.ahead w m) b o D).heap.size=w.heap.size:=by simp [putRow,mapBlock,Sort.ahead]
  have hat:∀ i,i < w.heap.size→(grow (putRow f (Sort.ahead w m) b o D) os).heap[i]?=if i=b then some (.cells (putCells f o D l.toArray) E (0,0)) else w.heap[i]?:=fun i hi=>by
    have:(grow (putRow f (Sort.ahead w m) b o D) os).heap[i]?=(putRow f (Sort.ahead w m) b o D).heap[i]?:=by
      show ((putRow f (Sort.ahead w m) b o D).heap++os)[i]?=_
      rw [Array.getElem?_append_left (by rw [hsz];exact hi)]
    rw [this]
    show (w.heap.modify b (onCells _))[i]?=_
    rw [Array.getElem?_modify]
    by_cases e:i=b
    · subst e
      rw [if_pos rfl,if_pos rfl]
      have:w.heap[i]?=some (.cells (List.toArray l) E (0,0)):=hb
      rw [this];rfl
    · rw [if_neg (Ne.symm e),if_neg e]
  have hS2:S2 b=none:=by
    rcases hd b with h0 | h0
    · rw [hS] at h0;cases h0
    · exact h0
  refine ⟨hw.os,hw.tape,hw.output,?_,fun i=>if i=b then some (.cells (putCells f o D l.toArray) E (0,0)) else none,S2,fun i=>?_,fun i x hx=>?_,fun i x hx=>?_,?_,hR⟩
  · have:=hw.size
    show _≤((putRow f (Sort.ahead w m) b o D).heap++os).size
    rw [Array.size_append,hsz];omega
  · by_cases hi:i=b
    · subst hi;exact .inr hS2
    · left;simp [hi]
  · by_cases hi:i=b
    · subst hi;simp at hx;subst hx
      show (grow _ _).heap[i]?=_
      rw [hat i hbl,if_pos rfl]
    · simp [hi] at hx
  · have hi:i≠b:=fun e=>by subst e;rw [hS2] at hx;cases hx
    have hx':=l2 _ _ hx
    have hil:i < w.heap.size:=by
      rcases Nat.lt_or_ge i w.heap.size with h' | h'
      · exact h'
      · simp [heapOf,Array.getElem?_eq_none h'] at hx'
    show (grow _ _).heap[i]?=_
    rw [hat i hil,if_neg hi];exact hx'
  · have hsp:=putCells_splice f o D l (by rw [hD];omega)
    have hle:o+(D.toList.map f).length≤l.length:=by simp [hD];omega
    refine .inr ⟨b,o,c,splice l o (D.toList.map f),hu,hnc,hc,?_,?_,?_⟩
    · simp only [if_true]
      congr 1
      rw [← hsp]
    · rw [splice_len _ _ _ hle];exact hl
    · have h:=splice_part l (D.toList.map f) o hle
      rw [hcs] at h
      have hlen:cs.length=n * z:=by rw [← hcs];simp [hD]
      rw [hlen] at h
      rw [hcs];exact h.symm
theorem holds_of {β:Type} [Inhabited β] (f:β→Value) {E b o:Nat} {l:List Value} {D:Array β} {w:World} (hb:w.heap[b]?=some (.cells (List.toArray l) E (0,0))) (hl:o+D.size≤l.length) (hc:(l.drop o).take D.size=D.toList.map f):Holds f w b o D:=fun j hj=>by
  refine ⟨?_,by simp [World.frozen?,hb]⟩
  have h:=congrArg (·[j]?) hc
  have hD2:D.toList[j]?=some D[j]!:=by rw [Array.getElem?_toList,Array.getElem?_eq_getElem hj,getElem!_pos D j hj]
  rw [td_get,if_pos hj,List.getElem?_map,hD2] at h
  simp only [World.cell?,hb,Option.isSome_none,Bool.false_eq_true,if_false]
  rw [List.getElem?_toArray,h];rfl
end
end Go.SL
namespace Go.SL
open Go Go.Proofs Go.Sort
instance:Inhabited RowM:=⟨⟨.empty,0⟩⟩
end Go.SL
namespace Go.SL
open Go Go.Proofs
section
variable {P : Program} {g : World} {Γ : Env} {L M : List HP} {dst : Option Tmp} {t : TypeId} {pos : String} {aft : Array Edge} {gd : Option (Nat × Bool)}
theorem e_lookU {σ:Type} {x i:Operand} {T e kt:TypeId} {d:TypeDesc} {n:UInt32} {ts:List (TxU UInt32 σ)} {m:Value} (ht:P.underlying T=some (.map kt e)) (hk:KeyOk P kt d eU32) (hz:(P.info? e).bind (·.zero)=some (.pointer none)) (hx:ev Γ x=some m:=by rfl) (hi:ev Γ i=some (.int .u32 n.toNat):=by rfl) (hp:Pick L (Mp eU32 m (List.map kvU ts)) M:=by repeat first | exact .z | apply Pick.s) :
    EO P g ⟨dst,.lookup T x i false,t,pos,aft,gd⟩ Γ L (.pointer ((findU ts n).map fun t=>⟨t.q,0,none⟩)):=by
  have h:=e_lookup (g:=g) (L:=L) (dst:=dst) (t:=t) (pos:=pos) (aft:=aft) (gd:=gd) (x:=x) (i:=i) (k:=n) ht hk hz hx hi hp
  rw [mget_kvU] at h
  cases hf:findU ts n with
  | none=>rw [hf] at h;exact h
  | some t=>rw [hf] at h;exact h
end
def allSpan:SpanM:=⟨⟨#[48]⟩,⟨#[122,122,122,122,122,122,122,122,122,122,122,122,122,122,122,122]⟩⟩
theorem runes_in (s:ByteArray):∀ (k i:Nat),s.size≤i+k→allFrom keyRune s k i=true→∀ j,i≤j→(hj:j < s.size)→48≤(s[j]).toNat∧(s[j]).toNat≤122
  | 0,i,hk,_,j,h1,h2=>absurd h2 (by omega)
  | k+1,i,hk,h,j,h1,h2=>by
    have hi:i < s.size:=by omega
    rw [allFrom,if_pos hi,Bool.and_eq_true] at h
    by_cases ha:(s[i]'hi).toNat < 128
    · rw [decode_ascii s i hi ha] at h
      rcases Nat.eq_or_lt_of_le h1 with e | e
      · subst e
        have:=h.1
        simp only [keyRune,Bool.or_eq_true,Bool.and_eq_true,decide_eq_true_eq,beq_iff_eq] at this
        omega
      · exact runes_in s k (i+1) (by omega) h.2 j e h2
    · have h3:=(decode_high s i hi (by omega)).1
      have:=h.1
      simp only [keyRune,Bool.or_eq_true,Bool.and_eq_true,decide_eq_true_eq,beq_iff_eq] at this
      omega
theorem bl_z:∀ (n:Nat) (l:List UInt8),l.length≤n→(∀ b ∈ l,b.toNat≤122)→Op.bytesLess (List.replicate n 122) l=false
  | 0,[],_,_=>rfl
  | 0,_::_,h,_=>by simp at h
  | n+1,[],_,_=>by simp [List.replicate_succ,Op.bytesLess]
  | n+1,b::l,h,hb=>by
    have h1:=hb b (by simp)
    have ih:=bl_z n l (by simp at h;omega) (fun c hc=>hb c (by simp [hc]))
    simp only [List.replicate_succ,Op.bytesLess,ih,Bool.and_false,Bool.or_false,decide_eq_false_iff_not,UInt8.lt_iff_toNat_lt]
    show ¬ 122 < b.toNat
    omega
theorem all_in {k:ByteArray} (h:keyOk k=true):inSpan allSpan k=true:=by
  simp only [keyOk,Bool.and_eq_true,Bool.not_eq_true',decide_eq_true_eq] at h
  obtain ⟨⟨h1,h2⟩,h3⟩:=h
  have hl:∀ b ∈ k.toList,48≤b.toNat∧b.toNat≤122:=fun b hb=>by
    rw [ByteArray.toList_eq] at hb
    obtain ⟨j,hj,e⟩:=Array.getElem_of_mem (Array.mem_toList_iff.1 hb)
    have:=runes_in k k.size 0 (by omega) h3 j (Nat.zero_le _) hj
    have e2:k[j]'hj=b:=e
    rw [e2] at this;exact this
  have hlen:k.toList.length=k.size:=by rw [ByteArray.toList_eq];exact Array.length_toList
  rw [inSpan,sIn_iff]
  constructor
  · unfold sLt
    cases hk:k.toList with
    | nil=>
      exfalso
      have:sEq k ⟨#[]⟩=true:=by rw [sEq,hk,ByteArray.toList_eq];rfl
      rw [h1] at this;cases this
    | cons b l=>
      have:=(hl b (by rw [hk];simp)).1
      have e:(allSpan.a).toList=[48]:=by rw [ByteArray.toList_eq];rfl
      rw [e]
      have e2:Op.bytesLess l []=false:=by cases l <;> rfl
      simp only [Op.bytesLess,e2,Bool.and_false,Bool.or_false,decide_eq_false_iff_not,UInt8.lt_iff_toNat_lt]
      show ¬ b.toNat < 48
      omega
  · unfold sLt
    have e:(allSpan.b).toList=List.replicate 16 122:=by rw [ByteArray.toList_eq];rfl
    rw [e]
    exact bl_z 16 _ (by omega) fun b hb=>(hl b hb).2
theorem scan_all {V:List RowM} (hr:Rising V) (hk:KeysOk V) (hl:V.length≤2147483647):scanR V allSpan 2147483647=V:=by
  unfold scanR
  rw [List.filter_eq_self.2 (fun r hr=>all_in (hk r hr))]
  exact List.take_of_length_le hl
end Go.SL
namespace Go.SL
open Go
structure AtS {I:Kind} (G:Good I) (s:StV) (ts:List TxT) (H:List (List ChgM)) (b:Nat):Prop where
  ok:G.Ok s b
  txs:s.txs=ts
  his:s.H=H
  at_:s.at_≤82 * H.length
section
variable {I : Kind} {G : Good I} {s : StV} {ts : List TxT} {H : List (List ChgM)} {b : Nat}
theorem AtS.first (h:G.Ok stF 0):AtS G stF [] [] 0:=⟨h,rfl,rfl,Nat.zero_le _⟩
theorem AtS.beg (h:AtS G s ts H b) (n:UInt32) (q:Nat) (h0:n≠0) (hf:findU ts n=none) (hl:ts.length < 32) :
    begE s n=0∧AtS G (begS s n q) (ts++[⟨n,q,⟨UInt32.ofNat H.length,[],[],[]⟩⟩]) H b:=by
  have hE:begE s n=0:=by
    unfold begE
    rw [if_neg h0,h.txs,hf]
    simp;omega
  refine ⟨hE,G.beg h.ok n q,?_,?_,?_⟩ <;> rw [begS,if_pos hE]
  · show s.txs++[begT s n q]=_
    rw [h.txs,begT,h.his]
  · exact h.his
  · exact h.at_
theorem AtS.com (h:AtS G s ts H b) {n:UInt32} {t:TxT} (hf:findU ts n=some t) (hc:I.chk s t.x=false) (hl:t.x.own.length≤80) (hH:H.length≤40) (hb:b≤1000) :
    comE I s n=0∧comN I s n=UInt32.ofNat H.length+1∧AtS G (comS I s n) (delU ts n) (H++[t.x.own]) (b+1):=by
  have hok:=G.ok h.ok
  have hf':findU s.txs n=some t:=by rw [h.txs];exact hf
  have hcl:=(chgs_len t.x.own).2 (hok.own t (findU_mem hf'))
  have hlen:=chgsB_len t.x.own
  have hat:=h.at_
  have hfit:fitsS s t.x:=⟨by omega,by rw [hok.log.len];unfold secs;omega⟩
  have hE:comE I s n=0:=by simp [comE,hf',hc,hfit]
  have hS2:comS I s n=addS (I.ends s n) t.x.own:=by simp [comS,hf',hc,hfit]
  obtain ⟨e1,e2,e3,e4⟩:=G.endsE h.ok n
  refine ⟨hE,by rw [comN,if_pos hE,h.his],G.com h.ok (by omega) n,?_,?_,?_⟩
  · rw [hS2];show (I.ends s n).txs=_;rw [e4,h.txs]
  · rw [hS2];show (I.ends s n).H++_=_;rw [e3,h.his]
  · rw [hS2];show (I.ends s n).at_+_≤_;rw [e2,List.length_append,List.length_singleton];unfold secs;omega
theorem AtS.rows (h:AtS G s ts H b):s.rows=rowsN H H.length:=by unfold StV.rows;rw [h.his]
end
section
variable {s : StV} {ts : List TxT} {H : List (List ChgM)} {b : Nat}
theorem bet_first:BetOk stF 0:=⟨st0_first,by decide,by intro t h;cases h⟩
theorem AtS.put (h:AtS betaG s ts H b) {n:UInt32} {t:TxT} (hf:findU ts n=some t) {k:ByteArray} (hk:keyOk k=true) (v:UInt32) (hb:b≤1000) :
    ∃ s',doB s n (opPut k v)=.put s'∧AtS betaG s' (setU ts n { t.x with own:=t.x.own++[⟨k,v,false⟩] }) H (b+1):=by
  have hf':findU s.txs n=some t:=by rw [h.txs];exact hf
  have e:doB s n (opPut k v)=.put { s with txs:=setU s.txs n { t.x with own:=t.x.own++[chgOf (opPut k v)] } }:=by simp [doB,put_ok,hk,hf',w_put]
  refine ⟨_,e,?_,?_,h.his,h.at_⟩
  · obtain ⟨_,_,_,_,_,_,_,_,_,hok,_⟩:=betaG.put h.ok (by omega) e
    exact hok
  · show setU s.txs n _=_
    rw [h.txs];rfl
theorem AtS.get (h:AtS betaG s ts H b) {n:UInt32} {t:TxT} (hf:findU ts n=some t) {k:ByteArray} (hk:keyOk k=true) (hb:b≤1000) :
    ∃ s',doB s n (opGet k)=.look s' (scanR (changeR (rowsN H t.x.at_.toNat) t.x.own) (one k) 256)∧AtS betaG s' (setU ts n { t.x with looked:=t.x.looked++[one k] }) H (b+1):=by
  have hf':findU s.txs n=some t:=by rw [h.txs];exact hf
  have e:doB s n (opGet k)=.look { s with txs:=setU s.txs n { t.x with looked:=t.x.looked++[one k] } } (scanR (changeR (rowsN s.H t.x.at_.toNat) t.x.own) (one k) 256):=by simp [doB,get_ok,hk,hf',w_get,span_get]
  refine ⟨{ s with txs:=setU s.txs n { t.x with looked:=t.x.looked++[one k] } },e.trans (by rw [show rowsN s.H t.x.at_.toNat=rowsN H t.x.at_.toNat by rw [h.his]]),?_,?_,h.his,h.at_⟩
  · obtain ⟨_,_,_,_,_,_,_,_,_,hok,_⟩:=betaG.look h.ok (by omega) e
    exact hok
  · show setU s.txs n _=_
    rw [h.txs]
theorem AtS.chk (h:AtS betaG s ts H b) (x:TX):betaI.chk s x=x.looked.any fun p=>sinceH H x.at_.toNat p:=by
  show chkB s x=_
  unfold chkB;rw [h.his]
theorem AtS.step (h:AtS betaG s ts H b) {n:UInt32} {t:TxT} (hf:findU ts n=some t) (hb:b≤1000) (x:OpM) :
    (opOk x=false∧doB s n x=.err s 1)∨(opOk x=true∧writes x=true∧∃ s',doB s n x=.put s'∧AtS betaG s' (setU ts n { t.x with own:=t.x.own++[chgOf x] }) H (b+1)) ∨
    (opOk x=true∧writes x=false∧∃ s',doB s n x=.look s' (scanR (changeR (rowsN H t.x.at_.toNat) t.x.own) (spanOf x) 256)∧AtS betaG s' (setU ts n { t.x with looked:=t.x.looked++[spanOf x] }) H (b+1)):=by
  have hf':findU s.txs n=some t:=by rw [h.txs];exact hf
  cases hx:opOk x with
  | false=>exact .inl ⟨rfl,by unfold doB;rw [hx];rfl⟩
  | true=>
    right
    cases hw:writes x with
    | true=>
      have e:doB s n x=.put { s with txs:=setU s.txs n { t.x with own:=t.x.own++[chgOf x] } }:=by simp [doB,hx,hf',hw]
      refine .inl ⟨rfl,rfl,_,e,?_,?_,h.his,h.at_⟩
      · obtain ⟨_,_,_,_,_,_,_,_,_,hok,_⟩:=betaG.put h.ok (by omega) e
        exact hok
      · show setU s.txs n _=_
        rw [h.txs]
    | false=>
      have e:doB s n x=.look { s with txs:=setU s.txs n { t.x with looked:=t.x.looked++[spanOf x] } } (scanR (changeR (rowsN s.H t.x.at_.toNat) t.x.own) (spanOf x) 256):=by simp [doB,hx,hf',hw]
      refine .inr ⟨rfl,rfl,{ s with txs:=setU s.txs n { t.x with looked:=t.x.looked++[spanOf x] } },e.trans (by rw [show rowsN s.H t.x.at_.toNat=rowsN H t.x.at_.toNat by rw [h.his]]),?_,?_,h.his,h.at_⟩
      · obtain ⟨_,_,_,_,_,_,_,_,_,hok,_⟩:=betaG.look h.ok (by omega) e
        exact hok
      · show setU s.txs n _=_
        rw [h.txs]
theorem AtS.own_le (h:AtS betaG s ts H b) {t:TxT} (ht:t ∈ ts):t.x.own.length≤b:=by
  have:=(betaG.ok h.ok).own_le (t:=t) (by rw [h.txs];exact ht);omega
abbrev tS (n:UInt32) (q:Nat) (a:UInt32) (L:List SpanM) (O:List ChgM):TxT:=⟨n,q,⟨a,L,O,[]⟩⟩
end
end Go.SL
namespace Go.SL
open Go
abbrev LkT:=List (UInt32 × List LockM)
def eqS (a b:SpanM):Bool:=sEq a.a b.a && sEq a.b b.b
theorem eqS_iff {a b:SpanM}:eqS a b=true↔a=b:=by
 unfold eqS
 rw [Bool.and_eq_true,sEq_iff,sEq_iff]
 cases a;cases b;simp
def inWay (n:UInt32) (p:SpanM) (w:Bool) (e:UInt32 × List LockM):Bool:=decide (e.1≠n) && e.2.any fun l=>(w || l.alone) && meet l.s p
def wayL (L:LkT) (n:UInt32) (p:SpanM) (w:Bool):List UInt32:=((L.filter (inWay n p w)).map (·.1)).mergeSort (fun a b=>decide (a≤b))
theorem mem_way {L:LkT} {n k:UInt32} {p:SpanM} {w:Bool}:k ∈ wayL L n p w↔k≠n∧∃ ls,(k,ls) ∈ L∧∃ l ∈ ls,(w || l.alone)=true∧meet l.s p=true:=by
 unfold wayL
 rw [List.mem_mergeSort,List.mem_map]
 constructor
 ·rintro ⟨⟨k',ls⟩,h,rfl⟩
  obtain ⟨h1,h2⟩:=List.mem_filter.1 h
  simp only [inWay,Bool.and_eq_true,decide_eq_true_eq,List.any_eq_true] at h2
  obtain ⟨h3,l,h4,h5,h6⟩:=h2
  exact ⟨h3,ls,h1,l,h4,h5,h6⟩
 ·rintro ⟨h1,ls,h2,l,h3,h4,h5⟩
  refine ⟨(k,ls),List.mem_filter.2 ⟨h2,?_⟩,rfl⟩
  simp only [inWay,Bool.and_eq_true,decide_eq_true_eq,List.any_eq_true]
  exact ⟨h1,l,h3,h4,h5⟩
theorem way_no {L:LkT} (hn:(L.map (·.1)).Nodup) {n:UInt32} {p:SpanM} {w:Bool} (h:wayL L n p w=[]) {k:UInt32} (hk:k≠n) {ls:List LockM} (hl:getS L k=some ls) {l:LockM} (hm:l ∈ ls) (ha:(w || l.alone)=true):meet l.s p=false:=by
 cases e:meet l.s p with
 | false=>rfl
 | true=>
  have:k ∈ wayL L n p w:=mem_way.2 ⟨hk,ls,getS_some hl,l,hm,ha,e⟩
  rw [h] at this;cases this
def askL (ls:List LockM) (p:SpanM) (w:Bool):List LockM:=match ls.findIdx? (fun l=>eqS l.s p) with
 | none=>ls++[⟨p,w⟩]
 | some i=>ls.set i ⟨p,(match ls[i]? with | some l=>l.alone | none=>false) || w⟩
theorem askL_idx {ls:List LockM} {p:SpanM} {i:Nat} (h:ls.findIdx? (fun l=>eqS l.s p)=some i):∃ l,ls[i]?=some l∧l.s=p:=by
 obtain ⟨h1,h2,_⟩:=List.findIdx?_eq_some_iff_getElem.1 h
 exact ⟨ls[i],List.getElem?_eq_getElem h1,eqS_iff.1 h2⟩
theorem askL_len (ls:List LockM) (p:SpanM) (w:Bool):(askL ls p w).length≤ls.length+1:=by
 unfold askL;split <;> simp
theorem askL_new (ls:List LockM) (p:SpanM) (w:Bool):∃ l ∈ askL ls p w,l.s=p∧(w=true→l.alone=true):=by
 unfold askL
 split
 ·exact ⟨⟨p,w⟩,by simp,rfl,fun h=>h⟩
 ·rename_i i hi
  obtain ⟨l,hl,_⟩:=askL_idx hi
  refine ⟨⟨p,_⟩,List.mem_iff_getElem?.2 ⟨i,by rw [List.getElem?_set_self (idx_lt hl)]⟩,rfl,fun h=>by simp [h]⟩
theorem askL_old {ls:List LockM} {p:SpanM} {w:Bool} {l:LockM} (h:l ∈ ls):∃ m ∈ askL ls p w,m.s=l.s∧(l.alone=true→m.alone=true):=by
 unfold askL
 split
 ·exact ⟨l,by simp [h],rfl,fun h=>h⟩
 ·rename_i i hi
  obtain ⟨k,hk,hks⟩:=askL_idx hi
  obtain ⟨j,hj⟩:=List.mem_iff_getElem?.1 h
  by_cases e:i=j
  ·subst e
   rw [hk] at hj;cases hj
   exact ⟨⟨p,_⟩,List.mem_iff_getElem?.2 ⟨i,by rw [List.getElem?_set_self (idx_lt hk)]⟩,hks.symm,fun h=>by rw [hk];simp [h]⟩
  ·exact ⟨l,List.mem_iff_getElem?.2 ⟨j,by rw [List.getElem?_set_ne e];exact hj⟩,rfl,fun h=>h⟩
theorem askL_mem {ls:List LockM} {p:SpanM} {w:Bool} {m:LockM} (h:m ∈ askL ls p w):m ∈ ls∨(m.s=p∧(m.alone=true→w=true∨∃ l ∈ ls,l.s=p∧l.alone=true)):=by
 unfold askL at h
 split at h
 ·rcases List.mem_append.1 h with h | h
  ·exact .inl h
  ·simp at h;subst h;exact .inr ⟨rfl,fun h=>.inl h⟩
 ·rename_i i hi
  obtain ⟨k,hk,hks⟩:=askL_idx hi
  rcases List.mem_or_eq_of_mem_set h with h | h
  ·exact .inl h
  ·subst h
   refine .inr ⟨rfl,fun h=>?_⟩
   rw [hk] at h
   simp only [Bool.or_eq_true] at h
   rcases h with h | h
   ·exact .inr ⟨k,List.mem_of_getElem? hk,hks,h⟩
   ·exact .inl h
def lockS (L:LkT) (n:UInt32) (p:SpanM) (w:Bool):LkT:=setS L n (askL ((getS L n).getD []) p w)
def freeL (L:LkT) (n:UInt32):LkT:=L.eraseP fun e=>decide (e.1=n)
theorem freeL_get {L:LkT} (hn:(L.map (·.1)).Nodup) (n j:UInt32):getS (freeL L n) j=if j=n then none else getS L j:=by
 unfold getS freeL
 induction L with
 | nil=>simp
 | cons x L ih=>
  rw [List.map_cons] at hn
  obtain ⟨h1,h2⟩:=List.nodup_cons.1 hn
  rw [List.eraseP_cons]
  by_cases e:x.1=n
  ·simp only [e,decide_true,cond_true]
   by_cases e2:j=n
   ·subst e2
    rw [if_pos rfl,List.find?_eq_none.2 (fun y hy=>?_)];· rfl
    simp only [decide_eq_true_eq]
    intro e3
    exact h1 (by rw [e,← e3];exact List.mem_map.2 ⟨y,hy,rfl⟩)
   ·rw [if_neg e2,List.find?_cons]
    have:¬ n=j:=fun e3=>e2 e3.symm
    simp [e,this]
  ·simp only [e,decide_false,cond_false]
   rw [List.find?_cons,List.find?_cons]
   by_cases e3:x.1=j
   ·have:¬ j=n:=fun e4=>e (e3.trans e4)
    simp [e3,this]
   ·simp only [e3,decide_false]
    exact ih h2
def totL (L:LkT):Nat:=(L.map fun e=>e.2.length+1).sum
theorem totL_free (L:LkT) (n:UInt32):totL (freeL L n)≤totL L:=by
 unfold totL freeL
 induction L with
 | nil=>simp
 | cons x L ih=>
  rw [List.eraseP_cons]
  cases decide (x.1=n)
  ·simp only [cond_false,List.map_cons,List.sum_cons];omega
  ·simp
theorem totL_set (L:LkT) (n:UInt32) (ws:List LockM) (h:ws.length≤((getS L n).getD []).length+1):totL (setS L n ws)≤totL L+2:=by
 unfold setS
 split
 ·rename_i i hi
  obtain ⟨h1,h2,_⟩:=List.findIdx?_eq_some_iff_getElem.1 hi
  have hg:getS L n=some L[i].2:=by
   have:=hi
   unfold getS
   rw [List.findIdx?_eq_some_iff_getElem] at hi
   obtain ⟨_,_,h3⟩:=hi
   rw [(List.find?_eq_some_iff_getElem (p:=fun p:UInt32 × List LockM=>decide (p.1=n)) (b:=L[i])).2 ⟨h2,i,h1,rfl,fun j hj=>by simpa using h3 j hj⟩];rfl
  rw [hg,Option.getD_some] at h
  have e:L=L.take i++L[i]::L.drop (i+1):=by rw [List.getElem_cons_drop,List.take_append_drop]
  have e2:L.set i (n,ws)=L.take i++(n,ws)::L.drop (i+1):=by rw [List.set_eq_take_append_cons_drop,if_pos h1]
  unfold totL
  rw [e2]
  conv=>rhs;rw [e]
  simp only [List.map_append,List.map_cons,List.sum_append,List.sum_cons]
  omega
 ·rename_i hi
  have hg:getS L n=none:=by
   unfold getS
   rw [List.find?_eq_none.2 (fun y hy=>by simpa using List.findIdx?_eq_none_iff.1 hi y hy)];rfl
  rw [hg] at h
  simp at h
  simp [totL];omega
inductive Reach (R:UInt32→UInt32→Prop) (a:UInt32):UInt32→Prop
 | refl:Reach R a a
 | tail {b c:UInt32}:Reach R a b→R b c→Reach R a c
def edgesA (ts:List TxT) (n:UInt32):List (UInt32 × UInt32):=ts.flatMap fun t=>if t.id=n then [] else (t.x.waits.filter fun w=>(findU ts w).isSome).map fun w=>(t.id,w)
open Classical in
noncomputable def ringB (ts:List TxT) (n:UInt32) (way:List UInt32):Bool:=decide (∃ w ∈ way,Reach (fun a b=>(a,b) ∈ edgesA ts n) w n)
def endsA (s:StV) (n:UInt32):StV:={ s with txs:=delU s.txs n,locks:=freeL s.locks n }
noncomputable def doA (s:StV) (n:UInt32) (x:OpM):DoS:=
 if opOk x then match findU s.txs n with
  | none=>.err s 6
  | some t=>
   if meet (spanOf x) (spanOf x) && decide (0 < (wayL s.locks n (spanOf x) (writes x)).length) then
    if ringB (setU s.txs n { t.x with waits:=[] }) n (wayL s.locks n (spanOf x) (writes x)) then .err (endsA { s with txs:=setU s.txs n { t.x with waits:=[] } } n) 9
    else .err { s with txs:=setU s.txs n { t.x with waits:=wayL s.locks n (spanOf x) (writes x) } } 8
   else if writes x then .put { s with locks:=if meet (spanOf x) (spanOf x) then lockS s.locks n (spanOf x) (writes x) else s.locks,txs:=setU s.txs n { t.x with own:=t.x.own++[chgOf x],waits:=[] } }
    else .look { s with locks:=if meet (spanOf x) (spanOf x) then lockS s.locks n (spanOf x) (writes x) else s.locks,txs:=setU s.txs n { t.x with waits:=[] } } (scanR (changeR s.rows t.x.own) (spanOf x) 256)
 else .err s 1
noncomputable def alphaI:Kind:=⟨endsA,doA,fun _ _=>false⟩
end Go.SL
namespace Go.SL
open Go
theorem setU_ids' {ts:List TxT} {n:UInt32} {x:TX}:∀ t ∈ setU ts n x,∃ u ∈ ts,t.id=u.id:=setU_ex
theorem StOk.waits {s s':StV} {b:Nat} (h:StOk s b) {n:UInt32} {t:TxT} (hf:findU s.txs n=some t) (ws:List UInt32) (hd:s'.d=s.d) (ha:s'.at_=s.at_) (hH:s'.H=s.H) (ht:s'.txs=setU s.txs n { t.x with waits:=ws }):StOk s' b:=by
  obtain ⟨hid,A,B,hts,hdel,hA⟩:=findU_mid hf
  have e:s'.txs=A++{ t with x:={ t.x with waits:=ws } }::B:=by rw [ht,← hid,hts];exact setU_mid (hts ▸ h.ids) _
  refine ⟨by rw [hd,ha,hH];exact h.log,by rw [hH];exact h.recs,?_,by rw [hH];exact h.hl,by rw [ht,setU_ids];exact h.ids,?_,?_,by rw [ht];simp only [setU,List.length_map];exact h.tl,h.bb⟩
  · rw [hH,e];have:=h.sum;rw [hts] at this;simpa using this
  · rw [e];intro y hy
    rcases List.mem_append.1 hy with hy | hy
    · exact h.own y (by rw [hts];simp [hy])
    · rcases List.mem_cons.1 hy with rfl | hy
      · exact h.own t (findU_mem hf)
      · exact h.own y (by rw [hts];simp [hy])
  · rw [e];intro y hy
    rcases List.mem_append.1 hy with hy | hy
    · exact h.lks y (by rw [hts];simp [hy])
    · rcases List.mem_cons.1 hy with rfl | hy
      · exact h.lks t (findU_mem hf)
      · exact h.lks y (by rw [hts];simp [hy])
structure AlphaOk (s:StV) (b:Nat):Prop where
  st:StOk s b
  keys:(s.locks.map (·.1)).Nodup
  compat:∀ a c la lc,getS s.locks a=some la→getS s.locks c=some lc→a≠c→∀ l ∈ la,∀ m ∈ lc,(l.alone || m.alone)=true→meet l.s m.s=false
  opn:∀ e ∈ s.locks,∃ t ∈ s.txs,t.id=e.1
  tot:totL s.locks≤2 * b
  waits:∀ t ∈ s.txs,t.x.waits.length≤2 * b
  nz:∀ t ∈ s.txs,t.id≠0
def VA (s:StV) (o:Og):Prop:=∀ t ∈ s.txs,t.x.own=chs (o t.id).1∧(∀ x ∈ (o t.id).1,opOk x=true)∧(runM s.rows (o t.id).1).1=(o t.id).2 ∧
  ∀ x ∈ (o t.id).1,meet (spanOf x) (spanOf x)=true→∃ ls,getS s.locks t.id=some ls∧∃ l ∈ ls,l.s=spanOf x∧(writes x=true→l.alone=true)
def lkS (s:StV) (n:UInt32) (p:SpanM) (w:Bool):LkT:=if meet p p then lockS s.locks n p w else s.locks
theorem lkS_facts {s:StV} {b:Nat} (h:AlphaOk s b) {n:UInt32} {t:TxT} (hf:findU s.txs n=some t) {p:SpanM} {w:Bool} (hno:meet p p=true→wayL s.locks n p w=[]) :
    ((lkS s n p w).map (·.1)).Nodup ∧
    (∀ a c la lc,getS (lkS s n p w) a=some la→getS (lkS s n p w) c=some lc→a≠c→∀ l ∈ la,∀ m ∈ lc,(l.alone || m.alone)=true→meet l.s m.s=false) ∧
    (∀ e ∈ lkS s n p w,∃ t ∈ s.txs,t.id=e.1)∧totL (lkS s n p w)≤2 * (b+1) ∧
    (meet p p=true→∃ ls,getS (lkS s n p w) n=some ls∧∃ l ∈ ls,l.s=p∧(w=true→l.alone=true)) ∧
    (∀ k ls,getS s.locks k=some ls→∃ ls',getS (lkS s n p w) k=some ls'∧∀ l ∈ ls,∃ m ∈ ls',m.s=l.s∧(l.alone=true→m.alone=true)):=by
  unfold lkS
  have ht:=h.tot
  split
  · rename_i hm
    have hno:=hno hm
    have hget:∀ j,getS (lockS s.locks n p w) j=if j=n then some (askL ((getS s.locks n).getD []) p w) else getS s.locks j:=fun j=>setS_get _ _ _ j
    have hnew:∀ c lc,getS s.locks c=some lc→c≠n→∀ l ∈ askL ((getS s.locks n).getD []) p w,∀ m ∈ lc,(l.alone || m.alone)=true→meet l.s m.s=false:=by
      intro c lc hc hcn l hl m hmm ha
      have hold:∀ k ∈ (getS s.locks n).getD [],(k.alone || m.alone)=true→meet k.s m.s=false:=by
        intro k hk
        cases hg:getS s.locks n with
        | none=>rw [hg] at hk;cases hk
        | some ls=>rw [hg] at hk;exact h.compat n c ls lc hg hc (fun e=>hcn e.symm) k hk m hmm
      rcases askL_mem hl with hl | ⟨hls,hla⟩
      · exact hold l hl ha
      · rw [hls]
        rw [Bool.or_eq_true] at ha
        rcases ha with ha | ha
        · rcases hla ha with hw | ⟨k,hk,hks,hka⟩
          · rw [meet_comm];exact way_no h.keys hno hcn hc hmm (by rw [hw];rfl)
          · rw [← hks];exact hold k hk (by rw [hka];rfl)
        · rw [meet_comm];exact way_no h.keys hno hcn hc hmm (by rw [ha];simp)
    refine ⟨setS_nodup h.keys _ _,?_,?_,?_,?_,?_⟩
    · intro a c la lc ha hc hac l hl m hmm hal
      rw [hget] at ha hc
      by_cases e1:a=n
      · subst e1
        rw [if_pos rfl] at ha;cases ha
        rw [if_neg (fun e=>hac e.symm)] at hc
        exact hnew c lc hc (fun e=>hac e.symm) l hl m hmm hal
      · rw [if_neg e1] at ha
        by_cases e2:c=n
        · subst e2
          rw [if_pos rfl] at hc;cases hc
          rw [meet_comm]
          exact hnew a la ha e1 m hmm l hl (by rw [Bool.or_comm];exact hal)
        · rw [if_neg e2] at hc
          exact h.compat a c la lc ha hc hac l hl m hmm hal
    · intro e he
      have:=(setS_keys s.locks n (askL ((getS s.locks n).getD []) p w) e.1).1 (List.mem_map.2 ⟨e,he,rfl⟩)
      rcases this with h1 | h1
      · exact ⟨t,findU_mem hf,(findU_mid hf).1.trans h1.symm⟩
      · obtain ⟨e',he',h2⟩:=List.mem_map.1 h1
        obtain ⟨u,hu,h3⟩:=h.opn e' he'
        exact ⟨u,hu,h3.trans h2⟩
    · have:=totL_set s.locks n (askL ((getS s.locks n).getD []) p w) (askL_len _ _ _)
      show totL (setS _ _ _)≤_
      omega
    · intro _
      exact ⟨_,by rw [hget,if_pos rfl],askL_new _ _ _⟩
    · intro k ls hk
      by_cases e:k=n
      · subst e
        refine ⟨_,by rw [hget,if_pos rfl],fun l hl=>?_⟩
        rw [hk]
        exact askL_old hl
      · exact ⟨ls,by rw [hget,if_neg e];exact hk,fun l hl=>⟨l,hl,rfl,fun h=>h⟩⟩
  · rename_i hm
    exact ⟨h.keys,h.compat,h.opn,by omega,fun h=>absurd h hm,fun k ls hk=>⟨ls,hk,fun l hl=>⟨l,hl,rfl,fun h=>h⟩⟩⟩
theorem AlphaOk.mono {s:StV} {b c:Nat} (h:AlphaOk s b) (hb:b≤c) (hc:c≤1000000000):AlphaOk s c:=⟨h.st.mono hb hc,h.keys,h.compat,h.opn,by have:=h.tot;omega,fun t ht=>by have:=h.waits t ht;omega,h.nz⟩
theorem AlphaOk.ends {s:StV} {b:Nat} (h:AlphaOk s b) (n:UInt32):AlphaOk (endsA s n) b:=by
  refine ⟨h.st.sub rfl rfl rfl delU_sub,?_,?_,?_,Nat.le_trans (totL_free _ _) h.tot,fun t ht=>h.waits t (delU_sub.mem ht),fun t ht=>h.nz t (delU_sub.mem ht)⟩
  · exact h.keys.sublist (List.eraseP_sublist.map _)
  · intro a c la lc ha hc
    have ha:getS (freeL s.locks n) a=some la:=ha
    have hc:getS (freeL s.locks n) c=some lc:=hc
    rw [freeL_get h.keys] at ha hc
    split at ha
    · cases ha
    · split at hc
      · cases hc
      · exact h.compat a c la lc ha hc
  · intro e he
    have he:e ∈ freeL s.locks n:=he
    obtain ⟨t,ht,h1⟩:=h.opn e (List.eraseP_sublist.mem he)
    have hne:e.1≠n:=by
      intro e1
      have hnd:((freeL s.locks n).map (·.1)).Nodup:=h.keys.sublist (List.eraseP_sublist.map _)
      have:=getS_mem hnd he
      rw [freeL_get h.keys,if_pos e1] at this;cases this
    refine ⟨t,?_,h1⟩
    show t ∈ delU s.txs n
    cases hf:findU s.txs n with
    | none=>
      have:delU s.txs n=s.txs:=by
        unfold delU
        rw [List.eraseP_of_forall_not (fun y hy=>by have:=findU_no hf y hy;simpa using this)]
      rw [this];exact ht
    | some u=>
      obtain ⟨hid,A,B,hts,hdel,_⟩:=findU_mid hf
      rw [hdel]
      rw [hts] at ht
      rcases List.mem_append.1 ht with ht | ht
      · simp [ht]
      · rcases List.mem_cons.1 ht with rfl | ht
        · exact absurd (h1.symm.trans hid) hne
        · simp [ht]
theorem AlphaOk.beg {s:StV} {b:Nat} (h:AlphaOk s b) (n:UInt32) (q:Nat):AlphaOk (begS s n q) b:=by
  have hs:=h.st.beg n q
  have hl:(begS s n q).locks=s.locks:=by unfold begS;split <;> rfl
  have hm:∀ t ∈ s.txs,t ∈ (begS s n q).txs:=by unfold begS;split <;> simp +contextual
  refine ⟨hs,by rw [hl];exact h.keys,by rw [hl];exact h.compat,by rw [hl];exact fun e he=>let ⟨t,ht,h1⟩:=h.opn e he;⟨t,hm t ht,h1⟩,by rw [hl];exact h.tot,?_,?_⟩
  · unfold begS
    split
    · intro t ht
      rcases List.mem_append.1 ht with ht | ht
      · exact h.waits t ht
      · simp at ht;subst ht;simp [begT]
    · exact h.waits
  · unfold begS
    split
    · rename_i hE
      intro t ht
      rcases List.mem_append.1 ht with ht | ht
      · exact h.nz t ht
      · simp at ht;subst ht
        intro e
        have e:n=0:=e
        simp [begE,e] at hE
    · exact h.nz
theorem AlphaOk.com {s:StV} {b:Nat} (h:AlphaOk s b) (hb:b+1≤1000000000) (n:UInt32):AlphaOk (comS alphaI s n) (b+1):=by
  have hm:=h.mono (Nat.le_succ b) hb
  unfold comS
  cases hf:findU s.txs n with
  | none=>exact hm
  | some t=>
    simp only
    split
    · exact hm.ends n
    · split
      · rename_i hfit
        have he:=hm.ends n
        exact ⟨hm.st.add hf he.st rfl rfl rfl rfl (by have:=h.st.hl;omega) hfit,he.keys,he.compat,he.opn,he.tot,he.waits,he.nz⟩
      · exact hm.ends n
theorem mem_setU_opn {s:StV} {n:UInt32} {x:TX} {k:UInt32} (h:∃ t ∈ s.txs,t.id=k):∃ t ∈ setU s.txs n x,t.id=k:=by
  obtain ⟨t,ht,h1⟩:=h
  have:k ∈ (setU s.txs n x).map (·.id):=by rw [setU_ids];exact List.mem_map.2 ⟨t,ht,h1⟩
  obtain ⟨u,hu,h2⟩:=List.mem_map.1 this
  exact ⟨u,hu,h2⟩
theorem nz_set {ts:List TxT} {n:UInt32} {x:TX} (h:∀ t ∈ ts,t.id≠0):∀ t ∈ setU ts n x,t.id≠0:=fun t ht=>by
  obtain ⟨u,hu,e⟩:=setU_ids' t ht
  rw [e];exact h u hu
theorem AlphaOk.upd {s:StV} {b:Nat} (h:AlphaOk s b) (hb:b+1≤1000000000) {n:UInt32} {t:TxT} (hf:findU s.txs n=some t) {p:SpanM} {w:Bool} (hno:meet p p=true→wayL s.locks n p w=[]) {own:List ChgM} (ho:own=t.x.own∨∃ c,chgOk c=true∧own=t.x.own++[c]) :
    AlphaOk { s with locks:=lkS s n p w,txs:=setU s.txs n { t.x with own:=own,waits:=[] } } (b+1):=by
  obtain ⟨k1,k2,k3,k4,_,_⟩:=lkS_facts h hf hno
  obtain ⟨hid,_⟩:=findU_mid hf
  refine ⟨h.st.upd (x:={ t.x with own:=own,waits:=[] }) hb (findU_mem hf) rfl rfl rfl (by rw [hid]) ho (Nat.le_succ_of_le (h.st.lks t (findU_mem hf))),k1,k2,fun e he=>mem_setU_opn (k3 e he),k4,fun u hu=>?_,nz_set h.nz⟩
  rcases setU_mem hu with ⟨v,hv,hvi,rfl⟩ | ⟨hu,_⟩
  · exact Nat.zero_le _
  · have:=h.waits u hu;omega
theorem VA.same {s s':StV} {o:Og} (h:VA s o) (hr:s'.H=s.H) (hl:s'.locks=s.locks) (ht:∀ t ∈ s'.txs,∃ u ∈ s.txs,t.id=u.id∧t.x.own=u.x.own):VA s' o:=fun t htt=>by
  obtain ⟨u,hu,h1,h2⟩:=ht t htt
  obtain ⟨k1,k2,k3,k4⟩:=h u hu
  have hR:s'.rows=s.rows:=by unfold StV.rows;rw [hr]
  rw [h1,h2,hR,hl]
  exact ⟨k1,k2,k3,k4⟩
theorem VA.ends {s:StV} {b:Nat} (h:AlphaOk s b) {o:Og} (hv:VA s o) (n:UInt32):VA (endsA s n) o:=fun t ht=>by
  obtain ⟨k1,k2,k3,k4⟩:=hv t (delU_sub.mem ht)
  refine ⟨k1,k2,k3,fun x hx hm=>?_⟩
  obtain ⟨ls,h1,h2⟩:=k4 x hx hm
  refine ⟨ls,?_,h2⟩
  show getS (freeL s.locks n) t.id=_
  rw [freeL_get h.keys,if_neg (delU_no h.st.ids n t ht)];exact h1
theorem alp_first:AlphaOk stF 0:=⟨st0_first,by simp [stF,st0],by simp [stF,st0,getS],by simp [stF,st0],by decide,by simp [stF,st0],by simp [stF,st0]⟩
end Go.SL
namespace Go.SL
open Go Go.Proofs Go.Sort
def u32C (n:UInt32):List Value:=[.int .u32 n.toNat]
theorem u32E:EncOk 1 u32C:=⟨fun _=>rfl,fun _=>rfl⟩
def lt32 (x y:UInt32):Bool:=decide (x < y)
theorem swo32:SWO lt32 where
  irrefl x:=by simp [lt32,UInt32.lt_iff_toNat_lt]
  trans x y z h1 h2:=by simp only [lt32,decide_eq_true_eq,UInt32.lt_iff_toNat_lt] at *;omega
  ntrans x y z h1 h2:=by simp only [lt32,decide_eq_false_iff_not,UInt32.lt_iff_toNat_lt] at *;omega
theorem swp_size {α:Type} [Inhabited α] (d:Array α) (i j:Nat):(swp d i j).size=d.size:=by simp [swp]
section
variable {P : Program} {r : Option Nat} {g : World} {Γ : Env} {L M : List HP} {dst : Option Tmp} {t : TypeId} {pos : String} {aft : Array Edge} {gd : Option (Nat × Bool)} {x y : Operand} {xt yt : TypeId}
theorem ea_ia {i:Operand} {s E z j:Nat} {u:Value} {d:Array UInt32} (hs:slOf P s=some (E,1,z)) (hx:ev Γ x=some u:=by rfl) (hi:ev Γ i=some (.int .i64 (j:Nat)):=by rfl) (hp:Pick L (Sl E 1 u32C u d.toList) M:=by repeat first | exact .z | apply Pick.s)
    (hj:j < d.size:=by first | omega | (simp only [swp_size,Array.size_setIfInBounds];omega)):EO P g ⟨dst,.indexAddr s x i,t,pos,aft,gd⟩ Γ L (elA u (j * 1)):=
  el_ia (xs:=d.toList) (enc:=u32C) hs sl_rl (by rw [Array.length_toList];exact hj) hx hi hp
theorem get_arr {d:Array UInt32} {j:Nat} (h:j < d.size):d.toList[j]?=some d[j]!:=by
  rw [Array.getElem?_toList,Array.getElem?_eq_getElem h,getElem!_pos d j h]
theorem ea_load {T E j:Nat} {u:Value} {d:Array UInt32} (ht:aggOf P T=some none) (hx:ev Γ x=some (elA u (j * 1)):=by rfl) (hp:Pick L (Sl E 1 u32C u d.toList) M:=by repeat first | exact .z | apply Pick.s)
    (hj:j < d.size:=by first | omega | (simp only [swp_size,Array.size_setIfInBounds];omega)):EO P g ⟨dst,.load T x,t,pos,aft,gd⟩ Γ L (.int .u32 (d[j]!).toNat):=
  el_load0 (xs:=d.toList) (a:=d[j]!) ht u32E sl_rl (get_arr hj) (by decide) hx rfl hp
theorem ha_store {T E j:Nat} {v:Operand} {u:Value} {d:Array UInt32} {a:UInt32} {N:List HP} {K:Value→List HP→Prop} (hT:szOf P T=some 1) (hK:K (.tuple #[]) N) (hx:ev Γ x=some (elA u (j * 1)):=by rfl) (hv:ev Γ v=some (.int .u32 a.toNat):=by rfl)
    (hp:Put L (Sl E 1 u32C u d.toList) (Sl E 1 u32C u (d.setIfInBounds j a).toList) N:=by repeat first | exact .z | apply Put.s) (hj:j < d.size:=by first | omega | (simp only [swp_size,Array.size_setIfInBounds];omega)):HO P r g ⟨dst,.store T x v,t,pos,aft,gd⟩ Γ L K:=
  hl_store (xs:=d.toList) (enc:=u32C) (E:=E) a hT u32E (by rw [Array.length_toList];exact hj) hK (by decide) hx hv rfl (by rw [← Array.toList_setIfInBounds];exact hp)
theorem e_addN {a b:Nat} (hx:ev Γ x=some (.int .i64 a):=by rfl) (hy:ev Γ y=some (.int .i64 b):=by rfl) (h:a+b≤4611686018427387904:=by omega):EO P g ⟨dst,.binOp .add xt x y yt,t,pos,aft,gd⟩ Γ L (.int .i64 ((a+b:Nat):Int)):=
  e_add hx hy (by rw [w_i64 (by omega) (by omega)];omega)
theorem e_subN {a b:Nat} (hx:ev Γ x=some (.int .i64 a):=by rfl) (hy:ev Γ y=some (.int .i64 b):=by rfl) (hle:b≤a:=by omega) (h:a≤4611686018427387904:=by omega):EO P g ⟨dst,.binOp .sub xt x y yt,t,pos,aft,gd⟩ Γ L (.int .i64 ((a - b:Nat):Int)):=
  e_sub hx hy (by rw [w_i64 (by omega) (by omega)];omega)
theorem e_mulN {a b:Nat} (hx:ev Γ x=some (.int .i64 a):=by rfl) (hy:ev Γ y=some (.int .i64 b):=by rfl) (h:a * b≤4611686018427387904:=by omega):EO P g ⟨dst,.binOp .mul xt x y yt,t,pos,aft,gd⟩ Γ L (.int .i64 ((a * b:Nat):Int)):=
  e_mul hx hy (by rw [← Int.natCast_mul];exact w_i64 (by omega) (by omega))
theorem e_quoN {a b:Nat} (hx:ev Γ x=some (.int .i64 a):=by rfl) (hy:ev Γ y=some (.int .i64 b):=by rfl) (hb:0 < b:=by decide) (h:a≤4611686018427387904:=by omega):EO P g ⟨dst,.binOp .quo xt x y yt,t,pos,aft,gd⟩ Γ L (.int .i64 ((a / b:Nat):Int)):=
  e_quo hx hy (by omega) (by
    have h2:=Nat.div_le_self a b
    rw [Int.tdiv_eq_ediv_of_nonneg (by omega),← Int.natCast_ediv]
    generalize a / b=q at h2 ⊢
    exact w_i64 (by omega) (by omega))
end
section
variable {d : Array UInt32} {a b i j : Nat}
abbrev lt:=lt32
theorem ins_step (h1:a < j) (h2:lt32 d[j]! d[j - 1]! = true):insInner lt32 a j d=insInner lt32 a (j - 1) (swp d j (j - 1)):=by
  obtain ⟨k,rfl⟩:∃ k,j=k+1:=⟨j - 1,by omega⟩
  rw [Nat.add_sub_cancel] at h2 ⊢
  rw [insInner,if_pos (by simp [h2];omega)]
theorem ins_stop (h:a < j→lt32 d[j]! d[j - 1]! = false):insInner lt32 a j d=d:=by
  cases j with
  | zero=>rfl
  | succ k=>
    rw [Nat.add_sub_cancel] at h
    rw [insInner,if_neg]
    intro hh
    simp only [Bool.and_eq_true,decide_eq_true_eq] at hh
    rw [h hh.1] at hh;cases hh.2
theorem insO_step (h:i < b):insOuter lt32 a b i d=insOuter lt32 a b (i+1) (insInner lt32 a i d):=by rw [insOuter,if_pos h]
theorem insO_stop (h:¬ i < b):insOuter lt32 a b i d=d:=by rw [insOuter,if_neg h]
theorem sd_stop {hi first root:Nat} (h:2 * root+1≥hi):siftDown lt32 hi first root d=d:=by rw [siftDown,dif_pos h]
theorem sd_r {hi first root:Nat} (h:¬ 2 * root+1≥hi) (h2:2 * root+1+1 < hi) (h3:lt32 d[first+(2 * root+1)]! d[first+(2 * root+1)+1]! = true) :
    siftDown lt32 hi first root d=if lt32 d[first+root]! d[first+(2 * root+1+1)]! = true then siftDown lt32 hi first (2 * root+1+1) (swp d (first+root) (first+(2 * root+1+1))) else d:=by
  rw [siftDown,dif_neg h,if_pos (by simp [h2,h3])]
  have h4:2 * root+2 < hi:=h2
  cases e:lt32 d[first+root]! d[first+(2 * root+1+1)]! with
  | true=>
    rw [if_neg (by simp),dif_pos h4,if_pos rfl]
  | false=>
    rw [if_pos (by simp),if_neg (by simp)]
theorem sd_l {hi first root:Nat} (h:¬ 2 * root+1≥hi) (h3:2 * root+1+1 < hi→lt32 d[first+(2 * root+1)]! d[first+(2 * root+1)+1]! = false) :
    siftDown lt32 hi first root d=if lt32 d[first+root]! d[first+(2 * root+1)]! = true then siftDown lt32 hi first (2 * root+1) (swp d (first+root) (first+(2 * root+1))) else d:=by
  rw [siftDown,dif_neg h,if_neg (by intro hh;simp only [Bool.and_eq_true,decide_eq_true_eq] at hh;rw [h3 hh.1] at hh;cases hh.2)]
  cases e:lt32 d[first+root]! d[first+(2 * root+1)]! <;> simp
theorem sd_size {hi first:Nat}:∀ (n root:Nat) (d:Array UInt32),hi - root≤n→(siftDown lt32 hi first root d).size=d.size
  | 0,root,d,h=>by rw [sd_stop (by omega)]
  | n+1,root,d,h=>by
    by_cases h1:2 * root+1≥hi
    · rw [sd_stop h1]
    · by_cases h2:2 * root+1+1 < hi∧lt32 d[first+(2 * root+1)]! d[first+(2 * root+1)+1]! = true
      · rw [sd_r h1 h2.1 h2.2]
        split
        · rw [sd_size n _ _ (by omega),swp_size]
        · rfl
      · rw [sd_l h1 (fun h=>by cases e:lt32 d[first+(2 * root+1)]! d[first+(2 * root+1)+1]! with
          | true=>exact absurd ⟨h,e⟩ h2
          | false=>rfl)]
        split
        · rw [sd_size n _ _ (by omega),swp_size]
        · rfl
theorem sdn_size {hi first root:Nat} {d:Array UInt32}:(siftDown lt32 hi first root d).size=d.size:=sd_size _ _ _ (Nat.le_refl _)
theorem rev_step (h:i < j):reverseLoop i j d=reverseLoop (i+1) (j - 1) (swp d i j):=by rw [reverseLoop,if_pos h]
theorem rev_stop (h:¬ i < j):reverseLoop i j d=d:=by rw [reverseLoop,if_neg h]
theorem nt {b:Bool} (h:(!b)=true):b=false:=by cases b <;> simp_all
theorem nf {b:Bool} (h:(!b)=false):b=true:=by cases b <;> simp_all
theorem ord_t {sw:Nat} (h:lt32 d[b]! d[a]! = true):order2 lt32 d a b sw=(b,a,sw+1):=by rw [order2,if_pos h]
theorem ord_f {sw:Nat} (h:lt32 d[b]! d[a]! = false):order2 lt32 d a b sw=(a,b,sw):=by rw [order2,if_neg (by rw [h];simp)]
theorem ord_lt {n sw:Nat} (ha:a < n) (hb:b < n):(order2 lt32 d a b sw).1 < n∧(order2 lt32 d a b sw).2.1 < n∧(order2 lt32 d a b sw).2.2≤sw+1:=by
  cases h:lt32 d[b]! d[a]! with
  | true=>rw [ord_t h];exact ⟨hb,ha,Nat.le_refl _⟩
  | false=>rw [ord_f h];exact ⟨ha,hb,Nat.le_succ _⟩
theorem med_lt {n sw c:Nat} (ha:a < n) (hb:b < n) (hc:c < n):(median lt32 d a b c sw).1 < n∧(median lt32 d a b c sw).2≤sw+3:=by
  obtain ⟨h1,h2,h3⟩:=ord_lt (d:=d) (sw:=sw) ha hb
  obtain ⟨h4,h5,h6⟩:=ord_lt (d:=d) (sw:=(order2 lt32 d a b sw).2.2) h2 hc
  obtain ⟨h7,h8,h9⟩:=ord_lt (d:=d) (sw:=(order2 lt32 d (order2 lt32 d a b sw).2.1 c (order2 lt32 d a b sw).2.2).2.2) h1 h4
  exact ⟨h8,by show (order2 lt32 d _ _ _).2.2≤_;omega⟩
def cpH (n:Nat):Hint:=if n=0 then .increasing else if n=12 then .decreasing else .unknown
def hv:Hint→Nat
  | .unknown=>0
  | .increasing=>1
  | .decreasing=>2
theorem cp1 (h:¬ b - a≥8):choosePivot lt32 d a b=(a+(b - a) / 4 * 2,cpH 0):=by unfold choosePivot;simp only [h,if_false];rfl
theorem cp2 (h:b - a≥8) (h2:¬ b - a≥50):choosePivot lt32 d a b=((median lt32 d (a+(b - a) / 4 * 1) (a+(b - a) / 4 * 2) (a+(b - a) / 4 * 3) 0).1,cpH (median lt32 d (a+(b - a) / 4 * 1) (a+(b - a) / 4 * 2) (a+(b - a) / 4 * 3) 0).2):=by unfold choosePivot;simp only [h,h2,if_true,if_false];rfl
theorem cp3 (h:b - a≥8) (h2:b - a≥50) {r1 r2 r3 r4:Nat × Nat} (e1:medianAdjacent lt32 d (a+(b - a) / 4 * 1) 0=r1) (e2:medianAdjacent lt32 d (a+(b - a) / 4 * 2) r1.2=r2) (e3:medianAdjacent lt32 d (a+(b - a) / 4 * 3) r2.2=r3) (e4:median lt32 d r1.1 r2.1 r3.1 r3.2=r4):choosePivot lt32 d a b=(r4.1,cpH r4.2):=by
  subst e1 e2 e3 e4
  unfold choosePivot;simp only [h,h2,if_true];rfl
theorem up_step {p:UInt32→Bool} (h:i≤j) (h2:p d[i]! = true):scanUp p d j i=scanUp p d j (i+1):=by rw [scanUp,if_pos (by simp [h,h2])]
theorem up_stop {p:UInt32→Bool} (h:i≤j→p d[i]! = false):scanUp p d j i=i:=by
  rw [scanUp,if_neg]
  intro hh
  simp only [Bool.and_eq_true,decide_eq_true_eq] at hh
  rw [h hh.1] at hh;cases hh.2
theorem down_step {p:UInt32→Bool} (h0:1≤j) (h:i≤j) (h2:p d[j]! = true):scanDown p d i j=scanDown p d i (j - 1):=by
  obtain ⟨k,rfl⟩:∃ k,j=k+1:=⟨j - 1,by omega⟩
  rw [scanDown,if_pos (by simp [h,h2])];rfl
theorem down_stop {p:UInt32→Bool} (h:i≤j→p d[j]! = false):scanDown p d i j=j:=by
  cases j with
  | zero=>rfl
  | succ k=>
    rw [scanDown,if_neg]
    intro hh
    simp only [Bool.and_eq_true,decide_eq_true_eq] at hh
    rw [h hh.1] at hh;cases hh.2
theorem part_stop {i2 j2:Nat} (e1:scanUp (fun x=>lt32 x d[a]!) d j i=i2) (e2:scanDown (fun x=>!lt32 x d[a]!) d i2 j=j2) (h:i2 > j2):partLoop lt32 a i j d=(j2,d):=by
  subst e1 e2;rw [partLoop];simp only [h,if_true]
theorem part_step {i2 j2:Nat} (e1:scanUp (fun x=>lt32 x d[a]!) d j i=i2) (e2:scanDown (fun x=>!lt32 x d[a]!) d i2 j=j2) (h:¬ i2 > j2) (hg:(j2 - 1)+1 - (i2+1) < j+1 - i):partLoop lt32 a i j d=partLoop lt32 a (i2+1) (j2 - 1) (swp d i2 j2):=by
  subst e1 e2;rw [partLoop];simp only [h,if_false];rw [dif_pos hg]
theorem parte_stop {i2 j2:Nat} (e1:scanUp (fun x=>!lt32 d[a]! x) d j i=i2) (e2:scanDown (fun x=>lt32 d[a]! x) d i2 j=j2) (h:i2 > j2):partEqLoop lt32 a i j d=(i2,d):=by
  subst e1 e2;rw [partEqLoop];simp only [h,if_true]
theorem parte_step {i2 j2:Nat} (e1:scanUp (fun x=>!lt32 d[a]! x) d j i=i2) (e2:scanDown (fun x=>lt32 d[a]! x) d i2 j=j2) (h:¬ i2 > j2) (hg:(j2 - 1)+1 - (i2+1) < j+1 - i):partEqLoop lt32 a i j d=partEqLoop lt32 a (i2+1) (j2 - 1) (swp d i2 j2):=by
  subst e1 e2;rw [partEqLoop];simp only [h,if_false];rw [dif_pos hg]
theorem partition_t {pv i1 j1:Nat} {d0:Array UInt32} (e0:swp d a pv=d0) (e1:scanUp (fun x=>lt32 x d0[a]!) d0 (b - 1) (a+1)=i1) (e2:scanDown (fun x=>!lt32 x d0[a]!) d0 i1 (b - 1)=j1) (h:i1 > j1):partition lt32 d a b pv=(j1,true,swp d0 j1 a):=by
  subst e0 e1 e2;unfold partition;simp only [h,if_true]
theorem partition_f {pv i1 j1:Nat} {d0:Array UInt32} (e0:swp d a pv=d0) (e1:scanUp (fun x=>lt32 x d0[a]!) d0 (b - 1) (a+1)=i1) (e2:scanDown (fun x=>!lt32 x d0[a]!) d0 i1 (b - 1)=j1) (h:¬ i1 > j1) {r:Nat × Array UInt32} (e3:partLoop lt32 a (i1+1) (j1 - 1) (swp d0 i1 j1)=r):partition lt32 d a b pv=(r.1,false,swp r.2 r.1 a):=by
  subst e0 e1 e2 e3;unfold partition;simp only [h,if_false]
theorem sorted_step (h:i < b) (h2:lt32 d[i]! d[i - 1]! = false):scanSorted lt32 d b i=scanSorted lt32 d b (i+1):=by rw [scanSorted,if_pos (by simp [h,h2])]
theorem sorted_stop (h:i < b→lt32 d[i]! d[i - 1]! = true):scanSorted lt32 d b i=i:=by
  rw [scanSorted,if_neg]
  intro hh
  simp only [Bool.and_eq_true,decide_eq_true_eq,Bool.not_eq_true'] at hh
  rw [h hh.1] at hh;cases hh.2
theorem sdown_step (h:1≤j) (h2:lt32 d[j]! d[j - 1]! = true):shiftDown lt32 j d=shiftDown lt32 (j - 1) (swp d j (j - 1)):=by
  obtain ⟨k,rfl⟩:∃ k,j=k+1:=⟨j - 1,by omega⟩
  rw [Nat.add_sub_cancel] at h2 ⊢
  rw [shiftDown,if_neg (by simp [h2])]
theorem sdown_stop (h:1≤j→lt32 d[j]! d[j - 1]! = false):shiftDown lt32 j d=d:=by
  cases j with
  | zero=>rfl
  | succ k=>
    have:=h (by omega)
    rw [Nat.add_sub_cancel] at this
    rw [shiftDown,if_pos (by simp [this])]
theorem sup_step (h:j < b) (h2:lt32 d[j]! d[j - 1]! = true):shiftUp lt32 b j d=shiftUp lt32 b (j+1) (swp d j (j - 1)):=by rw [shiftUp,if_pos h,if_neg (by simp [h2])]
theorem sup_stop (h:j < b→lt32 d[j]! d[j - 1]! = false):shiftUp lt32 b j d=d:=by
  rw [shiftUp]
  split
  · rename_i hb;rw [if_pos (by simp [h hb])]
  · rfl
theorem pins_t {s i2:Nat} (e:scanSorted lt32 d b i=i2) (h:i2=b):partialIns lt32 a b (s+1) i d=(d,true):=by subst e;rw [partialIns];simp only [h,if_true]
theorem pins_f {s i2:Nat} (e:scanSorted lt32 d b i=i2) (h:¬ i2=b) (h2:b - a < 50):partialIns lt32 a b (s+1) i d=(d,false):=by subst e;rw [partialIns];simp only [h,h2,if_true,if_false]
theorem pins_s {s i2:Nat} {d2 d3:Array UInt32} (e:scanSorted lt32 d b i=i2) (h:¬ i2=b) (h2:¬ b - a < 50) (e2:(if i2 - a≥2 then shiftDown lt32 (i2 - 1) (swp d i2 (i2 - 1)) else swp d i2 (i2 - 1))=d2) (e3:(if b - i2≥2 then shiftUp lt32 b (i2+1) d2 else d2)=d3) :
    partialIns lt32 a b (s+1) i d=partialIns lt32 a b s i2 d3:=by subst e e2 e3;rw [partialIns];simp only [h,h2,if_false]
end
theorem wu64 (n:Nat):IntKind.u64.wrap (n:Int)=((UInt64.ofNat n).toNat:Int):=by simp [IntKind.wrap,IntKind.bits,IntKind.signed]
theorem bv64 (a:UInt64):BitVec.ofInt IntKind.u64.bits (a.toNat:Int)=a.toBitVec:=by
  show BitVec.ofInt 64 _=_
  apply BitVec.eq_of_toNat_eq;simp
theorem back64 (x:BitVec 64):IntKind.u64.wrap (x.toNat:Int)=((⟨x⟩:UInt64).toNat:Int):=by
  rw [wu64];congr 1;show (UInt64.ofNat x.toNat).toNat=x.toNat;simp
theorem bxor64 (a b:UInt64):bits .xor .u64 (a.toNat:Int) (b.toNat:Int)=((a ^^^ b).toNat:Int):=by unfold bits;simp only [bv64];exact back64 _
theorem band64 (a b:UInt64):bits .and .u64 (a.toNat:Int) (b.toNat:Int)=((a &&& b).toNat:Int):=by unfold bits;simp only [bv64];exact back64 _
section
variable {P : Program} {r : Option Nat} {g : World} {Γ : Env} {L M : List HP} {dst : Option Tmp} {t : TypeId} {pos : String} {aft : Array Edge} {gd : Option (Nat × Bool)} {x y : Operand} {xt yt : TypeId} {a b : UInt64}
theorem e_xor64 (hx:ev Γ x=some (.int .u64 a.toNat):=by rfl) (hy:ev Γ y=some (.int .u64 b.toNat):=by rfl):EO P g ⟨dst,.binOp .xor xt x y yt,t,pos,aft,gd⟩ Γ L (.int .u64 (a ^^^ b).toNat):=e_bits (by simp) hx hy (bxor64 a b)
theorem e_and64 {m:Nat} (hm:m < 18446744073709551616) (hx:ev Γ x=some (.int .u64 a.toNat):=by rfl) (hy:ev Γ y=some (.int .u64 (m:Nat)):=by rfl):EO P g ⟨dst,.binOp .and xt x y yt,t,pos,aft,gd⟩ Γ L (.int .u64 ((a.toNat &&& m:Nat):Int)):=
  e_bits (by simp) hx hy (by
    have h:(UInt64.ofNat m).toNat=m:=by rw [UInt64.toNat_ofNat'];exact Nat.mod_eq_of_lt hm
    rw [← h,band64,UInt64.toNat_and])
theorem e_shl64 {k':IntKind} {m:UInt64} (hm:m.toNat < 64) (hx:ev Γ x=some (.int .u64 a.toNat):=by rfl) (hy:ev Γ y=some (.int k' m.toNat):=by rfl):EO P g ⟨dst,.binOp .shl xt x y yt,t,pos,aft,gd⟩ Γ L (.int .u64 (a <<< m).toNat):=
  e_shl hx hy (by omega) (by simp [IntKind.bits];omega) (by
    rw [UInt64.toNat_shiftLeft,Nat.mod_eq_of_lt hm,Nat.shiftLeft_eq];simp [IntKind.wrap,IntKind.bits,IntKind.signed])
theorem e_shr64 {k':IntKind} {m:UInt64} (hm:m.toNat < 64) (hx:ev Γ x=some (.int .u64 a.toNat):=by rfl) (hy:ev Γ y=some (.int k' m.toNat):=by rfl):EO P g ⟨dst,.binOp .shr xt x y yt,t,pos,aft,gd⟩ Γ L (.int .u64 (a >>> m).toNat):=
  e_shr hx hy (by omega) (by simp [IntKind.bits];omega) (by rw [UInt64.toNat_shiftRight,Nat.mod_eq_of_lt hm,Nat.shiftRight_eq_div_pow];simp)
end
theorem tab_all (s:ByteArray) (h:((List.range 256).all fun i=>s[i]? == some (UInt8.ofNat (bitsLen i)))=true) {i:Nat} (hi:i < 256):s[i]?=some (UInt8.ofNat (bitsLen i)):=by
  have:=List.all_eq_true.1 h i (List.mem_range.2 hi)
  simpa using this
theorem log2_shr:∀ (k x:Nat),2 ^ k≤x→Nat.log2 x=k+Nat.log2 (x / 2 ^ k)
  | 0,x,_=>by simp
  | k+1,x,h=>by
    have h2:2≤x:=Nat.le_trans (by rw [Nat.pow_succ];have:=Nat.one_le_two_pow (n:=k);omega) h
    have h3:2 ^ k≤x / 2:=by rw [Nat.pow_succ] at h;omega
    rw [Nat.log2_def,if_pos h2,log2_shr k (x / 2) h3,Nat.div_div_eq_div_mul,Nat.pow_succ,Nat.mul_comm 2]
    omega
theorem bitsLen_shr (k x:Nat) (h:2 ^ k≤x):bitsLen x=k+bitsLen (x / 2 ^ k):=by
  have h0:0 < 2 ^ k:=Nat.two_pow_pos k
  have h1:0 < x / 2 ^ k:=Nat.div_pos h h0
  unfold bitsLen
  rw [if_neg (by omega),if_neg (by omega),log2_shr k x h];omega
theorem bitsLen_lt {k x:Nat} (h:x < 2 ^ k):bitsLen x≤k:=by
  unfold bitsLen
  split
  · exact Nat.zero_le _
  · rename_i h0;have:=(Nat.log2_lt h0).2 h;omega
theorem bitsLen_pow {x:Nat} (h:0 < x):2 ^ bitsLen x≤2 * x:=by
  unfold bitsLen
  rw [if_neg (by omega),Nat.pow_succ]
  have:=Nat.log2_self_le (n:=x) (by omega)
  omega
section
variable {d : Array UInt32} {a b i j : Nat}
def brk (a n m:Nat) (st:UInt64 × Array UInt32) (i:Nat):Nat→UInt64 × Array UInt32
  | 0=>st
  | k+1=>breakStep a n m (brk a n m st i k) (i+k)
theorem brk_eq (h:b - a≥8):breakPatterns d a b=(brk a (b - a) (2 ^ bitsLen (b - a)) (UInt64.ofNat (b - a),d) (a+(b - a) / 4 * 2 - 1) 3).2:=by
  unfold breakPatterns
  simp only [h,if_true,Nat.shiftLeft_eq,Nat.one_mul];rfl
theorem brk_no (h:¬ b - a≥8):breakPatterns d a b=d:=by unfold breakPatterns;simp only [h,if_false]
theorem sort_done {xs:List UInt32} {d':Array UInt32} (p1:PermIn 0 xs.length xs.toArray d') (p2:SortedIn lt32 0 xs.length d'):d'.toList.Perm xs∧d'.toList.Pairwise fun x y=>x≤y:=by
  have hsz:d'.size=xs.length:=by rw [p1.1];simp
  constructor
  · have h:=p1.2.2
    rw [← hsz,Array.extract_size] at h
    have e:(xs.toArray.extract 0 d'.size).toList=xs:=by rw [hsz];simp
    rw [e] at h;exact h
  · rw [List.pairwise_iff_getElem]
    intro i j hi hj hij
    rw [Array.length_toList] at hi hj
    have:=p2 i j (Nat.zero_le _) hij (by omega)
    rw [getElem!_pos d' i (by omega),getElem!_pos d' j (by omega)] at this
    simp only [Array.getElem_toList]
    simp only [lt32,decide_eq_false_iff_not] at this
    exact UInt32.not_lt.1 this
theorem sl_map {α β:Type} {E z:Nat} {enc:β→List Value} {f:α→β} {u:Value} {xs:List α} {S:Piece} (h:Sl E z (fun x=>enc (f x)) u xs S):Sl E z enc u (xs.map f) S:=by
  unfold Sl at h ⊢
  rw [List.length_map,List.flatMap_map];exact h
end
end Go.SL
namespace Go.SL
open Go Go.Proofs
section
variable {α : Type}
theorem ents_keyU {E z:Nat} {enc:α→List Value} {es:List (EntV UInt32 α)} (k:UInt32):RL (Ents E z enc es) z enc (svE es k).v (wsE es k):=by
  cases hf:findE es k with
  | none=>
    unfold svE wsE
    rw [hf]
    exact nil_rl
  | some e=>
    unfold svE wsE
    rw [hf]
    exact ents_rl (findE_key hf).1
theorem wsE_set (es:List (EntV UInt32 α)) (k:UInt32) (sv:SV) (ws:List α) (j:UInt32):wsE (setE es k sv ws) j=if j=k then ws else wsE es j:=by
  rw [wsE_st,setE_st,setS_get,wsE_st]
  split <;> rfl
theorem findE_ws {es:List (EntV UInt32 α)} {k:UInt32} (h:findE es k=none):wsE es k=[]:=by unfold wsE;rw [h]
variable {P : Program} {g : World} {Γ : Env} {L M : List HP} {dst : Option Tmp} {t : TypeId} {pos : String} {aft : Array Edge} {gd : Option (Nat × Bool)}
theorem eu_look {m:Value} {d:TypeDesc} {kt:TypeId} {es:List (EntV UInt32 α)} {x i:Operand} {T e:TypeId} {k:UInt32} (ht:P.underlying T=some (.map kt e)) (hk:KeyOk P kt d eU32) (hz:(P.info? e).bind (·.zero)=some (.slice none 0 0)) (hx:ev Γ x=some m:=by rfl) (hi:ev Γ i=some (.int .u32 k.toNat):=by rfl) (hp:Pick L (Mp eU32 m (es.map kvE)) M:=by repeat first | exact .z | apply Pick.s) :
    EO P g ⟨dst,.lookup T x i false,t,pos,aft,gd⟩ Γ L (svE es k).v:=mget_svE es k ▸ em_lookup ht hk hz mp_rdm hx hi hp
theorem eu_look2 {m:Value} {d:TypeDesc} {kt:TypeId} {es:List (EntV UInt32 α)} {x i:Operand} {T e:TypeId} {k:UInt32} (ht:P.underlying T=some (.map kt e)) (hk:KeyOk P kt d eU32) (hz:(P.info? e).bind (·.zero)=some (.slice none 0 0)) (hx:ev Γ x=some m:=by rfl) (hi:ev Γ i=some (.int .u32 k.toNat):=by rfl) (hp:Pick L (Mp eU32 m (es.map kvE)) M:=by repeat first | exact .z | apply Pick.s) :
    EO P g ⟨dst,.lookup T x i true,t,pos,aft,gd⟩ Γ L (.tuple #[(svE es k).v,.bool (findE es k).isSome]):=by
  have h:=em_lookup2 (P:=P) (g:=g) (Γ:=Γ) (dst:=dst) (t:=t) (pos:=pos) (aft:=aft) (gd:=gd) (x:=x) (i:=i) (k:=k) ht hk hz mp_rdm hx hi hp
  rw [mget_svE,mget_kvE] at h
  rw [show ((findE es k).map fun e=>e.sv.v).isSome=(findE es k).isSome by cases findE es k <;> rfl] at h
  exact h
end
def EdgeL (fs ts:List UInt32) (i:Nat) (x y:UInt32):Prop:=∃ j,j < i∧fs[j]?=some x∧ts[j]?=some y
structure AllOk (es:List (EntV UInt32 UInt32)) (fs ts:List UInt32) (i:Nat):Prop where
  mem:∀ x y,y ∈ wsE es x↔EdgeL fs ts i x y
  len:∀ x,(wsE es x).length≤i
theorem AllOk.init (fs ts:List UInt32):AllOk [] fs ts 0:=⟨fun x y=>by simp [wsE,findE,EdgeL],fun x=>by simp [wsE,findE]⟩
theorem AllOk.step {es:List (EntV UInt32 UInt32)} {fs ts:List UInt32} {i:Nat} (h:AllOk es fs ts i) {x y:UInt32} (hx:fs[i]?=some x) (hy:ts[i]?=some y) (sv:SV):AllOk (setE es x sv (wsE es x++[y])) fs ts (i+1):=by
  refine ⟨fun a b=>?_,fun a=>?_⟩
  · rw [wsE_set]
    have hE:EdgeL fs ts (i+1) a b↔EdgeL fs ts i a b∨(a=x∧b=y):=by
      constructor
      · rintro ⟨j,hj,h1,h2⟩
        rcases Nat.lt_or_ge j i with hlt | hge
        · exact .inl ⟨j,hlt,h1,h2⟩
        · obtain rfl:j=i:=by omega
          rw [hx] at h1;rw [hy] at h2;cases h1;cases h2
          exact .inr ⟨rfl,rfl⟩
      · rintro (⟨j,hj,h1,h2⟩ | ⟨rfl,rfl⟩)
        · exact ⟨j,by omega,h1,h2⟩
        · exact ⟨i,by omega,hx,hy⟩
    rw [hE,← h.mem]
    by_cases e:a=x
    · subst e;rw [if_pos rfl];simp
    · rw [if_neg e];simp [e]
  · rw [wsE_set]
    have:=h.len a;have:=h.len x
    split
    · simp;omega
    · omega
theorem AllOk.nil {es:List (EntV UInt32 UInt32)} {fs ts:List UInt32} {i:Nat} (h:AllOk es fs ts i) {y:UInt32} (hf:findE es y=none) (sv:SV):AllOk (setE es y sv []) fs ts i:=by
  have e:∀ a,wsE (setE es y sv []) a=wsE es a:=fun a=>by
    rw [wsE_set]
    split
    · rename_i e;rw [e,findE_ws hf]
    · rfl
  exact ⟨fun a b=>by rw [e];exact h.mem a b,fun a=>by rw [e];exact h.len a⟩
structure DfsOk (R:UInt32→UInt32→Prop) (whom:UInt32) (S N:List UInt32) (M:Nat) (ts:List UInt32):Prop where
  nd:S.Nodup
  fst:whom ∈ S
  can:∀ y ∈ S,Reach R whom y
  sub:∀ y ∈ N,y ∈ S
  all:∀ x ∈ S,x ∉ N→∀ y,R x y→y ∈ S
  mu:(ts.filter fun y=>decide (y ∉ S)).length+N.length≤M
structure DfsIn (R:UInt32→UInt32→Prop) (whom x:UInt32) (ws S N:List UInt32) (k M:Nat) (ts:List UInt32):Prop where
  nd:S.Nodup
  fst:whom ∈ S
  can:∀ y ∈ S,Reach R whom y
  sub:∀ y ∈ N,y ∈ S
  xin:x ∈ S
  all:∀ z ∈ S,z ∉ N→z≠x→∀ y,R z y→y ∈ S
  part:∀ y ∈ ws.take k,y ∈ S
  mu:(ts.filter fun y=>decide (y ∉ S)).length+N.length≤M
theorem Reach.closed {R:UInt32→UInt32→Prop} {a:UInt32} {S:List UInt32} (ha:a ∈ S) (hc:∀ x ∈ S,∀ y,R x y→y ∈ S) {b:UInt32} (h:Reach R a b):b ∈ S:=by
  induction h with
  | refl=>exact ha
  | tail _ h1 ih=>exact hc _ ih _ h1
theorem DfsOk.init (R:UInt32→UInt32→Prop) (whom:UInt32) (ts:List UInt32):DfsOk R whom [whom] [whom] (ts.length+1) ts:=
  ⟨by simp,by simp,fun y hy=>by simp at hy;subst hy;exact .refl,fun y h=>h,fun x hx hn=>absurd hx hn,by
    have:=List.length_filter_le (fun y=>decide (y ∉ [whom])) ts
    simp only [List.length_singleton];omega⟩
theorem DfsIn.old {R:UInt32→UInt32→Prop} {whom x:UInt32} {ws S N:List UInt32} {k M:Nat} {ts:List UInt32} (h:DfsIn R whom x ws S N k M ts) {y:UInt32} (hy:ws[k]?=some y) (hs:y ∈ S):DfsIn R whom x ws S N (k+1) M ts:=
  ⟨h.nd,h.fst,h.can,h.sub,h.xin,h.all,fun z hz=>by
    rw [take_snoc hy] at hz
    rcases List.mem_append.1 hz with hz | hz
    · exact h.part z hz
    · simp at hz;subst hz;exact hs,h.mu⟩
theorem filter_less {ts S:List UInt32} {y:UInt32} (hy:y ∈ ts) (hs:y ∉ S):(ts.filter fun z=>decide (z ∉ S++[y])).length+1≤(ts.filter fun z=>decide (z ∉ S)).length:=by
  induction ts with
  | nil=>cases hy
  | cons a ts ih=>
    have hle:(ts.filter fun z=>decide (z ∉ S++[y])).length≤(ts.filter fun z=>decide (z ∉ S)).length:=by
      clear ih hy
      induction ts with
      | nil=>simp
      | cons b ts ih=>
        simp only [List.filter_cons]
        by_cases h1:b ∈ S
        · simp [h1];simpa using ih
        · by_cases h2:b=y
          · subst h2;simp [h1];simp at ih;omega
          · simp [h1,h2];simpa using ih
    simp only [List.filter_cons]
    by_cases e:a=y
    · subst e
      simp [hs]
      simpa using hle
    · have hy':y ∈ ts:=by rcases List.mem_cons.1 hy with h | h;exact absurd h.symm e;exact h
      have ih:=ih hy'
      by_cases h1:a ∈ S
      · simp [h1];simpa using ih
      · simp [h1,e];simpa using ih
theorem DfsIn.push {R:UInt32→UInt32→Prop} {whom x:UInt32} {ws S N:List UInt32} {k M:Nat} {ts:List UInt32} (h:DfsIn R whom x ws S N k M ts) {y:UInt32} (hy:ws[k]?=some y) (hs:y ∉ S) (hR:R x y) (ht:y ∈ ts):DfsIn R whom x ws (S++[y]) (N++[y]) (k+1) M ts:=by
  refine ⟨?_,by simp [h.fst],fun z hz=>?_,fun z hz=>?_,by simp [h.xin],fun z hz hn hne w hw=>?_,fun z hz=>?_,?_⟩
  · rw [List.nodup_append]
    exact ⟨h.nd,by simp,fun a ha b hb e=>by simp at hb;subst hb;subst e;exact hs ha⟩
  · rcases List.mem_append.1 hz with hz | hz
    · exact h.can z hz
    · simp at hz;subst hz;exact (h.can x h.xin).tail hR
  · rcases List.mem_append.1 hz with hz | hz
    · exact List.mem_append_left _ (h.sub z hz)
    · exact List.mem_append_right _ hz
  · rcases List.mem_append.1 hz with hz | hz
    · exact List.mem_append_left _ (h.all z hz (fun hm=>hn (List.mem_append_left _ hm)) hne w hw)
    · exact absurd (List.mem_append_right N hz) hn
  · rw [take_snoc hy] at hz
    rcases List.mem_append.1 hz with hz | hz
    · exact List.mem_append_left _ (h.part z hz)
    · exact List.mem_append_right _ hz
  · have:=h.mu;have:=filter_less ht hs
    rw [List.length_append,List.length_singleton];omega
theorem DfsIn.done {R:UInt32→UInt32→Prop} {whom x:UInt32} {ws S N:List UInt32} {k M:Nat} {ts:List UInt32} (h:DfsIn R whom x ws S N k M ts) (hk:ws.length≤k) (hR:∀ y,R x y→y ∈ ws):DfsOk R whom S N M ts:=
  ⟨h.nd,h.fst,h.can,h.sub,fun z hz hn y hy=>by
    by_cases e:z=x
    · subst e;exact h.part y (by rw [List.take_of_length_le hk];exact hR y hy)
    · exact h.all z hz hn e y hy,h.mu⟩
def seenV (y:UInt32):UInt32 × Value:=(y,.int .i64 1)
theorem mget_seen (S:List UInt32) (y:UInt32):(mget (S.map seenV) y).getD (.int .i64 0)=.int .i64 (if y ∈ S then 1 else 0):=by
  unfold mget
  induction S with
  | nil=>simp
  | cons a S ih=>
    simp only [List.map_cons,List.find?_cons,seenV]
    by_cases e:a=y
    · simp [e]
    · have:¬ y=a:=fun h=>e h.symm
      simp only [e,decide_false]
      rw [ih]
      simp [this]
theorem mset_seen {S:List UInt32} {y:UInt32} (h:y ∉ S):mset (S.map seenV) y (.int .i64 1)=(S++[y]).map seenV:=by
  have h1:midx (S.map seenV) y=none:=by
    unfold midx
    rw [List.findIdx?_eq_none_iff]
    intro p hp
    obtain ⟨a,ha,rfl⟩:=List.mem_map.1 hp
    exact decide_eq_false fun e=>by
      have e:a=y:=e
      subst e;exact h ha
  simp [mset,h1,seenV]
section
variable {P : Program} {g : World} {Γ : Env} {L M : List HP} {dst : Option Tmp} {t : TypeId} {pos : String} {aft : Array Edge} {gd : Option (Nat × Bool)}
theorem eu_seen {m:Value} {d:TypeDesc} {kt:TypeId} {S:List UInt32} {x i:Operand} {T e:TypeId} {k:UInt32} (ht:P.underlying T=some (.map kt e)) (hk:KeyOk P kt d eU32) (hz:(P.info? e).bind (·.zero)=some (.int .i64 0)) (hx:ev Γ x=some m:=by rfl) (hi:ev Γ i=some (.int .u32 k.toNat):=by rfl) (hp:Pick L (Mp eU32 m (S.map seenV)) M:=by repeat first | exact .z | apply Pick.s) :
    EO P g ⟨dst,.lookup T x i false,t,pos,aft,gd⟩ Γ L (.int .i64 (if k ∈ S then 1 else 0)):=mget_seen S k ▸ em_lookup ht hk hz mp_rdm hx hi hp
end
end Go.SL
