import Derived.Test.YtmeoolijekillaaGreatDoorQL16
import Derived.Shelf.Strconv.Itoa3
import Derived.Deep.Slices
import Derived.ChangeSame
import Derived.SizedLaws
import Derived.Shelf.Strconv.Itoa2
import Derived.Lib.ItoaMem
set_option linter.unusedSimpArgs false
set_option linter.unusedVariables false
set_option linter.unusedSectionVars false
namespace Go.SL
open Go
inductive DoE (σ:Type)
 | err (s:σ) (e:Nat)
 | put (f:SV→σ)
 | look (s:σ) (rows:List RowM)
structure EngM where
 St:Type
 Ok:St→Nat→Prop
 first:St
 begE:St→UInt32→Nat
 begS:St→UInt32→Nat→St
 doS:St→UInt32→OpM→DoE St
 comE:St→UInt32→Nat
 comN:St→UInt32→UInt32
 comS:St→UInt32→St
 aboE:St→UInt32→Nat
 aboS:St→UInt32→St
 rows:St→List RowM
 okFirst:Ok first 0
 okMono:∀ {s b c},Ok s b→b≤c→c≤1000000000→Ok s c
 okBB:∀ {s b},Ok s b→b≤1000000000
 okBeg:∀ {s b},Ok s b→∀ n q,Ok (begS s n q) b
 okErr:∀ {s b n x s' e},Ok s b→doS s n x=.err s' e→Ok s' b∧e≠0∧e≠10
 okPut:∀ {s b n x f},Ok s b→b+1≤1000000000→doS s n x=.put f→(∀ sv,Ok (f sv) (b+1))∧opOk x=true
 okLook:∀ {s b n x s' r},Ok s b→b+1≤1000000000→doS s n x=.look s' r→Ok s' (b+1)∧r.length≤256∧opOk x=true
 okCom:∀ {s b},Ok s b→b+1≤1000000000→∀ n,Ok (comS s n) (b+1)
 okAbo:∀ {s b},Ok s b→∀ n,Ok (aboS s n) b
 rowsLe:∀ {s b},Ok s b→(rows s).length≤b
 rising:∀ {s b},Ok s b→Rising (rows s)
 doBad:∀ {s n x},opOk x=false→doS s n x=.err s 1
 doNone:∀ {s b x},Ok s b→opOk x=true→doS s 0 x=.err s 6
 Fr:St→List UInt32→UInt32→List ChgM→List RowM→Nat→Nat→Nat→Prop
 frOk:∀ {s ids n own rs c k b},Fr s ids n own rs c k b→Ok s b
 frRows:∀ {s ids n own rs c k b},Fr s ids n own rs c k b→rows s=rs
 frFirst:∀ n,Fr first [] n [] [] 0 0 0
 frBeg:∀ {s ids n rs c k b},Fr s ids n [] rs c k b→b+1≤1000000000→∀ j,j≠0→j ∉ ids→ids.length < 32→begE s j=0∧∀ q,Fr (begS s j q) (ids++[j]) n [] rs c k (b+1)
 frPut:∀ {s ids n own rs c k b x},Fr s ids n own rs c k b→b+1≤1000000000→n ∈ ids→opOk x=true→writes x=true→∃ f,doS s n x=.put f∧∀ sv,Fr (f sv) ids n (own++[chgOf x]) rs c k (b+1)
 frLook:∀ {s ids n own rs c k b x},Fr s ids n own rs c k b→b+1≤1000000000→n ∈ ids→opOk x=true→writes x=false→∃ s',doS s n x=.look s' (scanR (changeR rs own) (spanOf x) 256)∧Fr s' ids n own rs c k (b+1)
 frCom:∀ {s ids n own rs c k b},Fr s ids n own rs c k b→b+1≤1000000000→n ∈ ids→own.length≤80→c≤40→comE s n=0∧(ids=[n]→k < (comN s n).toNat∧∀ m,Fr (comS s n) [] m [] (changeR rs own) (c+1) (comN s n).toNat (b+1))
 frAbo:∀ {s ids n own rs c k b},Fr s ids n own rs c k b→n ∈ ids→aboE s n=0∧(ids=[n]→∃ k',k≤k'∧∀ m,Fr (aboS s n) [] m [] rs c k' b)
 frAbE:∀ {s ids n own rs c k b j},Fr s ids n own rs c k b→j ∈ ids→aboE s j=0
def DoS.e:DoS→DoE StV
 | .err s e=>.err s e
 | .put s=>.put fun _=>s
 | .look s r=>.look s r
def Nz (s:StV):Prop:=∀ t ∈ s.txs,t.id≠0
theorem Nz.sub {s s':StV} (h:Nz s) (hs:∀ t ∈ s'.txs,∃ u ∈ s.txs,t.id=u.id):Nz s':=fun t ht=>by
 obtain ⟨u,hu,e⟩:=hs t ht
 rw [e];exact h u hu
theorem Nz.beg {s:StV} (h:Nz s) (n:UInt32) (q:Nat):Nz (begS s n q):=by
 unfold begS
 split
 ·rename_i hE
  intro t ht
  rcases List.mem_append.1 ht with ht | ht
  ·exact h t ht
  ·obtain rfl:=List.mem_singleton.1 ht
   exact (begE_zero hE).1
 ·exact h
theorem com_txs {I:Kind} {G:Good I} {s:StV} {b:Nat} (h:G.Ok s b) (n:UInt32):(comS I s n).txs=delU s.txs n:=by
 obtain ⟨_,_,_,e⟩:=G.endsE h n
 unfold comS
 cases hf:findU s.txs n with
 | none=>
  simp only
  unfold delU
  rw [List.eraseP_of_forall_not (fun y hy=>by have:=findU_no hf y hy;simpa using this)]
 | some t=>
  simp only
  split
  ·exact e
  ·split
   ·exact e
   ·exact e
theorem find_id {ts:List TxT} {n:UInt32} (h:n ∈ ts.map (·.id)):∃ t,findU ts n=some t:=by
 cases hf:findU ts n with
 | none=>exact absurd h (findU_none hf)
 | some t=>exact ⟨t,rfl⟩
structure FrS (s:StV) (ids:List UInt32) (n:UInt32) (own:List ChgM) (rs:List RowM) (c k:Nat):Prop where
 ids:s.txs.map (·.id)=ids
 own:∀ t ∈ s.txs,t.x.own=if t.id=n then own else []
 rows:s.rows=rs
 his:s.H.length=c
 at_:s.at_≤82 * c
 kc:k≤c
section
variable {s s' : StV} {ids : List UInt32} {n : UInt32} {own : List ChgM} {rs : List RowM} {c k : Nat}
theorem FrS.find (h:FrS s ids n own rs c k) (hn:n ∈ ids):∃ t,findU s.txs n=some t∧t.x.own=own:=by
 obtain ⟨t,ht⟩:=find_id (ts:=s.txs) (n:=n) (by rw [h.ids];exact hn)
 refine ⟨t,ht,?_⟩
 rw [h.own t (findU_mem ht),if_pos (findU_mid ht).1]
theorem FrS.beg (h:FrS s ids n [] rs c k) (j:UInt32) (h0:j≠0) (hj:j ∉ ids) (hl:ids.length < 32):begE s j=0∧∀ q,FrS (begS s j q) (ids++[j]) n [] rs c k:=by
 have hf:findU s.txs j=none:=by
  cases hf:findU s.txs j with
  | none=>rfl
  | some t=>exact absurd (List.mem_map.2 ⟨t,findU_mem hf,(findU_mid hf).1⟩) (by rw [h.ids];exact hj)
 have hlen:s.txs.length=ids.length:=by rw [← h.ids,List.length_map]
 have hE:begE s j=0:=by
  unfold begE
  rw [if_neg h0,hf,hlen]
  simp;omega
 refine ⟨hE,fun q=>?_⟩
 unfold begS
 rw [if_pos hE]
 refine ⟨by simp [h.ids,begT],fun t ht=>?_,h.rows,h.his,h.at_,h.kc⟩
 rcases List.mem_append.1 ht with ht | ht
 ·exact h.own t ht
 ·obtain rfl:=List.mem_singleton.1 ht
  show []=if (begT s j q).id=n then [] else []
  split <;> rfl
theorem FrS.upd (h:FrS s ids n own rs c k) (hn:(s.txs.map (·.id)).Nodup) {t:TxT} (hf:findU s.txs n=some t) {x:TX} (hH:s'.H=s.H) (ha:s'.at_=s.at_) (ht:s'.txs=setU s.txs n x):FrS s' ids n x.own rs c k:=by
 refine ⟨by rw [ht,setU_ids];exact h.ids,fun u hu=>?_,by rw [StV.rows,hH];exact h.rows,by rw [hH];exact h.his,by rw [ha];exact h.at_,h.kc⟩
 rw [ht] at hu
 rcases setU_mem hu with ⟨v,hv,hvi,rfl⟩ | ⟨hu,hne⟩
 ·rw [if_pos hvi]
 ·rw [h.own u hu,if_neg hne,if_neg hne]
theorem FrS.fits (h:FrS s ids n own rs c k) {b:Nat} (hk:StOk s b) {t:TxT} (hf:findU s.txs n=some t) (ho:t.x.own=own) (hl:own.length≤80) (hc:c≤40):fitsS s t.x∧secs (chgsB own).length≤82:=by
 have hcl:=(chgs_len t.x.own).2 (hk.own t (findU_mem hf))
 have hlen:=chgsB_len t.x.own
 have hat:=h.at_
 rw [ho] at hcl hlen
 refine ⟨⟨by rw [ho];omega,?_⟩,by unfold secs;omega⟩
 rw [ho,hk.log.len];unfold secs;omega
theorem FrS.com {I:Kind} {G:Good I} {b:Nat} (h:FrS s ids n own rs c k) (hk:G.Ok s b) (hn:n ∈ ids) (hl:own.length≤80) (hc:c≤40) (hch:∀ t,findU s.txs n=some t→I.chk s t.x=false) :
  comE I s n=0∧comS I s n=addS (I.ends s n) own∧(ids=[n]→k < (comN I s n).toNat∧∀ m,FrS (comS I s n) [] m [] (changeR rs own) (c+1) (comN I s n).toNat):=by
 obtain ⟨t,hf,ho⟩:=h.find hn
 obtain ⟨hfit,hs⟩:=h.fits (G.ok hk) hf ho hl hc
 have hE:comE I s n=0:=by simp [comE,hf,hch t hf,hfit]
 have hS:comS I s n=addS (I.ends s n) own:=by simp [comS,hf,hch t hf,hfit,ho]
 obtain ⟨e1,e2,e3,e4⟩:=G.endsE hk n
 have hN:(comN I s n).toNat=c+1:=by
  rw [comN,if_pos hE,h.his,UInt32.toNat_add,UInt32.toNat_ofNat']
  show (c % 4294967296+1) % 4294967296=c+1;omega
 refine ⟨hE,hS,fun hid=>⟨by rw [hN];have:=h.kc;omega,fun m=>?_⟩⟩
 rw [hN]
 have htx:s.txs=[t]:=by
  have h1:=h.ids
  rw [hid] at h1
  have h2:s.txs.length=1:=by have:=congrArg List.length h1;simpa using this
  obtain ⟨u,hu⟩:=List.length_eq_one_iff.1 h2
  rw [hu] at hf ⊢
  have:=findU_mem hf
  rw [List.mem_singleton] at this;rw [this]
 have hem:(comS I s n).txs=[]:=by
  rw [com_txs hk,htx]
  unfold delU
  rw [List.eraseP_cons_of_pos (by simpa using (findU_mid hf).1)]
 refine ⟨by rw [hem];rfl,(by rw [hem];intro t ht;cases ht),?_,?_,?_,Nat.le_refl _⟩
 ·rw [hS,addS_rows,StV.rows,e3];rw [← h.rows];rfl
 ·rw [hS];show ((I.ends s n).H++[own]).length=c+1
  rw [e3,List.length_append,h.his];rfl
 ·rw [hS];show (I.ends s n).at_+secs (chgsB own).length≤82 * (c+1)
  rw [e2];have:=h.at_;omega
end
end Go.SL
namespace Go.SL
open Go
structure SiX where
  loc:Bool
  sp:List SpanM
structure BndV where
  g:UInt32
  tx:UInt32
  sv:SV
  sp:List SpanM
end Go.SL
namespace Go.SL
open Go
theorem Spec.bun2 {P:Program} {g:World} {f:FuncId} {args:List Value} {A B:HP} {T T':(Value→List HP→Prop)→List HP→Prop} (h:Spec P g f args [A,B] T)
    (hT:∀ K R,T' K R→T (fun v N=>∃ N',K v N'∧∀ S,stars N S→stars N' S) R):Spec P g f args [bun [A,B]] T':=fun R K w hw hk=>
  (h R _ w (hw.conv fun _=>stars_bun) (hT K R hk)).mono fun e w' ⟨v,N,h1,⟨N',h2,h3⟩,h4⟩=>⟨v,N',h1,h2,h4.conv h3⟩
theorem Spec.bunF {P:Program} {g:World} {f:FuncId} {args:List Value} {A B:HP} {T T':(Value→List HP→Prop)→List HP→Prop} (h:Spec P g f args [A] T)
    (hT:∀ K R,T' K R→T (fun v N=>∃ N',K v N'∧∀ S,stars N S→stars N' S) (B::R)):Spec P g f args [bun [A,B]] T':=fun R K w hw hk=>
  (h (B::R) _ w (hw.conv fun _=>stars_bun) (hT K R hk)).mono fun e w' ⟨v,N,h1,⟨N',h2,h3⟩,h4⟩=>⟨v,N',h1,h2,h4.conv h3⟩
theorem bun2 {A B:HP} {R:List HP}:∀ S,stars (A::B::R) S→stars (bun [A,B]::R) S:=fun _ h=>bun_stars (L:=[A,B]) h
theorem bun2' {A B C:HP} {R:List HP}:∀ S,stars (A::B::C::R) S→stars (A::bun [B,C]::R) S:=fun _ h=>stars_cons (fun _=>bun2 _) h
end Go.SL
namespace Go.SL
open Go
structure EngF (P:Program) (g:World) (rt:TypeId) where
  T:TypeId
  pc:Nat→Nat→HP
  fA:FuncId
  fR:FuncId
  mA:metB P T "Abort" fA=true
  mR:metB P T "Rows" fR=true
  cA:callable P fA=true
  cR:callable P fR=true
  sA:∀ {p dp:Nat} (n:UInt32),Spec P g fA [.pointer (some ⟨p,0,none⟩),.int .u32 n.toNat] [pc p dp] fun K R=>K (.int .i64 6) (pc p dp::R)
  sR:∀ {p dp:Nat},Spec P g fR [.pointer (some ⟨p,0,none⟩)] [pc p dp] fun K R=>∀ a m c,K (.slice a m c) (Sl rt 2 RowM.c (.slice a m c) []::pc p dp::R)
def pK (m:Nat) (ps:List Nat):List Value:=ps.map (fun p=>Value.pointer (some ⟨p,0,none⟩))++List.replicate (m - ps.length) (.pointer none)
theorem pK_set {m:Nat} {ps:List Nat} {q:Nat} {A B:List Value} (h:ps.length < m):(A++(pK m ps++B)).set (A.length+ps.length) (.pointer (some ⟨q,0,none⟩))=A++(pK m (ps++[q])++B):=by
  unfold pK
  obtain ⟨k,hk⟩:∃ k,m - ps.length=k+1:=⟨m - ps.length - 1,by omega⟩
  rw [List.set_append_right (h:=by omega),Nat.add_sub_cancel_left,hk,List.replicate_succ]
  rw [show m - (ps++[q]).length=k by rw [List.length_append,List.length_singleton];omega]
  rw [List.append_assoc,List.set_append_right (h:=by rw [List.length_map];exact Nat.le_refl _),List.length_map,Nat.sub_self]
  simp
theorem bun_snoc {f:Nat→HP} {ps:List Nat} {q:Nat}:∀ S,stars [f q,bun (ps.map f)] S→bun ((ps++[q]).map f) S:=fun S hS=>by
  show stars ((ps++[q]).map f) S
  rw [List.map_append]
  refine stars_move ?_
  obtain ⟨S1,S2,a,b',c,d,e⟩:=hS
  refine ⟨S1,S2,a,b',c,d,?_⟩
  have:=stars_bun (M:=[]) e
  simpa using this
theorem Tm.a5 {Γ:Env} (x:Operand) {a b c d e:Value} {l:List Value} (_:ev Γ x=some (.agg #[a,b,c,d,e])) (h:Tm Γ l):Tm Γ (a::b::c::d::e::l):=.z a (.z b (.z c (.z d (.z e h))))
theorem own_n {E z n:Nat} {cs:List Value} {a:Option Addr} {m c:Nat} {S:Piece} (h:Own E z (.slice a m c) n cs S):m=n:=by
  rcases h with ⟨rfl,_,b,h⟩ | ⟨b,o,c',l,h,_⟩
  · cases h;rfl
  · cases h;rfl
section
variable {P : Program} {r : Option Nat} {g : World} {Q : Post} {Γ : Env} {L M : List HP}
theorem WL.len {ops rest:List Oper} {E z n m c:Nat} {a:Option Addr} {cs:List Value} (k:m=n→WL P r g ops rest Q Γ L) (hp:Pick L (Own E z (.slice a m c) n cs) M:=by repeat first | exact .z | apply Pick.s):WL P r g ops rest Q Γ L:=fun b w ha hw=>by
  obtain ⟨S1,S2,_,_,_,h1,_⟩:=hp.to hw.heap
  exact k (own_n h1) b w ha hw
theorem PO.len {e:Exit} {E z n m c:Nat} {a:Option Addr} {cs:List Value} (k:m=n→PO g Q e Γ L) (hp:Pick L (Own E z (.slice a m c) n cs) M:=by repeat first | exact .z | apply Pick.s):PO g Q e Γ L:=fun b w ha hw=>by
  obtain ⟨S1,S2,_,_,_,h1,_⟩:=hp.to hw.heap
  exact k (own_n h1) b w ha hw
end
end Go.SL
namespace Go.SL
open Go
def Ge (A B:HP):Prop:=∀ S,B S→∃ S1,le S1 S∧A S1
theorem Ge.refl (A:HP):Ge A A:=fun S h=>⟨S,le_refl S,h⟩
theorem Ge.trans {A B C:HP} (h:Ge A B) (h':Ge B C):Ge A C:=fun S hS=>by
  obtain ⟨S1,h1,h2⟩:=h' S hS
  obtain ⟨S2,h3,h4⟩:=h S1 h2
  exact ⟨S2,le_trans h3 h1,h4⟩
theorem Ge.one {A:HP} {L:List HP}:Ge A (bun (A::L)):=fun S h=>by
  obtain ⟨S1,S2,_,h1,_,h2,_⟩:=h
  exact ⟨S1,h1,h2⟩
theorem Ge.two {A B:HP} {L:List HP}:Ge B (bun (A::B::L)):=fun S h=>by
  obtain ⟨S1,S2,_,_,h1,_,S3,S4,_,h2,_,h3,_⟩:=h
  exact ⟨S3,le_trans h2 h1,h3⟩
theorem RdS.le {S T:Piece} {z n:Nat} {u:Value} {cs:List Value} (h:RdS S z u n cs) (hl:SL.le S T):RdS T z u n cs:=by
  rcases h with h | ⟨b,o,c,l,t,h1,h2,h3,h4⟩
  · exact .inl h
  · exact .inr ⟨b,o,c,l,t,h1,h2,hl _ _ h3,h4⟩
theorem Rd.ge {A B:HP} {z n:Nat} {u:Value} {cs:List Value} (h:Rd A z u n cs) (hg:Ge A B):Rd B z u n cs:=fun S hS=>by
  obtain ⟨S1,h1,h2⟩:=hg S hS
  exact (h S1 h2).le h1
theorem RL.ge {α:Type} {A B:HP} {z:Nat} {enc:α→List Value} {u:Value} {xs:List α} (h:RL A z enc u xs) (hg:Ge A B):RL B z enc u xs:=Rd.ge h hg
end Go.SL
namespace Go.SL
open Go Go.Proofs Go.Sort Go.Shelf
def Tab (P:Program) (A:HP):Prop:=∀ (S:Piece) (w:World),A S→le S (heapOf w)→Lib.TabIs P w "internal/strconv.uint64pow10" .u64 Lib.pow10Tab
end Go.SL
namespace Go.SL
open Go
def eI64 (n:Nat):Value:=.int .i64 n
theorem key_i64 {P:Program} {T:TypeId} (h:P.underlying T=some (.int .i64)):KeyOk P T (.int .i64) eI64:=
  KeyNow.ok ⟨h,fun a b=>by simp [Instr.sameNow,eI64];rw [Bool.eq_iff_iff];simp;omega⟩ (fun k e n w=>by unfold Instr.checkKey;rw [Sem.run_bind,run_underlying h];rfl) (fun a n=>by simp [Instr.sameBits,eI64])
def eA2 (k:UInt32 × UInt32):Value:=.agg #[.int .u32 k.1.toNat,.int .u32 k.2.toNat]
section
variable {P : Program} {T E : TypeId}
theorem run_part0 (h:aggOf P E=some none) (cs:Array Value) (i:Nat) (v:Value) (hv:cs[i]?=some v) (w:World):(part E cs i).run P w=.ok v w:=by
  unfold part
  simp [run_isAgg h,hv]
theorem eq32_run (hE:P.underlying E=some (.int .u32)) (a b:UInt32) (n:Nat) (w:World):(Op.equalIn (n+1) E (.int .u32 a.toNat) (.int .u32 b.toNat)).run P w=.ok (decide (a=b)) w:=by
  unfold Op.equalIn
  rw [Sem.run_bind,run_underlying hE]
  simp only [Result.andThen_ok,if_true,Sem.run_pure]
  congr 1
  rw [Bool.eq_iff_iff]
  simp only [beq_iff_eq,decide_eq_true_eq]
  exact ⟨fun h=>UInt32.toNat_inj.1 (by omega),fun h=>by rw [h]⟩
theorem eqA2_run (hT:P.underlying T=some (.array 2 E)) (hE:P.underlying E=some (.int .u32)) (hs:szOf P E=some 1) (ha:aggOf P E=some none) (a b:UInt32 × UInt32) (w:World):(Op.equal T (eA2 a) (eA2 b)).run P w=.ok (decide (a=b)) w:=by
  unfold Op.equal
  rw [show Op.maxDepth=9998+1+1 from rfl]
  unfold Op.equalIn
  rw [Sem.run_bind,run_underlying hT]
  simp only [Result.andThen_ok,eA2]
  rw [Sem.run_bind,run_sizeOf hs]
  simp only [Result.andThen_ok,Std.Legacy.Range.forIn_eq_forIn_range',Std.Legacy.Range.size,Nat.sub_zero,Nat.add_one_sub_one,Nat.div_one,List.range']
  simp only [List.forIn_cons,List.forIn_nil,Sem.run_bind,run_part0 ha _ _ _ (show (#[Value.int .u32 a.1.toNat,Value.int .u32 a.2.toNat]:Array Value)[0 * 1]?=some (.int .u32 a.1.toNat) from rfl),run_part0 ha _ _ _ (show (#[Value.int .u32 b.1.toNat,Value.int .u32 b.2.toNat]:Array Value)[0 * 1]?=some (.int .u32 b.1.toNat) from rfl),Result.andThen_ok,eq32_run hE]
  obtain ⟨a1,a2⟩:=a
  obtain ⟨b1,b2⟩:=b
  by_cases e:a1=b1
  · simp only [e,decide_true,Bool.not_true,Bool.false_eq_true,if_false,Sem.run_pure,Result.andThen_ok,Nat.zero_add,Sem.run_bind,run_part0 ha _ _ _ (show (#[Value.int .u32 b1.toNat,Value.int .u32 a2.toNat]:Array Value)[1 * 1]?=some (.int .u32 a2.toNat) from rfl),run_part0 ha _ _ _ (show (#[Value.int .u32 b1.toNat,Value.int .u32 b2.toNat]:Array Value)[1 * 1]?=some (.int .u32 b2.toNat) from rfl),eq32_run hE]
    by_cases e2:a2=b2
    · simp [e2]
    · simp [e2]
  · simp [e]
theorem find_ask (hT:P.underlying T=some (.array 2 E)) (hE:P.underlying E=some (.int .u32)) (hs:szOf P E=some 1) (ha:aggOf P E=some none) (k:UInt32 × UInt32) (w:World):∀ (es:List MapEntry) (kvs:List ((UInt32 × UInt32) × Value)) (i:Nat),ents eA2 es kvs →
    (Instr.findAsking T (eA2 k) es i).run P w=.ok ((midx kvs k).bind fun j=>(mget kvs k).map fun v=>(i+j,v)) w
  | [],kvs,i,h=>by
    have:kvs=[]:=by cases kvs with
      | nil=>rfl
      | cons p l=>simp [ents] at h
    subst this;rfl
  | e::es,kvs,i,h=>by
    obtain ⟨p,kvs',rfl,h1,h2,h3⟩:=ents_cons h
    unfold Instr.findAsking
    rw [Sem.run_bind,h1,eqA2_run hT hE hs ha]
    simp only [Result.andThen_ok]
    by_cases e':k=p.1
    · subst e'
      simp [midx,mget,h2,List.findIdx?_cons]
    · have e2:¬ p.1=k:=fun x=>e' x.symm
      simp only [e',decide_false,Bool.false_eq_true,if_false]
      rw [find_ask hT hE hs ha k w es kvs' (i+1) h3]
      simp only [midx,mget,List.findIdx?_cons,List.find?_cons,e2,decide_false]
      simp only [Bool.false_eq_true,if_false]
      cases kvs'.findIdx? (fun p=>decide (p.1=k)) with
      | none=>rfl
      | some j=>simp [Nat.add_assoc,Nat.add_comm 1 j]
theorem key_a2 (hT:P.underlying T=some (.array 2 E)) (hE:P.underlying E=some (.int .u32)) (hs:szOf P E=some 1) (ha:aggOf P E=some none):KeyOk P T (.array 2 E) eA2 where
  plain:=fun k e n w=>by
    have hi:∀ v w,(Instr.checkKey e (n+1) E (.int .u32 v)).run P w=.ok () w:=fun v w=>by
      unfold Instr.checkKey;rw [Sem.run_bind,run_underlying hE];rfl
    unfold Instr.checkKey
    rw [Sem.run_bind,run_underlying hT]
    simp only [Result.andThen_ok,eA2,Std.Legacy.Range.forIn_eq_forIn_range',Std.Legacy.Range.size,Nat.sub_zero,Nat.add_one_sub_one,Nat.div_one,List.range']
    simp only [List.forIn_cons,List.forIn_nil,Sem.run_bind,run_sizeOf hs,Result.andThen_ok,run_part0 ha _ _ _ (show (#[Value.int .u32 k.1.toNat,Value.int .u32 k.2.toNat]:Array Value)[0 * 1]?=some (.int .u32 k.1.toNat) from rfl),run_part0 ha _ _ _ (show (#[Value.int .u32 k.1.toNat,Value.int .u32 k.2.toNat]:Array Value)[(0+1) * 1]?=some (.int .u32 k.2.toNat) from rfl),hi,Sem.run_pure]
  find:=fun k es kvs w h=>by
    unfold Instr.findKey
    rw [Sem.run_bind,run_underlying hT]
    simp only [Result.andThen_ok]
    cases es with
    | nil=>
      have:kvs=[]:=by cases kvs with
        | nil=>rfl
        | cons p l=>simp [ents] at h
      subst this;rfl
    | cons e es=>
      simp only [Instr.findNow,eA2,Instr.sameNow]
      have:=find_ask hT hE hs ha k w (e::es) kvs 0 h
      simpa [eA2] using this
  inj:=fun a b h=>by
    simp only [eA2,Value.agg.injEq] at h
    have h1:=congrArg (fun x=>x[0]?) h
    have h2:=congrArg (fun x=>x[1]?) h
    simp at h1 h2
    exact Prod.ext (UInt32.toNat_inj.1 (by omega)) (UInt32.toNat_inj.1 (by omega))
  bits:=fun a n=>by simp [eA2,Instr.sameBits]
end
section
variable {P : Program} {g : World} {Γ : Env} {L M : List HP} {dst : Option Tmp} {t : TypeId} {pos : String} {aft : Array Edge} {gd : Option (Nat × Bool)}
theorem e_buildA {s e:TypeId} {k sz:Nat} {ps:List (Nat × Operand)} {zs:List Value} {vs:List (Nat × Value)} {cs:List Value} (hz:zeroOf P s=some zs) (hT:P.underlying s=some (.array k e)) (hs:szOf P e=some sz) (_:Tm Γ cs) (hv:evps Γ ps=some vs:=by rfl) (hc:Instr.fill (fun i=>some (i * sz,sz)) zs.toArray vs=some cs.toArray:=by rfl) :
    EO P g ⟨dst,.build s ps.toArray,t,pos,aft,gd⟩ Γ L (.agg cs.toArray):=
  .of (by simp) fun ρ hρ w _=>by
    have h1:(ps.toArray.map fun (i,x)=>(i,ρ x))=vs.toArray:=by
      rw [← evps_map hv (fun x u hx=>hρ x u (by simpa [Op.operands] using hx))];simp
    unfold zeroOf at hz
    cases hi:(P.info? s).bind (·.zero) with
    | none=>rw [hi] at hz;cases hz
    | some zv=>
      rw [hi] at hz
      simp at hz
      have hz':zv.cells=zs.toArray:=by rw [← hz]
      simp only [execOp,Sem.run_bind,Instr.build,run_zeroValue hi,Result.andThen_ok,run_underlying hT,run_sizeOf hs,h1,hz',hc]
      rfl
end
end Go.SL
namespace Go.SL
open Go Go.ChangeShapes Go.Deep
section
variable {H : Type} {enc : TypeId × Value → H} {P : Program} {W : World} {held : Bool}
theorem add_off (a:Addr) (n:Nat) (h:a.spot=none):a.add n=⟨a.block,a.off+n,none⟩:=by
  obtain ⟨b,o,s⟩:=a
  simp at h;subst h
  exact add_none b o n
theorem slice_rlG {α:Type} {t e:TypeId} {fuel z:Nat} {cs:List Value} {x:DataW H × List MemPlace} {c:α→List Value} (G:DataW H→Prop) (hG:∀ el sp,x.1=.slice el sp→∀ d,d ∈ el∨d ∈ sp→G d) (ht:P.underlying t=some (.slice e)) (hz:P.cellsOf e=z) (h0:0 < z) (he:EncOk z c)
    (hel:∀ n cs' y,DataW.trod enc P W 0 (fun _=>true) held n e cs'=some y→G y.1→∃ a:α,cs'=c a) (h:DataW.trod enc P W 0 (fun _=>true) held fuel t cs=some x) :
    ∃ (v:SV) (xs:List α),cs=[v.v]∧RL (Old W) z c v.v xs∧(xs=[]∨∃ el sp,x.1=.slice el sp∧el.length=xs.length):=by
  rcases open_slice ht h with ⟨hcs,_⟩ | ⟨a,len,cap,m,n,D,Pl,hcs,_,hl,hm,hmm,hxx,hi⟩
  · exact ⟨⟨none,0,0⟩,[],hcs,nil_rl,.inl rfl⟩
  simp only [if_true] at hmm
  subst hmm
  rw [hz] at hi
  have hi':∀ i:Fin m,∃ y:α,∀ j,j < z→W.cell? ((a.add (i * z)).add j)=(c y)[j]?:=fun i=>by
    obtain ⟨cs',h1,h2⟩:=hi i i.2
    obtain ⟨y,rfl⟩:=hel _ _ _ h2 (hG _ _ (by rw [hxx]) (D i) (by
      rcases Nat.lt_or_ge i.1 len with h5 | h5
      · exact .inl (List.mem_map.2 ⟨i.1,List.mem_range.2 h5,rfl⟩)
      · have:=i.2
        exact .inr (List.mem_map.2 ⟨i.1 - len,List.mem_range.2 (by omega),by rw [Nat.add_sub_cancel' h5]⟩)))
    exact ⟨y,(World.cells?_some h1).2.2⟩
  by_cases hc0:m=0
  · have:len=0:=by omega
    subst this
    exact ⟨⟨some a,0,m⟩,[],hcs,nil_rl,.inl rfl⟩
  let Y:Fin m→α:=fun i=>Classical.choose (hi' i)
  have hY:∀ i:Fin m,∀ j,j < z→W.cell? ((a.add (i * z)).add j)=(c (Y i))[j]?:=fun i=>Classical.choose_spec (hi' i)
  have hsp:a.spot=none:=by
    have:=hY ⟨0,by omega⟩ 0 h0
    have hlt:0 < (c (Y ⟨0,by omega⟩)).length:=by rw [he.len];exact h0
    rw [List.getElem?_eq_getElem hlt] at this
    have h2:=World.cell?_spot this
    cases hs:a.spot with
    | none=>rfl
    | some s=>simp [Addr.add,hs] at h2
  have hcell:∀ k (hk:k < m * z),W.cell? ⟨a.block,a.off+k,none⟩=(c (Y ⟨k / z,(Nat.div_lt_iff_lt_mul h0).2 hk⟩))[k % z]?:=fun k hk=>by
    have:=hY ⟨k / z,(Nat.div_lt_iff_lt_mul h0).2 hk⟩ (k % z) (Nat.mod_lt _ h0)
    rw [add_off a _ hsp,add_none] at this
    have e:a.off+k / z * z+k % z=a.off+k:=by have:=Nat.div_add_mod k z;rw [Nat.mul_comm] at this;omega
    simp only [e] at this
    exact this
  have hmz:0 < m * z:=Nat.mul_pos (by omega) h0
  obtain ⟨arr,t',fr,hb⟩:∃ arr t' fr,W.heap[a.block]?=some (.cells arr t' fr):=by
    have:=hcell 0 hmz
    rw [List.getElem?_eq_getElem (by rw [he.len];exact Nat.mod_lt _ h0)] at this
    unfold World.cell? at this
    cases hh:W.heap[a.block]? with
    | none=>rw [hh] at this;cases this
    | some o=>rw [hh] at this;cases o <;> first | exact ⟨_,_,_,rfl⟩ | cases this
  have hval:∀ k (hk:k < m * z),arr.toList[a.off+k]?=(c (Y ⟨k / z,(Nat.div_lt_iff_lt_mul h0).2 hk⟩))[k % z]?:=fun k hk=>by
    have:=hcell k hk
    unfold World.cell? at this
    rw [hb] at this
    simpa using this
  have hlen:a.off+m * z≤arr.toList.length:=by
    have:=hval (m * z - 1) (by omega)
    have hlt:(m * z - 1) % z < (c (Y ⟨(m * z - 1) / z,(Nat.div_lt_iff_lt_mul h0).2 (by omega)⟩)).length:=by rw [he.len];exact Nat.mod_lt _ h0
    rw [List.getElem?_eq_getElem hlt] at this
    have:=idx_lt this
    omega
  refine ⟨⟨some a,len,m⟩,List.ofFn fun i:Fin len=>Y ⟨i,by omega⟩,hcs,fun S hS=>?_,.inr ⟨_,_,by rw [hxx],by simp⟩⟩
  refine .inr ⟨a.block,a.off,m,arr.toList,(t',fr),?_,by simpa using hl,?_,hlen,?_⟩
  · obtain ⟨b,o,s⟩:=a
    simp at hsp;subst hsp
    simp
  · exact hS _ _ (by simpa [heapOf] using hb)
  · apply List.ext_getElem?
    intro k
    rw [td_get,List.length_ofFn]
    by_cases hk:k < len * z
    · rw [if_pos hk]
      have hkm:k < m * z:=Nat.lt_of_lt_of_le hk (Nat.mul_le_mul_right _ hl)
      rw [hval k hkm]
      have hd:k / z < len:=(Nat.div_lt_iff_lt_mul h0).2 hk
      have hx:(List.ofFn fun i:Fin len=>Y ⟨i,by omega⟩)[k / z]?=some (Y ⟨k / z,by omega⟩):=by simp [hd]
      have:=flat_at he hx (k % z) (Nat.mod_lt _ h0)
      rw [show k / z * z+k % z=k by have:=Nat.div_add_mod k z;rw [Nat.mul_comm] at this;omega] at this
      exact this
    · rw [if_neg hk]
      apply List.getElem?_eq_none
      rw [flat_len he,List.length_ofFn];omega
theorem slice_rl {α:Type} {t e:TypeId} {fuel z:Nat} {cs:List Value} {x:DataW H × List MemPlace} {c:α→List Value} (ht:P.underlying t=some (.slice e)) (hz:P.cellsOf e=z) (h0:0 < z) (he:EncOk z c)
    (hel:∀ n cs' y,DataW.trod enc P W 0 (fun _=>true) held n e cs'=some y→∃ a:α,cs'=c a) (h:DataW.trod enc P W 0 (fun _=>true) held fuel t cs=some x) :
    ∃ (v:SV) (xs:List α),cs=[v.v]∧RL (Old W) z c v.v xs∧(xs=[]∨∃ el sp,x.1=.slice el sp∧el.length=xs.length):=
  slice_rlG (fun _=>True) (fun _ _ _ _ _=>trivial) ht hz h0 he (fun n cs' y h _=>hel n cs' y h) h
def Light (P:Program) (t:TypeId) (d:DataW H):Prop:=∀ n ∈ d.weights P t,n≤reachBytes
theorem light_all {e:TypeId}:∀ {l:List (DataW H)} {d:DataW H},d ∈ l→∀ n ∈ d.weights P e,n ∈ DataW.weightsAll P e l
  | x::l,d,h,n,hn=>by
    rcases List.mem_cons.1 h with rfl | h
    · simp only [DataW.weightsAll,List.mem_append];exact .inl hn
    · simp only [DataW.weightsAll,List.mem_append];exact .inr (light_all h n hn)
theorem light_slice {t e:TypeId} {el sp:List (DataW H)} (ht:P.underlying t=some (.slice e)) (h:Light P t (.slice el sp)):(el.length+sp.length) * P.bytesOf e≤reachBytes∧∀ d,d ∈ el∨d ∈ sp→Light P e d:=by
  unfold Light at h
  rw [DataW.weights,ht] at h
  refine ⟨h _ (by simp),fun d hd n hn=>h n ?_⟩
  simp only [List.mem_cons,List.mem_append]
  rcases hd with hd | hd
  · exact .inr (.inl (light_all hd n hn))
  · exact .inr (.inr (light_all hd n hn))
theorem light_each {ts:List TypeId} {ds:List (DataW H)} {j:Nat} {t:TypeId} {d:DataW H} (h:∀ n ∈ DataW.weightsEach P ts ds,n≤reachBytes) (ht:ts[j]?=some t) (hd:ds[j]?=some d):Light P t d:=fun n hn=>h n (DataW.weights_mem_each ht hd n hn)
theorem light_agg {t:TypeId} {fs:Array Field} {ds:List (DataW H)} (ht:P.underlying t=some (.struct fs)) (h:Light P t (.agg ds)):∀ n ∈ DataW.weightsEach P (fs.toList.map (·.type)) ds,n≤reachBytes:=by
  unfold Light at h
  rwa [DataW.weights,ht] at h
theorem light_str {t:TypeId} {bytes:List UInt8} (h:Light P t (.lit (.string bytes):DataW H)):bytes.length≤140737488351232:=h _ (by simp [DataW.weights])
theorem light_arr {t e:TypeId} {n:Nat} {ds:List (DataW H)} (ht:P.underlying t=some (.array n e)) (h:Light P t (.agg ds)):∀ d ∈ ds,Light P e d:=fun d hd m hm=>by
  unfold Light at h
  rw [DataW.weights,ht] at h
  exact h m (light_all hd m hm)
theorem rl_val {α:Type} {p:α→Prop} {A:HP} {z:Nat} {enc:α→List Value} {u:Value} {xs:List { x:α // p x }} (h:RL A z (fun x=>enc x.1) u xs):RL A z enc u (xs.map (·.1)):=by
  unfold RL at h ⊢
  rw [List.length_map,List.flatMap_map]
  exact h
theorem okWide_array {n:Nat} {e:TypeId} {r:Go.Reach} {b0:Nat} {t:TypeId} {v:Value} (ht:P.underlying t=some (.array n e)) (h:Value.okWide P W r b0 t v):∃ cs,v=.agg cs∧cs.size=P.cellsOf t:=by
  simp only [Value.okWide,ht] at h
  obtain ⟨cs,h1,h2,_⟩:=h
  exact ⟨cs,h1,h2⟩
theorem slice_rlw {α:Type} {t e:TypeId} {fuel z:Nat} {cs:List Value} {x:DataW H × List MemPlace} {c:α→List Value} (ht:P.underlying t=some (.slice e)) (hz:P.cellsOf e=z) (h0:0 < z) (he:EncOk z c) (hb:(P.bytesOf e == 0)=false)
    (hel:∀ n cs' y,DataW.trod enc P W 0 (fun _=>true) held n e cs'=some y→Light P e y.1→∃ a:α,cs'=c a) (h:DataW.trod enc P W 0 (fun _=>true) held fuel t cs=some x) (hw:Light P t x.1) :
    ∃ (v:SV) (xs:List α),cs=[v.v]∧RL (Old W) z c v.v xs∧xs.length≤140737488351232:=by
  obtain ⟨v,xs,h1,h2,h3⟩:=slice_rlG (Light P e) (fun el sp hx=>(light_slice ht (hx ▸ hw)).2) ht hz h0 he hel h
  refine ⟨v,xs,h1,h2,?_⟩
  rcases h3 with rfl | ⟨el,sp,hx,hl⟩
  · simp
  · have h4:=(light_slice ht (hx ▸ hw)).1
    have hp:1≤P.bytesOf e:=by simp at hb;omega
    have:xs.length * 1≤(el.length+sp.length) * P.bytesOf e:=Nat.mul_le_mul (by omega) hp
    rw [show reachBytes=140737488351232 from rfl] at h4
    omega
theorem below_of_spec1 {P:Program} {w:World} {f:FuncId} {args:List Value} (h:Spec P w f args [Old w] fun K R=>K (.bool true) (Old w::R)):Calls P f args.toArray w fun e w'=>e=.returned (.bool true)∧Go.RowKit.Below w.heap.size w w':=by
  refine (h [] (fun v M=>v=.bool true∧M=[Old w]) w (sat_old w) ⟨rfl,rfl⟩).mono ?_
  rintro e w' ⟨v,M,rfl,⟨rfl,rfl⟩,hs⟩
  exact ⟨rfl,old_below hs⟩
end
end Go.SL
namespace Go.SL
open Go Go.Proofs Go.Sort Go.Shelf
def Tw {α:Type} (B:HP) (z:Nat) (enc:α→List Value) (u:Value) (xs:List α) (mk:α):Prop:=
  ∃ b o c,u=.slice (some ⟨b,o,none⟩) xs.length c∧xs.length+1≤c∧RL B z enc (.slice (some ⟨b,o,none⟩) (xs.length+1) c) (xs++[mk])
theorem Tw.ge {α:Type} {A B:HP} {z:Nat} {enc:α→List Value} {u:Value} {xs:List α} {mk:α} (h:Tw A z enc u xs mk) (hg:Ge A B):Tw B z enc u xs mk:=by
  obtain ⟨b,o,c,h1,h2,h3⟩:=h
  exact ⟨b,o,c,h1,h2,h3.ge hg⟩
theorem Tw.rl {α:Type} {B:HP} {z:Nat} {enc:α→List Value} {u:Value} {xs:List α} {mk:α} (he:EncOk z enc) (h:Tw B z enc u xs mk):RL B z enc u xs:=by
  obtain ⟨b,o,c,rfl,h2,h3⟩:=h
  intro S hS
  rcases h3 S hS with ⟨h4,_⟩ | ⟨b',o',c',l,t,h4,h5,h6,h7,h8⟩
  · simp at h4
  · simp only [Value.slice.injEq,Option.some.injEq,Addr.mk.injEq,and_true] at h4
    obtain ⟨⟨rfl,rfl⟩,_,rfl⟩:=h4
    refine .inr ⟨b,o,c,l,t,rfl,by omega,h6,h7,?_⟩
    have e:((xs++[mk]).flatMap enc).take (xs.length * z)=xs.flatMap enc:=by
      rw [flat_take he,List.take_left' rfl]
    rw [← e,h8,List.take_take,Nat.min_eq_left]
    exact Nat.mul_le_mul_right z (by simp)
theorem own_head {E z n m c:Nat} {cs:List Value} {a:Option Addr} {S:Piece} (h:Own E z (.slice a m c) (n+1) cs S):∃ b o,a=some ⟨b,o,none⟩∧m=n+1∧n+1≤c:=by
  rcases h with ⟨h,_⟩ | ⟨b,o,c',l,h,hn,_⟩
  · cases h
  · cases h;exact ⟨b,o,rfl,rfl,hn⟩
theorem sl_head {α:Type} {E z m c:Nat} {enc:α→List Value} {xs:List α} {mk:α} {a:Option Addr} {S:Piece} (h:Sl E z enc (.slice a m c) (xs++[mk]) S):∃ b o,a=some ⟨b,o,none⟩∧m=xs.length+1∧xs.length+1≤c:=by
  unfold Sl at h
  rw [List.length_append,List.length_singleton] at h
  exact own_head h
theorem Ge.stars {A B:HP} {L:List HP} {S:Piece} (hg:Ge A B) (h:stars (B::L) S):SL.stars (A::L) S:=by
  obtain ⟨S1,S2,hd,l1,l2,hB,hR⟩:=h
  obtain ⟨T,h1,h2⟩:=hg S1 hB
  refine ⟨T,S2,fun i=>?_,le_trans h1 l1,l2,h2,hR⟩
  cases e:T i with
  | none=>exact .inl rfl
  | some x=>
    right
    rcases hd i with h0 | h0
    · rw [h1 i x e] at h0;cases h0
    · exact h0
section
variable {P : Program} {r : Option Nat} {g : World} {Q : Post} {Γ : Env} {L M : List HP}
theorem WL.head {α:Type} {ops rest:List Oper} {E z m c:Nat} {enc:α→List Value} {xs:List α} {mk:α} {a:Option Addr} (k:∀ b o,a=some ⟨b,o,none⟩→m=xs.length+1→xs.length+1≤c→WL P r g ops rest Q Γ L) (hp:Pick L (Sl E z enc (.slice a m c) (xs++[mk])) M:=by repeat first | exact .z | apply Pick.s):WL P r g ops rest Q Γ L:=fun b w ha hw=>by
  obtain ⟨S1,S2,_,_,_,h1,_⟩:=hp.to hw.heap
  obtain ⟨b1,o1,e1,e2,e3⟩:=sl_head h1
  exact k b1 o1 e1 e2 e3 b w ha hw
theorem PO.backP {e:Exit} {A B:HP} (hg:Ge A B) (k:PO g Q e Γ (A::M)) (hp:Pick L B M:=by repeat first | exact .z | apply Pick.s):PO g Q e Γ L:=fun b w ha hw=>k b w ha (hw.conv fun S hS=>hg.stars (hp.to hS))
end
section
variable {P : Program} {r : Option Nat} {g : World} {Γ : Env} {L M : List HP} {A : HP} {dst : Option Tmp} {t : TypeId} {pos : String} {aft : Array Edge} {gd : Option (Nat × Bool)}
theorem e_toA {T E z y n c hi b o:Nat} {x xh:Operand} {k:IntKind} (hs:slOf P T=some (E,z,y)) (h2:n≤c) (h1:hi≤c) (hx:ev Γ x=some (.slice (some ⟨b,o,none⟩) n c):=by rfl) (hl:ev Γ xh=some (.int k hi):=by rfl) :
    EO P g ⟨dst,.slice T x none (some xh) none,t,pos,aft,gd⟩ Γ L (.slice (some ⟨b,o,none⟩) hi c):=by
  have h:=e_slice_at (P:=P) (g:=g) (Γ:=Γ) (L:=L) (dst:=dst) (t:=t) (pos:=pos) (aft:=aft) (gd:=gd) (lo:=0) (hi:=hi) (m:=c) hs hx (At.lit h2) (.inl ⟨rfl,rfl⟩) (.inr ⟨_,_,rfl,hl⟩) (.inl ⟨rfl,rfl⟩) (Nat.zero_le _) h1 (Nat.le_refl _)
  have e:subAt (.slice (some ⟨b,o,none⟩) n c) 0 hi c z=.slice (some ⟨b,o,none⟩) hi c:=by
    unfold subAt
    by_cases h0:c=0
    · simp [h0]
    · simp [h0,add_none]
  rw [e] at h
  exact h
theorem hl_make0 {α:Type} {T E z y c:Nat} {xl xc:Operand} {k k':IntKind} {zs:List Value} {enc:α→List Value} {K:Value→List HP→Prop} (hs:slOf P T=some (E,z,y)) (hz:zeroOf P E=some zs) (hb:c≤68719476736) (hK:∀ a m c',K (.slice a m c') (Sl E z enc (.slice a m c') ([]:List α)::L)) (hzz:zs.length=z:=by rfl) (hy:y≤512:=by decide)
    (hl:ev Γ xl=some (.int k (0:Nat)):=by rfl) (hc:ev Γ xc=some (.int k' c):=by rfl):HO P r g ⟨dst,.makeSlice T xl xc,t,pos,aft,gd⟩ Γ L K:=
  h_make hs hz hzz hl hc (Nat.zero_le _) hb hy hK
theorem e_ixA {x i:Operand} {T E len j:Nat} {cs:List Value} {v:Value} {k:IntKind} (hT:P.underlying T=some (.array len E)) (hE:aggOf P E=some (some 1)) (hz:szOf P E=some 1) (hj:j < len) (hv:cs[j]?=some v) (hx:ev Γ x=some (.agg cs.toArray):=by rfl) (hi:ev Γ i=some (.int k j):=by rfl):EO P g ⟨dst,.index T x i,t,pos,aft,gd⟩ Γ L (.agg #[v]):=
  .of (by simp) fun ρ hρ w _=>by
    have h1:cs.toArray.extract j (j+1)=#[v]:=by
      apply Array.ext'
      have hl:=idx_lt hv
      rw [List.getElem?_eq_getElem hl] at hv
      cases hv
      simp only [List.extract_toArray,List.extract_eq_take_drop]
      rw [show j+1 - j=1 by omega,List.drop_eq_getElem_cons hl]
      rfl
    simp only [execOp,hρ x _ (by simp [Op.operands]) hx,hρ i _ (by simp [Op.operands]) hi,Instr.index,asIntOf,Sem.run_bind,Sem.run_pure,Result.andThen_ok,run_underlying hT]
    rw [if_pos ⟨Int.natCast_nonneg j,by omega⟩]
    simp only [Sem.run_bind,run_sizeOf hz,Result.andThen_ok,part,run_isAgg hE,Option.isSome_some,if_true,Int.toNat_natCast,Nat.mul_one,h1,Sem.run_pure]
theorem e_roweq {T T2 s u:TypeId} {b0 b1:Nat} {x y:Operand} {a b:RowM} (hT:P.underlying T=some (.struct #[⟨ "Key",s,0,false, "", "",b0⟩,⟨ "Value",u,1,false, "", "",b1⟩])) (hs:P.underlying s=some .string) (hu:P.underlying u=some (.int .u32))
    (hs1:aggOf P s=some none) (hu1:aggOf P u=some none) (hp:P.stoodInHeld T=false) (hm:P.eqGuardType P.depth T=false) (hx:ev Γ x=some a.v) (hy:ev Γ y=some b.v) :
    EO P g ⟨dst,.binOp .eql T x y T2,t,pos,aft,gd⟩ Γ L (.bool (decide (a=b))):=e_bin hx hy fun w=>by
  have hf:P.fieldsOf T=#[⟨ "Key",s,0,false, "", "",b0⟩,⟨ "Value",u,1,false, "", "",b1⟩]:=by unfold Program.fieldsOf;rw [hT]
  have hE:∀ w,(Op.equalIn 10000 T (.agg #[.string a.key,.int .u32 a.val.toNat]) (.agg #[.string b.key,.int .u32 b.val.toNat])).run P w=.ok (decide (a=b)) w:=fun w=>by
    rw [show (10000:Nat)=9999+1 from rfl,run_equalIn_struct w 9999 T _ _ (by rw [hf];exact hT) hp,hf]
    simp only [Op.eqFields,Sem.run_bind]
    rw [if_pos (by decide)]
    simp only [Sem.run_bind]
    rw [run_part1 hs1 _ 0 (.string a.key) rfl]
    simp only [Result.andThen_ok]
    rw [run_part1 hs1 _ 0 (.string b.key) rfl]
    simp only [Result.andThen_ok]
    rw [show (9999:Nat)=9998+1 from rfl,run_equalIn_string w 9998 s a.key b.key hs]
    simp only [Result.andThen_ok]
    cases hk:a.key.toList == b.key.toList with
    | false=>
      simp
      intro e;subst e;simp at hk
    | true=>
      have hk':a.key=b.key:=by
        rw [← beq_toListBytes] at hk
        have:(a.key.data == b.key.data)=true:=hk
        rw [ByteArray.ext_iff];simpa using this
      simp only [Bool.not_true,Bool.false_eq_true,if_false]
      rw [if_pos (by decide)]
      simp only [Sem.run_bind]
      rw [run_part1 hu1 _ 1 (.int .u32 a.val.toNat) rfl]
      simp only [Result.andThen_ok]
      rw [run_part1 hu1 _ 1 (.int .u32 b.val.toNat) rfl]
      simp only [Result.andThen_ok]
      rw [run_equalIn_int w 9998 u .u32 .u32 _ _ hu]
      simp only [Result.andThen_ok,beq32]
      cases hv:a.val == b.val with
      | false=>
        simp
        intro e;subst e;simp at hv
      | true=>
        simp at hv
        simp
        cases a;cases b;simp_all
  show (do eqGuard .eql T x y (.agg #[.string a.key,.int .u32 a.val.toNat]) (.agg #[.string b.key,.int .u32 b.val.toNat]);binOp .eql T (.agg #[.string a.key,.int .u32 a.val.toNat]) (.agg #[.string b.key,.int .u32 b.val.toNat]):Sem Value).run P w=_
  rw [Sem.run_bind,run_eqGuard_agg w .eql T x y _ _ hm]
  simp only [Result.andThen_ok]
  rw [run_eql_struct,hE];rfl
theorem e_opsame {T T2 k s u:TypeId} {b0 b1 b2 b3:Nat} {x y:Operand} {a:OpM} (hT:P.underlying T=some (.struct #[⟨ "Kind",k,0,false, "", "",b0⟩,⟨ "Key",s,1,false, "", "",b1⟩,⟨ "To",s,2,false, "", "",b2⟩,⟨ "Value",u,3,false, "", "",b3⟩])) (hk:P.underlying k=some (.int .u8)) (hs:P.underlying s=some .string) (hu:P.underlying u=some (.int .u32))
    (hk1:aggOf P k=some none) (hs1:aggOf P s=some none) (hu1:aggOf P u=some none) (hp:P.stoodInHeld T=false) (hm:P.eqGuardType P.depth T=false) (hx:ev Γ x=some a.v) (hy:ev Γ y=some a.v) :
    EO P g ⟨dst,.binOp .neq T x y T2,t,pos,aft,gd⟩ Γ L (.bool false):=e_bin hx hy fun w=>by
  have hf:P.fieldsOf T=#[⟨ "Kind",k,0,false, "", "",b0⟩,⟨ "Key",s,1,false, "", "",b1⟩,⟨ "To",s,2,false, "", "",b2⟩,⟨ "Value",u,3,false, "", "",b3⟩]:=by unfold Program.fieldsOf;rw [hT]
  have hE:∀ w,(Op.equalIn 10000 T a.v a.v).run P w=.ok true w:=fun w=>by
    unfold OpM.v
    rw [show (10000:Nat)=9999+1 from rfl,run_equalIn_struct w 9999 T _ _ (by rw [hf];exact hT) hp,hf]
    simp only [Op.eqFields,Sem.run_bind]
    rw [if_pos (by decide)]
    simp only [Sem.run_bind]
    rw [run_part1 hk1 _ 0 (.int .u8 a.kind.toNat) rfl]
    simp only [Result.andThen_ok]
    rw [run_part1 hk1 _ 0 (.int .u8 a.kind.toNat) rfl]
    simp only [Result.andThen_ok]
    rw [show (9999:Nat)=9998+1 from rfl,run_equalIn_int w 9998 k .u8 .u8 _ _ hk]
    simp only [Result.andThen_ok,beq_self_eq_true,Bool.not_true,Bool.false_eq_true,if_false]
    rw [if_pos (by decide)]
    simp only [Sem.run_bind]
    rw [run_part1 hs1 _ 1 (.string a.key) rfl]
    simp only [Result.andThen_ok]
    rw [run_part1 hs1 _ 1 (.string a.key) rfl]
    simp only [Result.andThen_ok]
    rw [run_equalIn_string w 9998 s _ _ hs]
    simp only [Result.andThen_ok,beq_self_eq_true,Bool.not_true,Bool.false_eq_true,if_false]
    rw [if_pos (by decide)]
    simp only [Sem.run_bind]
    rw [run_part1 hs1 _ 2 (.string a.to) rfl]
    simp only [Result.andThen_ok]
    rw [run_part1 hs1 _ 2 (.string a.to) rfl]
    simp only [Result.andThen_ok]
    rw [run_equalIn_string w 9998 s _ _ hs]
    simp only [Result.andThen_ok,beq_self_eq_true,Bool.not_true,Bool.false_eq_true,if_false]
    rw [if_pos (by decide)]
    simp only [Sem.run_bind]
    rw [run_part1 hu1 _ 3 (.int .u32 a.val.toNat) rfl]
    simp only [Result.andThen_ok]
    rw [run_part1 hu1 _ 3 (.int .u32 a.val.toNat) rfl]
    simp only [Result.andThen_ok]
    rw [run_equalIn_int w 9998 u .u32 .u32 _ _ hu]
    simp [Result.andThen_ok]
  show (do eqGuard .neq T x y a.v a.v;binOp .neq T a.v a.v:Sem Value).run P w=_
  unfold OpM.v at hE ⊢
  rw [Sem.run_bind,run_eqGuard_agg w .neq T x y _ _ hm]
  simp only [Result.andThen_ok]
  rw [run_neq_struct,hE];rfl
theorem e_toArr {T E n z b hi:Nat} {x xh:Operand} {k:IntKind} (hs:arrOf P T=some (E,n,z)) (h1:hi≤n) (hx:ev Γ x=some (.pointer (some ⟨b,0,none⟩)):=by rfl) (hl:ev Γ xh=some (.int k hi):=by rfl) :
    EO P g ⟨dst,.slice T x none (some xh) none,t,pos,aft,gd⟩ Γ L (.slice (some ⟨b,0,none⟩) hi n):=by
  have h:=e_slice_arr (P:=P) (g:=g) (Γ:=Γ) (L:=L) (dst:=dst) (t:=t) (pos:=pos) (aft:=aft) (gd:=gd) (lo:=0) (hi:=hi) hs hx (.inl ⟨rfl,rfl⟩) (.inr ⟨_,_,rfl,hl⟩) (Nat.zero_le _) h1
  have e:subAt (.slice (some ⟨b,0,none⟩) n n) 0 hi n z=.slice (some ⟨b,0,none⟩) hi n:=by
    unfold subAt
    by_cases h0:n=0
    · simp [h0]
    · simp [h0,add_none]
  rw [e] at h
  exact h
end
section
variable {P : Program} {ρ : Ren} {g : World}
def dgV (b:UInt8):Value:=.int .u8 (b.toNat:Int)
theorem small_spec (La:Lays.n283 P ρ) (i:Nat) (h:i < 100):Spec P g (ρ.f 283) [.int .i64 i] [] fun K R=>K (.string ⟨(Lib.decDigits i).toArray⟩) R:=by
  intro R K w hw hK
  refine (Any.internal_strconv_small La i h w).mono ?_
  rintro e w' ⟨rfl,rfl⟩
  exact ⟨_,_,rfl,hK,hw⟩
theorem numD_spec (La:LaysM.n284 P ρ) {A:HP} (hT:Tab P A) (u:Nat) (h1:1≤u) (h2:u < 18446744073709551616):Spec P g (ρ.f 284) [.int .u64 u] [A] fun K R=>K (.int .i64 (Lib.nDigits u)) (A::R):=by
  intro R K w hw hK
  obtain ⟨S1,S2,_,l1,_,hA,_⟩:=hw.heap
  refine (Any.internal_strconv_numDigits La u h1 h2 w (hT S1 w hA l1)).mono ?_
  rintro e w' ⟨rfl,rfl⟩
  exact ⟨_,_,rfl,hK,hw⟩
theorem fb10_spec (La:Lays.n285 P ρ) {b T:Nat} (u:Nat) (h1:1≤u) (h2:u < 18446744073709551616):Spec P g (ρ.f 285) [.slice (some ⟨b,0,none⟩) (Lib.nDigits u) 24,.int .u64 u] [cl b T (List.replicate 24 (.int .u8 0))] fun K R=>K (.tuple #[]) (Sl T 1 eB (.slice (some ⟨b,0,none⟩) (Lib.nDigits u) 24) (Lib.decDigits u)::R):=by
  intro R K w hw hK
  have hnd:Lib.nDigits u≤20:=by have:=Lib.numDigits_eq u h1 h2;split at this <;> omega
  obtain ⟨S1,S2,hd,l1,l2,hC,hR⟩:=hw.heap
  have hb:w.heap[b]?=some (.cells (List.toArray (List.replicate 24 (Value.int .u8 0))) T (0,0)):=l1 _ _ hC
  have hH:Holds dgV w b 0 (Array.replicate (Lib.nDigits u) (0:UInt8)):=holds_of dgV hb (by simp;omega) (by
    rw [List.drop_zero,List.take_replicate,Array.toList_replicate,List.map_replicate,Array.size_replicate,Nat.min_eq_left (by omega)];rfl)
  have hf:=Any.internal_strconv_formatBase10 La b 0 24 u (Array.replicate (Lib.nDigits u) 0) w hH (by rw [Array.size_replicate];exact Lib.lt_pow_nDigits u) h2 (by rw [Array.size_replicate];omega)
  rw [Array.size_replicate] at hf
  refine hf.mono ?_
  rintro e w' ⟨rfl,n,v',dk,rfl,hF⟩
  refine ⟨_,_,rfl,hK,?_⟩
  have hs:dk.size=Lib.nDigits u:=hF.size
  have hdk:dk.toList=Lib.decDigits u:=by
    apply List.ext_getElem?
    intro i
    by_cases hi:i < dk.size
    · have hi':i < (Lib.decDigits u).length:=by rw [Lib.decDigits_length];omega
      rw [Array.getElem?_toList,Array.getElem?_eq_getElem hi,List.getElem?_eq_getElem hi',Lib.row_is_numeral hF i hi',getElem!_pos dk i hi]
    · rw [List.getElem?_eq_none (by simpa using hi),List.getElem?_eq_none (by rw [Lib.decDigits_length];omega)]
  have hl:(Lib.decDigits u).length=Lib.nDigits u:=Lib.decDigits_length u
  have e:(putRow dgV w b 0 dk).drewN n=grow (putRow dgV (Sort.ahead w n) b 0 dk) #[]:=by
    simp [grow,putRow,mapBlock,Sort.ahead,World.drewN]
  show Sat g _ ((putRow dgV w b 0 dk).drewN n)
  rw [e]
  unfold Sl
  rw [hl]
  refine sat_row dgV hw hd l1 l2 rfl (by omega) (by decide) hC (by simp) (by rw [hs,Nat.mul_one]) ?_ hR
  rw [hdk]
  induction Lib.decDigits u with
  | nil=>rfl
  | cons x l ih=>simp only [List.map_cons,List.flatMap_cons];rw [ih];rfl
end
end Go.SL
namespace Go.SL.Fc
open Go Go.Proofs Go.SL
theorem eqgRow:Tryz.prog.eqGuardType Tryz.prog.depth 59=false:=by kernel_rfl
theorem k106:callable Tryz.prog 106=true:=by kernel_rfl
theorem stoodRow:Tryz.prog.stoodInHeld 59=false:=by kernel_rfl
end Go.SL.Fc
namespace Go.SL
open Go Go.Proofs Fc
abbrev ResV:=SV × List RowM
def resC (x:ResV):List Value:=[x.1.v]
theorem resE:EncOk 1 resC:=⟨fun _=>rfl,fun _=>rfl⟩
def resR (x:ResV):HP:=Sl 59 2 RowM.c x.1.v x.2
def ResR (l:List ResV):HP:=bun (l.map resR)
theorem ResR_nil {L:List HP} {S:Piece} (h:stars L S):stars (ResR []::L) S:=bun_stars (L:=[]) h
theorem ResR_snoc {l:List ResV} {x:ResV}:∀ S,stars [ResR l,resR x] S→ResR (l++[x]) S:=fun S h=>by
 have:=stars_bun h
 unfold ResR bun
 rwa [List.map_append]
theorem RdS.mono {S T:Piece} {z n:Nat} {u:Value} {cs:List Value} (h:RdS S z u n cs) (hl:SL.le S T):RdS T z u n cs:=by
 rcases h with h | ⟨b,o,c,l,t,h1,h2,h3,h4,h5⟩
 ·exact .inl h
 ·exact .inr ⟨b,o,c,l,t,h1,h2,hl _ _ h3,h4,h5⟩
theorem stars_mem {A:HP} {L:List HP} (h:A ∈ L):∀ S,stars L S→∃ T,le T S∧A T:=by
 induction L with
 | nil=>cases h
 | cons B L ih=>
  rintro S ⟨S1,S2,_,h1,h2,h3,h4⟩
  rcases List.mem_cons.1 h with rfl | h
  ·exact ⟨S1,h1,h3⟩
  ·obtain ⟨T,h5,h6⟩:=ih h S2 h4
   exact ⟨T,le_trans h5 h2,h6⟩
theorem res_rl {l:List ResV} {x:ResV} (h:x ∈ l):RL (ResR l) 2 RowM.c x.1.v x.2:=fun S hS=>by
 obtain ⟨T,h1,h2⟩:=stars_mem (List.mem_map.2 ⟨x,h,rfl⟩:resR x ∈ l.map resR) S hS
 exact RdS.mono (sl_rl T h2) h1
theorem ask_spec {g:World} {p:Nat} {l:List RowM} (k:ByteArray):Spec Tryz.prog g 106 [.pointer (some ⟨p,0,none⟩),.string k] [Mm p l] fun K R=>K (.int .i64 (if keyOk k then 0 else 1)) (Mm p l::R):=by
 refine Spec.intro Tryz.func106 rfl Tryz.ntmps106 rfl fun R K hK=>?_
 refine WP.seq<|WP.reg<|WL.e e_assign<|WL.next<|WP.seq<|WP.block<|WP.seq<|WP.reg<|WL.e e_move ?_
 refine WL.h (h_call (Mthere_spec) k104 ?_)
 refine WL.e e_not<|WL.e e_assign<|WL.next<|WP.cond_f rfl<|WP.seq<|WP.reg<|WL.e e_move ?_
 refine WL.h (h_call (Check_spec _) k108 ?_)
 refine WL.e e_not<|WL.e e_assign<|WL.next ?_
 refine WP.cond rfl (fun h1=>?_) (fun h1=>?_)
 ·replace h1:keyOk k=false:=by simpa using h1
  refine WP.seq<|WP.reg<|WL.e e_assign<|WL.next<|WP.ret<|PO.blockR<|PO.past nofun ?_
  exact PO.finE Tryz.results106 (rv_tmp rv_nil) (by rw [h1];rfl) hK
 ·replace h1:keyOk k=true:=by simpa using h1
  refine WP.skip<|PO.blockN<|PO.next<|WP.seq<|WP.reg<|WL.e e_assign<|WL.next<|WP.ret ?_
  exact PO.finE Tryz.results106 (rv_tmp rv_nil) (by rw [h1];rfl) hK
theorem MPut_spec {g:World} {p:Nat} {l:List RowM} (k:ByteArray) (v:UInt32) (hl:Rising l) (hn:l.length≤68719476000) (hk:keyOk k=true):Spec Tryz.prog g 55 [.pointer (some ⟨p,0,none⟩),.string k,.int .u32 v.toNat] [Mm p l] fun K R=>K (.int .i64 0) (Mm p (setR l k v)::R):=by
 refine Spec.intro Tryz.func55 rfl Tryz.ntmps55 rfl fun R K hK=>?_
 refine WP.seq<|WP.reg<|WL.e e_assign<|WL.next<|WP.seq<|WP.reg<|WL.e e_move<|WL.e e_move ?_
 refine WL.h (h_call (ask_spec k) k106 ?_)
 rw [hk]
 refine WL.e e_assign<|WL.next<|WP.seq<|WP.seq<|WP.reg<|WL.e e_move<|WL.e e_eql<|WL.next<|WP.cond_t rfl<|WP.reg<|WL.e e_move<|WL.e e_move<|WL.e e_move ?_
 refine WL.h (h_call (set_spec k v hl hn) k107 ?_)
 refine WL.next<|WP.seq<|WP.reg<|WL.e e_move<|WL.e e_assign<|WL.next<|WP.ret ?_
 exact PO.fin Tryz.results55 (rv_tmp rv_nil) hK
theorem MDel_spec {g:World} {p:Nat} {l:List RowM} (k:ByteArray) (hl:Rising l) (hn:l.length≤68719476000) (hk:keyOk k=true):Spec Tryz.prog g 112 [.pointer (some ⟨p,0,none⟩),.string k] [Mm p l] fun K R=>∀ e:Int,K (.int .i64 e) (Mm p (dropR l k)::R):=by
 refine Spec.intro Tryz.func112 rfl Tryz.ntmps112 rfl fun R K hK=>?_
 refine WP.seq<|WP.reg<|WL.e e_assign<|WL.next<|WP.seq<|WP.reg<|WL.e e_move<|WL.e e_move ?_
 refine WL.h (h_call (ask_spec k) k106 ?_)
 rw [hk]
 refine WL.e e_assign<|WL.next<|WP.seq<|WP.seq<|WP.reg<|WL.e e_move<|WL.e e_eql<|WL.e e_move ?_
 refine WL.bool 11 rfl (fun hg=>?_) (fun hg=>?_)
 ·skip
  refine WL.e e_move<|WL.e e_move ?_
  refine WL.h (h_call (drop_spec k hl hn) k174 ?_)
  refine WL.e e_not<|WL.e e_pick_t<|WL.next ?_
  refine WP.cond rfl (fun h2=>?_) (fun h2=>?_)
  ·skip
   refine WP.seq<|WP.reg<|WL.e e_assign<|WL.next<|WP.ret<|PO.past nofun ?_
   exact PO.fin Tryz.results112 (rv_tmp rv_nil) (hK 6)
  ·skip
   refine WP.skip<|PO.next<|WP.seq<|WP.reg<|WL.e e_move<|WL.e e_assign<|WL.next<|WP.ret ?_
   exact PO.fin Tryz.results112 (rv_tmp rv_nil) (hK 0)
 ·exact absurd hg (by decide) 
end Go.SL
namespace Go.SL
open Go
theorem Ge.mem {A:HP} {L:List HP} (h:A ∈ L):Ge A (bun L):=fun S hS=>by
  obtain ⟨T,h1,h2⟩:=stars_mem h S hS
  exact ⟨T,h1,h2⟩
def RsL (A:HP) (v:Value) (xs:List (List RowM)):Prop:=∃ ts:List ResV,RL A 1 resC v ts∧(∀ r ∈ ts,RL A 2 RowM.c r.1.v r.2)∧ts.map (·.2)=xs
theorem RsL.ge {A B:HP} {v:Value} {xs:List (List RowM)} (h:RsL A v xs) (hg:Ge A B):RsL B v xs:=by
  obtain ⟨ts,h1,h2,h3⟩:=h
  exact ⟨ts,h1.ge hg,fun r hr=>(h2 r hr).ge hg,h3⟩
abbrev DX:=DeedM × PDeed
def dxC (x:DX):List Value:=x.1.c
theorem dxE:EncOk 5 dxC:=⟨fun _=>rfl,fun _=>rfl⟩
structure DpD (A:HP) (x:DX):Prop where
  g:x.2.g=x.1.g
  site:x.2.site=x.1.site
  order:x.2.order=x.1.order
  ops:RL A 4 OpM.c x.1.ops.v x.2.ops
  res:RsL A x.1.res.v x.2.res
theorem DpD.ge {A B:HP} {x:DX} (h:DpD A x) (hg:Ge A B):DpD B x:=⟨h.g,h.site,h.order,h.ops.ge hg,h.res.ge hg⟩
def DpL (A:HP) (u:Value) (ps:List PDeed):Prop:=∃ xs:List DX,RL A 5 dxC u xs∧(∀ x ∈ xs,DpD A x)∧xs.map (·.2)=ps
theorem DpL.ge {A B:HP} {u:Value} {ps:List PDeed} (h:DpL A u ps) (hg:Ge A B):DpL B u ps:=by
  obtain ⟨xs,h1,h2,h3⟩:=h
  exact ⟨xs,h1.ge hg,fun x hx=>(h2 x hx).ge hg,h3⟩
def wSp:ByteArray:=⟨#[115,112,97,114,101]⟩
def mkR:RowM:=⟨wSp,0⟩
def mkO:OpM:=⟨0,wSp,⟨#[]⟩,0⟩
def mkD:DX:=(⟨0,77,0,⟨none,0,0⟩,⟨none,0,0⟩⟩,⟨0,77,0,[],[]⟩)
def TwRs (A:HP) (v:Value) (xs:List (List RowM)):Prop:=∃ (ts:List ResV) (mk:ResV),Tw A 1 resC v ts mk∧(∀ r ∈ ts,Tw A 2 RowM.c r.1.v r.2 mkR)∧ts.map (·.2)=xs∧RL A 2 RowM.c mk.1.v [mkR]
theorem TwRs.ge {A B:HP} {v:Value} {xs:List (List RowM)} (h:TwRs A v xs) (hg:Ge A B):TwRs B v xs:=by
  obtain ⟨ts,mk,h1,h2,h3,h4⟩:=h
  exact ⟨ts,mk,h1.ge hg,fun r hr=>(h2 r hr).ge hg,h3,h4.ge hg⟩
theorem TwRs.rs {A:HP} {v:Value} {xs:List (List RowM)} (h:TwRs A v xs):RsL A v xs:=by
  obtain ⟨ts,mk,h1,h2,h3,_⟩:=h
  exact ⟨ts,h1.rl resE,fun r hr=>(h2 r hr).rl rowE,h3⟩
structure TwD (A:HP) (x:DX):Prop where
  g:x.2.g=x.1.g
  site:x.2.site=x.1.site
  order:x.2.order=x.1.order
  ops:Tw A 4 OpM.c x.1.ops.v x.2.ops mkO
  res:TwRs A x.1.res.v x.2.res
theorem TwD.ge {A B:HP} {x:DX} (h:TwD A x) (hg:Ge A B):TwD B x:=⟨h.g,h.site,h.order,h.ops.ge hg,h.res.ge hg⟩
def TwDs (A:HP) (u:Value) (ps:List PDeed):Prop:=∃ ys:List DX,Tw A 5 dxC u ys mkD∧(∀ y ∈ ys,TwD A y)∧ys.map (·.2)=ps
theorem TwDs.ge {A B:HP} {u:Value} {ps:List PDeed} (h:TwDs A u ps) (hg:Ge A B):TwDs B u ps:=by
  obtain ⟨ys,h1,h2,h3⟩:=h
  exact ⟨ys,h1.ge hg,fun y hy=>(h2 y hy).ge hg,h3⟩
theorem TwDs.dp {A:HP} {u:Value} {ps:List PDeed} (h:TwDs A u ps):DpL A u ps:=by
  obtain ⟨ys,h1,h2,h3⟩:=h
  exact ⟨ys,h1.rl dxE,fun y hy=>⟨(h2 y hy).g,(h2 y hy).site,(h2 y hy).order,(h2 y hy).ops.rl opE,(h2 y hy).res.rs⟩,h3⟩
theorem Tab.ge {P:Program} {A B:HP} (h:Tab P A) (hg:Ge A B):Tab P B:=fun S w hS hl=>by
  obtain ⟨S1,h1,h2⟩:=hg S hS
  exact h S1 w h2 (le_trans h1 hl)
section
variable {P : Program} {g : World} {Γ : Env} {L M : List HP} {dst : Option Tmp} {t : TypeId} {pos : String} {aft : Array Edge} {gd : Option (Nat × Bool)}
theorem e_seenI {x i:Operand} {T e kt:TypeId} {d:TypeDesc} {order:List Int} {j:Nat} {kvs:List (Nat × Value)} {m:Value} (n:Nat) (hS:SeenI kvs order j) (ht:P.underlying T=some (.map kt e)) (hk:KeyOk P kt d eI64) (hz:(P.info? e).bind (·.zero)=some (.int .i64 0)) (hx:ev Γ x=some m:=by rfl) (hi:ev Γ i=some (eI64 n):=by rfl) (hp:Pick L (Mp eI64 m kvs) M:=by repeat first | exact .z | apply Pick.s) :
    EO P g ⟨dst,.lookup T x i false,t,pos,aft,gd⟩ Γ L (.int .i64 (if (n:Int) ∈ order.take j then 1 else 0)):=by
  have h:=e_lookup (P:=P) (g:=g) (Γ:=Γ) (dst:=dst) (t:=t) (pos:=pos) (aft:=aft) (gd:=gd) (x:=x) (i:=i) (k:=n) ht hk hz hx hi hp
  rw [hS n] at h
  exact h
end
def M3 (A:HP) (vs:List SV) (M:List (List RowM)):Prop:=vs.length=M.length∧∀ (i:Nat) (v:SV) (l:List RowM),vs[i]?=some v→M[i]?=some l→RL A 2 RowM.c v.v l
theorem M3.ge {A B:HP} {vs:List SV} {M:List (List RowM)} (h:M3 A vs M) (hg:Ge A B):M3 B vs M:=⟨h.1,fun i v l h1 h2=>(h.2 i v l h1 h2).ge hg⟩
theorem M3.set {A:HP} {vs:List SV} {M:List (List RowM)} (h:M3 A vs M) (j:Nat) {v:SV} {l:List RowM} (hl:RL A 2 RowM.c v.v l):M3 A (vs.set j v) (M.set j l):=by
  refine ⟨by rw [List.length_set,List.length_set,h.1],fun i w m h1 h2=>?_⟩
  rw [List.getElem?_set] at h1 h2
  by_cases e:j=i
  · subst e
    rw [if_pos rfl] at h1 h2
    split at h1
    · cases h1
      split at h2
      · cases h2;exact hl
      · cases h2
    · cases h1
  · rw [if_neg e] at h1 h2
    exact h.2 i w m h1 h2
theorem M3.init {A:HP}:M3 A [⟨none,0,0⟩,⟨none,0,0⟩,⟨none,0,0⟩] [[],[],[]]:=⟨rfl,fun i v l h1 h2=>by
  have hv:v=⟨none,0,0⟩:=by
    have:=List.mem_of_getElem? h1
    simpa using this
  have hl:l=[]:=by
    have:=List.mem_of_getElem? h2
    simpa using this
  subst hv hl
  exact nil_rl⟩
theorem M3.of {A:HP} {r0 r1 r2:SV} {l0 l1 l2:List RowM} (h0:RL A 2 RowM.c r0.v l0) (h1:RL A 2 RowM.c r1.v l1) (h2:RL A 2 RowM.c r2.v l2):M3 A [r0,r1,r2] [l0,l1,l2]:=⟨rfl,fun i v l hv hl=>by
  match i,hv,hl with
  | 0,hv,hl=>cases hv;cases hl;exact h0
  | 1,hv,hl=>cases hv;cases hl;exact h1
  | 2,hv,hl=>cases hv;cases hl;exact h2
  | n+3,hv,_=>simp at hv⟩
theorem M3.get {A:HP} {vs:List SV} {M:List (List RowM)} (h:M3 A vs M) {i:Nat} {l:List RowM} (hl:M[i]?=some l):∃ v,vs[i]?=some v∧RL A 2 RowM.c v.v l:=by
  have hi:=idx_lt hl
  have hi2:i < vs.length:=by rw [h.1];exact hi
  have hv:vs[i]?=some vs[i]:=List.getElem?_eq_getElem hi2
  exact ⟨_,hv,h.2 i _ l hv hl⟩
def svs (vs:List SV):List Value:=vs.map SV.v
theorem svs_get {vs:List SV} {i:Nat} {v:SV} (h:vs[i]?=some v):(svs vs)[0+i * 1]?=some v.v:=by
  rw [Nat.zero_add,Nat.mul_one,svs,List.getElem?_map,h];rfl
theorem svs_set (vs:List SV) (j:Nat) (v:SV):(svs vs).set (0+j * 1) v.v=svs (vs.set j v):=by
  rw [Nat.zero_add,Nat.mul_one,svs,svs,List.map_set]
theorem svs_len (vs:List SV):(svs vs).length=vs.length:=by simp [svs]
theorem eq_step {α:Type} {M N:List α} {i:Nat} {a b:α} (h:M.take i=N.take i) (ha:M[i]?=some a) (hb:N[i]?=some b) (e:a=b):M.take (i+1)=N.take (i+1):=by
  rw [take_snoc ha,take_snoc hb,h,e]
theorem ne_at {α:Type} {M N:List α} {i:Nat} {a b:α} (ha:M[i]?=some a) (hb:N[i]?=some b) (e:a≠b):M≠N:=fun h=>by
  subst h
  rw [ha] at hb
  cases hb
  exact e rfl
end Go.SL
