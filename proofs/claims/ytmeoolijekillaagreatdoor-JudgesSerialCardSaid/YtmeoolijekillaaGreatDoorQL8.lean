import Derived.Test.YtmeoolijekillaaGreatDoorQL7
set_option linter.unusedSimpArgs false
set_option linter.unusedVariables false
set_option linter.unusedSectionVars false
namespace Go.SL
open Go
section model
variable {κ : Type} [DecidableEq κ]
def midx (kvs:List (κ × Value)) (k:κ):Option Nat:=kvs.findIdx? (fun p=>decide (p.1=k))
def mget (kvs:List (κ × Value)) (k:κ):Option Value:=(kvs.find? (fun p=>decide (p.1=k))).map (·.2)
def mset (kvs:List (κ × Value)) (k:κ) (v:Value):List (κ × Value):=match midx kvs k with
  | some i=>kvs.set i (k,v)
  | none=>kvs++[(k,v)]
def mdel (kvs:List (κ × Value)) (k:κ):List (κ × Value):=match midx kvs k with
  | some i=>kvs.eraseIdx i
  | none=>kvs
end model
def ents {κ:Type} (ek:κ→Value) (es:List MapEntry) (kvs:List (κ × Value)):Prop:=es.map (fun e=>(e.key,e.val))=kvs.map (fun p=>(ek p.1,p.2))
def Mp {κ:Type} (ek:κ→Value) (m:Value) (kvs:List (κ × Value)):HP:=fun S=>
  ∃ b es clock,m=.map (some b)∧S b=some (.map (List.toArray es) clock)∧ents ek es kvs∧(es.map (·.born)).Pairwise (· < ·)∧∀ e ∈ es,e.born < clock
structure KeyOk {κ:Type} [DecidableEq κ] (P:Program) (T:TypeId) (d:TypeDesc) (ek:κ→Value):Prop where
  plain:∀ k e n w,(Instr.checkKey e (n+2) T (ek k)).run P w=.ok () w
  find:∀ (k:κ) (es:List MapEntry) (kvs:List (κ × Value)) w,ents ek es kvs→(Instr.findKey T (ek k) es).run P w=.ok ((midx kvs k).bind fun j=>(mget kvs k).map fun v=>(j,v)) w
  inj:∀ a b,ek a=ek b→a=b
  bits:∀ a n,Instr.sameBits (n+2) (ek a) (ek a)=true
structure KeyNow {κ:Type} [DecidableEq κ] (P:Program) (T:TypeId) (d:TypeDesc) (ek:κ→Value):Prop where
  und:P.underlying T=some d
  same:∀ a b,Instr.sameNow d (ek a) (ek b)=some (decide (a=b))
section
variable {P : Program} {κ : Type} [DecidableEq κ] {T : TypeId} {d : TypeDesc} {ek : κ → Value}
theorem ents_cons {e:MapEntry} {es:List MapEntry} {kvs:List (κ × Value)} (h:ents ek (e::es) kvs):∃ p kvs',kvs=p::kvs'∧e.key=ek p.1∧e.val=p.2∧ents ek es kvs':=by
  cases kvs with
  | nil=>simp [ents] at h
  | cons p kvs=>
    simp only [ents,List.map_cons,List.cons.injEq,Prod.mk.injEq] at h
    exact ⟨p,kvs,rfl,h.1.1,h.1.2,h.2⟩
theorem find_now (hk:KeyNow P T d ek) (k:κ):∀ (es:List MapEntry) (kvs:List (κ × Value)) (i:Nat),ents ek es kvs →
    Instr.findNow d (ek k) es i=some (match midx kvs k with | some j=>(mget kvs k).map fun v=>(i+j,v) | none=>none)
  | [],kvs,i,h=>by
    have:kvs=[]:=by cases kvs with
      | nil=>rfl
      | cons p l=>simp [ents] at h
    subst this;rfl
  | e::es,kvs,i,h=>by
    obtain ⟨p,kvs',rfl,h1,h2,h3⟩:=ents_cons h
    simp only [Instr.findNow,h1,hk.same]
    by_cases e':k=p.1
    · subst e'
      simp [midx,mget,h2,List.findIdx?_cons]
    · have e2:¬ p.1=k:=fun x=>e' x.symm
      simp only [e',decide_false]
      rw [find_now hk k es kvs' (i+1) h3]
      simp only [midx,mget,List.findIdx?_cons,List.find?_cons,e2,decide_false]
      simp only [Bool.false_eq_true,if_false]
      cases kvs'.findIdx? (fun p=>decide (p.1=k)) with
      | none=>rfl
      | some j=>simp [Nat.add_assoc,Nat.add_comm 1 j]
theorem midx_none {kvs:List (κ × Value)} {k:κ}:midx kvs k=none↔mget kvs k=none:=by
  simp [midx,mget,List.findIdx?_eq_none_iff]
theorem midx_some {kvs:List (κ × Value)} {k:κ} {j:Nat} (h:midx kvs k=some j):∃ v,kvs[j]?=some (k,v)∧mget kvs k=some v:=by
  induction kvs generalizing j with
  | nil=>simp [midx] at h
  | cons p kvs ih=>
    simp only [midx,List.findIdx?_cons] at h
    by_cases e:p.1=k
    · simp [e] at h;subst h;subst e
      exact ⟨p.2,rfl,by simp [mget]⟩
    · simp only [e,decide_false,Bool.false_eq_true,if_false,Option.map_eq_some_iff] at h
      obtain ⟨i,hi,rfl⟩:=h
      obtain ⟨v,h1,h2⟩:=ih hi
      exact ⟨v,by simpa using h1,by simpa [mget,List.find?_cons,e] using h2⟩
theorem find_now' (hk:KeyNow P T d ek) (k:κ) {es:List MapEntry} {kvs:List (κ × Value)} (h:ents ek es kvs):Instr.findNow d (ek k) es 0=some ((midx kvs k).bind fun j=>(mget kvs k).map fun v=>(j,v)):=by
  rw [find_now hk k es kvs 0 h]
  cases midx kvs k <;> simp
theorem run_checkKey (hk:KeyOk P T d ek) (e:Bool) (k:κ) (w:World):(Instr.checkKey e 10000 T (ek k)).run P w=.ok () w:=hk.plain k e 9998 w
theorem run_findKey (hk:KeyOk P T d ek) (k:κ) {es:List MapEntry} {kvs:List (κ × Value)} (h:ents ek es kvs) (w:World):(Instr.findKey T (ek k) es).run P w=.ok ((midx kvs k).bind fun j=>(mget kvs k).map fun v=>(j,v)) w:=hk.find k es kvs w h
theorem KeyNow.ok (hk:KeyNow P T d ek) (hp:∀ k e n w,(Instr.checkKey e (n+2) T (ek k)).run P w=.ok () w) (hb:∀ a n,Instr.sameBits (n+2) (ek a) (ek a)=true):KeyOk P T d ek where
  plain:=hp
  find:=fun k es kvs w h=>by
    unfold Instr.findKey
    rw [Sem.run_bind,run_underlying hk.und]
    simp only [Result.andThen_ok,find_now' hk k h];rfl
  inj:=fun a b h=>by
    have h1:=hk.same a a
    have h2:=hk.same a b
    rw [← h,h1] at h2
    simpa using h2
  bits:=hb
end
section
variable {P : Program} {r : Option Nat} {g : World} {Γ : Env} {L M : List HP} {dst : Option Tmp} {t : TypeId} {pos : String} {aft : Array Edge} {gd : Option (Nat × Bool)}
variable {κ : Type} [DecidableEq κ] {kt : TypeId} {d : TypeDesc} {ek : κ → Value} {kvs : List (κ × Value)} {m : Value}
theorem run_getObj {w:World} {b:Nat} {o:Obj} (h:w.heap[b]?=some o) (ho:∀ c t f,o≠.cells c t f):(getObj b).run P w=.ok o w:=by
  cases o <;> simp [getObj,Sem.run,h]
  exact ho _ _ _ rfl
theorem Sat.mp {w:World} (h:Sat g L w) (hp:Pick L (Mp ek m kvs) M):∃ b es clock,m=.map (some b)∧w.heap[b]?=some (.map (List.toArray es) clock)∧ents ek es kvs∧(es.map (·.born)).Pairwise (· < ·)∧∀ e ∈ es,e.born < clock:=by
  obtain ⟨S1,S2,_,h1,_,⟨b,es,clock,e1,e2,e3,e4,e5⟩,_⟩:=hp.to h.heap
  exact ⟨b,es,clock,e1,h1 _ _ e2,e3,e4,e5⟩
theorem ents_len {es:List MapEntry} (h:ents ek es kvs):es.length=kvs.length:=by
  have:=congrArg List.length h
  simpa using this
theorem e_lookup {x i:Operand} {T e:TypeId} {k:κ} {z:Value} (ht:P.underlying T=some (.map kt e)) (hk:KeyOk P kt d ek) (hz:(P.info? e).bind (·.zero)=some z) (hx:ev Γ x=some m:=by rfl) (hi:ev Γ i=some (ek k):=by rfl) (hp:Pick L (Mp ek m kvs) M:=by repeat first | exact .z | apply Pick.s) :
    EO P g ⟨dst,.lookup T x i false,t,pos,aft,gd⟩ Γ L ((mget kvs k).getD z):=
  .of (by simp) fun ρ hρ w hw=>by
    obtain ⟨b,es,clock,rfl,hb,h3,_⟩:=hw.mp hp
    simp only [execOp,hρ x _ (by simp [Op.operands]) hx,hρ i _ (by simp [Op.operands]) hi,Instr.lookup,Sem.run_bind,run_underlying ht,Result.andThen_ok,run_getObj hb (by simp),Sem.run_pure,run_checkKey hk,run_findKey hk k h3]
    cases hm:midx kvs k with
    | none=>simp [midx_none.1 hm,run_zeroValue hz]
    | some j=>obtain ⟨v,_,h2⟩:=midx_some hm;simp [h2]
theorem e_lookup2 {x i:Operand} {T e:TypeId} {k:κ} {z:Value} (ht:P.underlying T=some (.map kt e)) (hk:KeyOk P kt d ek) (hz:(P.info? e).bind (·.zero)=some z) (hx:ev Γ x=some m:=by rfl) (hi:ev Γ i=some (ek k):=by rfl) (hp:Pick L (Mp ek m kvs) M:=by repeat first | exact .z | apply Pick.s) :
    EO P g ⟨dst,.lookup T x i true,t,pos,aft,gd⟩ Γ L (.tuple #[(mget kvs k).getD z,.bool (mget kvs k).isSome]):=
  .of (by simp) fun ρ hρ w hw=>by
    obtain ⟨b,es,clock,rfl,hb,h3,_⟩:=hw.mp hp
    simp only [execOp,hρ x _ (by simp [Op.operands]) hx,hρ i _ (by simp [Op.operands]) hi,Instr.lookup,Sem.run_bind,run_underlying ht,Result.andThen_ok,run_getObj hb (by simp),Sem.run_pure,run_checkKey hk,run_findKey hk k h3]
    cases hm:midx kvs k with
    | none=>simp [midx_none.1 hm,run_zeroValue hz]
    | some j=>obtain ⟨v,_,h2⟩:=midx_some hm;simp [h2]
theorem run_setObj {w:World} {b:Nat} {o o':Obj} (h:w.heap[b]?=some o) (ho:∀ c t f,o≠.cells c t f):(setObj b o').run P w=.ok () { w with heap:=w.heap.setIfInBounds b o' }:=by
  cases o <;> simp [setObj,Sem.run,h]
  exact ho _ _ _ rfl
theorem Sat.setObj {w:World} {b:Nat} {o o':Obj} {B:HP} {S1 S2:Piece} {R:List HP} (h:Sat g L w) (hd:disj S1 S2) (l1:le S1 (heapOf w)) (l2:le S2 (heapOf w)) (hb:S1 b=some o) (hR:stars R S2) (hB:∀ S,S b=some o'→(∀ i,i≠b→S i=S1 i)→B S):Sat g (B::R) { w with heap:=w.heap.setIfInBounds b o' }:=by
  have hlt:b < w.heap.size:=by
    have:=l1 _ _ hb
    rcases Nat.lt_or_ge b w.heap.size with h' | h'
    · exact h'
    · simp [heapOf,Array.getElem?_eq_none h'] at this
  have hS2:S2 b=none:=by
    rcases hd b with h0 | h0
    · rw [hb] at h0;cases h0
    · exact h0
  refine ⟨h.os,h.tape,h.output,by simpa using h.size,fun i=>if i=b then some o' else S1 i,S2,fun i=>?_,fun i x hx=>?_,fun i x hx=>?_,hB _ (by simp) (fun i hi=>by simp [hi]),hR⟩
  · by_cases hi:i=b
    · subst hi;exact .inr hS2
    · simp only [hi,if_false];exact hd i
  · by_cases hi:i=b
    · subst hi;simp at hx;subst hx;simp [heapOf,hlt]
    · simp only [hi,if_false] at hx
      have:=l1 _ _ hx
      simpa [heapOf,Array.getElem?_setIfInBounds_ne (Ne.symm hi)] using this
  · have hi:i≠b:=fun e=>by subst e;rw [hS2] at hx;cases hx
    have:=l2 _ _ hx
    simpa [heapOf,Array.getElem?_setIfInBounds_ne (Ne.symm hi)] using this
theorem ents_set {es:List MapEntry} {j:Nat} {k:κ} {v:Value} (h:ents ek es kvs):ents ek (es.modify j fun e=>{ e with key:=ek k,val:=v }) (kvs.set j (k,v)):=by
  unfold ents at *
  apply List.ext_getElem?
  intro i
  have hi:=congrArg (·[i]?) h
  simp only [List.getElem?_map,List.getElem?_modify,List.getElem?_set] at hi ⊢
  have hl:es.length=kvs.length:=by simpa using congrArg List.length h
  by_cases e:j=i
  · subst e
    simp only [if_true]
    rcases Nat.lt_or_ge j es.length with h' | h'
    · rw [List.getElem?_eq_getElem h',if_pos (by omega)];rfl
    · rw [List.getElem?_eq_none h',if_neg (by omega)];rfl
  · simp only [e,if_false];simpa using hi
theorem h_mapUpdate {x i v:Operand} {T e:TypeId} {k:κ} {u:Value} {N:List HP} {K:Value→List HP→Prop} (ht:P.underlying T=some (.map kt e)) (hk:KeyOk P kt d ek) (hK:K (.tuple #[]) N) (hx:ev Γ x=some m:=by rfl) (hi:ev Γ i=some (ek k):=by rfl) (hv:ev Γ v=some u:=by rfl)
    (hp:Put L (Mp ek m kvs) (Mp ek m (mset kvs k u)) N:=by repeat first | exact .z | apply Put.s):HO P r g ⟨dst,.mapUpdate T x i v,t,pos,aft,gd⟩ Γ L K:=
  HO.run_skip (by simp) fun a w ha hw=>by
    obtain ⟨R,p1,p2⟩:=hp.picks
    obtain ⟨S1,S2,hd,l1,l2,⟨b,es,clock,rfl,hb,h3,h4,h5⟩,hR⟩:=p1.to hw.heap
    have hb':=l1 _ _ hb
    cases hm:midx kvs k with
    | none=>
      refine ⟨N,{ w with heap:=w.heap.setIfInBounds b (.map (es++[({ key:=ek k,val:=u,born:=clock }:MapEntry)]).toArray (clock+1)) },?_,hK,?_⟩
      · simp only [execOp,ev_ok hx ha,ev_ok hi ha,ev_ok hv ha,Instr.mapUpdate,Sem.run_bind,run_underlying ht,Result.andThen_ok,run_getObj hb' (by simp),run_checkKey hk,run_findKey hk k h3,hm,Option.bind_none]
        simp [run_setObj hb']
      · refine (Sat.setObj (B:=Mp ek (.map (some b)) (mset kvs k u)) hw hd l1 l2 hb hR fun S hS _=>⟨b,_,_,rfl,hS,?_,?_,?_⟩).conv fun _=>p2.back
        · simp only [mset,hm];unfold ents at *;simp [h3]
        · rw [List.map_append,List.pairwise_append]
          refine ⟨h4,by simp,fun a ha b hb=>?_⟩
          simp at hb;subst hb
          simp at ha;obtain ⟨e,he,rfl⟩:=ha;exact h5 e he
        · intro e he
          simp at he
          rcases he with he | rfl
          · have:=h5 e he;omega
          · simp
    | some j=>
      obtain ⟨v',hj,hg⟩:=midx_some hm
      have hl:es.length=kvs.length:=ents_len h3
      have hjl:j < es.length:=by
        rcases Nat.lt_or_ge j kvs.length with h' | h'
        · omega
        · rw [List.getElem?_eq_none h'] at hj;cases hj
      have hkey:((es.toArray[j]?).map (·.key)).getD (ek k)=ek k:=by
        have:=congrArg (·[j]?) h3
        simp only [List.getElem?_map,hj,List.getElem?_eq_getElem hjl] at this
        simp at this
        simp [List.getElem?_eq_getElem hjl,this.1]
      refine ⟨N,{ w with heap:=w.heap.setIfInBounds b (.map (es.modify j fun e=>{ e with key:=ek k,val:=u }).toArray clock) },?_,hK,?_⟩
      · simp only [execOp,ev_ok hx ha,ev_ok hi ha,ev_ok hv ha,Instr.mapUpdate,Sem.run_bind,run_underlying ht,Result.andThen_ok,run_getObj hb' (by simp),run_checkKey hk,run_findKey hk k h3,hm,Option.bind_some,hg,Option.map_some,hkey]
        simp only [Instr.keyThatStays,hk.bits k 9998,if_true,Sem.run_pure,Result.andThen_ok,run_setObj hb' (by simp)]
        simp
      · refine (Sat.setObj (B:=Mp ek (.map (some b)) (mset kvs k u)) hw hd l1 l2 hb hR fun S hS _=>⟨b,_,_,rfl,hS,?_,?_,?_⟩).conv fun _=>p2.back
        · simp only [mset,hm];exact ents_set h3
        · have:(es.modify j fun e=>{ e with key:=ek k,val:=u }).map (·.born)=es.map (·.born):=by
            apply List.ext_getElem?
            intro i
            simp only [List.getElem?_map,List.getElem?_modify]
            by_cases e:j=i
            · subst e;cases es[j]? <;> simp
            · simp [e]
          rw [this];exact h4
        · intro e he
          obtain ⟨i,hi',rfl⟩:=List.getElem_of_mem he
          simp only [List.length_modify] at hi'
          have:(es.modify j fun e=>{ e with key:=ek k,val:=u })[i].born=es[i].born:=by
            rw [List.getElem_modify];split <;> rfl
          rw [this];exact h5 _ (List.getElem_mem hi')
theorem map_eraseIdx {α β:Type} (f:α→β):∀ (l:List α) (j:Nat),(l.eraseIdx j).map f=(l.map f).eraseIdx j
  | [],_=>rfl
  | _::_,0=>rfl
  | a::l,j+1=>by simp only [List.eraseIdx_cons_succ,List.map_cons];rw [map_eraseIdx f l j]
theorem h_delete {x i:Operand} {T T2 e:TypeId} {k:κ} {N:List HP} {K:Value→List HP→Prop} (ht:P.underlying T=some (.map kt e)) (hk:KeyOk P kt d ek) (hK:K (.tuple #[]) N) (hx:ev Γ x=some m:=by rfl) (hi:ev Γ i=some (ek k):=by rfl)
    (hp:Put L (Mp ek m kvs) (Mp ek m (mdel kvs k)) N:=by repeat first | exact .z | apply Put.s):HO P r g ⟨dst,.call ⟨.builtin .delete,#[x,i],#[T,T2]⟩,t,pos,aft,gd⟩ Γ L K:=
  HO.run (by simp) fun a w ha hw=>by
    obtain ⟨R,p1,p2⟩:=hp.picks
    obtain ⟨S1,S2,hd,l1,l2,⟨b,es,clock,rfl,hb,h3,h4,h5⟩,hR⟩:=p1.to hw.heap
    have hb':=l1 _ _ hb
    have hmm:(#[x,i]:Array Operand).map a.eval=#[.map (some b),ek k]:=by simp [ev_ok hx ha,ev_ok hi ha]
    cases hm:midx kvs k with
    | none=>
      refine ⟨.tuple #[],N,{ w with heap:=w.heap.setIfInBounds b (.map es.toArray clock) },?_,hK,?_⟩
      · show (do let d ← resolve a.eval ⟨.builtin .delete,#[x,i],#[T,T2]⟩ t;invoke d.target d.args:Sem Next).run P w=_
        simp only [resolve,hmm,Sem.run_bind,Sem.run_pure,Result.andThen_ok,invoke,builtin,Builtin.delete_,List.getElem?_toArray,List.getElem?_cons_zero,List.getElem?_cons_succ,run_underlying ht,run_getObj hb' (by simp),run_checkKey hk,run_findKey hk k h3,hm,Option.bind_none,run_setObj hb' (by simp)]
      · refine (Sat.setObj (B:=Mp ek (.map (some b)) (mdel kvs k)) hw hd l1 l2 hb hR fun S hS _=>⟨b,es,clock,rfl,hS,?_,h4,h5⟩).conv fun _=>p2.back
        simp only [mdel,hm];exact h3
    | some j=>
      obtain ⟨v',hj,hg⟩:=midx_some hm
      have hl:es.length=kvs.length:=ents_len h3
      have hjl:j < es.length:=by
        rcases Nat.lt_or_ge j kvs.length with h' | h'
        · omega
        · rw [List.getElem?_eq_none h'] at hj;cases hj
      have harr:es.toArray.eraseIdxIfInBounds j=(es.eraseIdx j).toArray:=by
        unfold Array.eraseIdxIfInBounds
        simp [hjl]
      refine ⟨.tuple #[],N,{ w with heap:=w.heap.setIfInBounds b (.map (es.eraseIdx j).toArray clock) },?_,hK,?_⟩
      · show (do let d ← resolve a.eval ⟨.builtin .delete,#[x,i],#[T,T2]⟩ t;invoke d.target d.args:Sem Next).run P w=_
        simp only [resolve,hmm,Sem.run_bind,Sem.run_pure,Result.andThen_ok,invoke,builtin,Builtin.delete_,List.getElem?_toArray,List.getElem?_cons_zero,List.getElem?_cons_succ,run_underlying ht,run_getObj hb' (by simp),run_checkKey hk,run_findKey hk k h3,hm,Option.bind_some,hg,Option.map_some,run_setObj hb' (by simp),harr]
      · refine (Sat.setObj (B:=Mp ek (.map (some b)) (mdel kvs k)) hw hd l1 l2 hb hR fun S hS _=>⟨b,es.eraseIdx j,clock,rfl,hS,?_,?_,?_⟩).conv fun _=>p2.back
        · simp only [mdel,hm];unfold ents at *;rw [map_eraseIdx,map_eraseIdx,h3]
        · rw [map_eraseIdx];exact h4.sublist (List.eraseIdx_sublist _ _)
        · exact fun e he=>h5 e ((List.eraseIdx_sublist _ _).mem he)
def eU32 (n:UInt32):Value:=.int .u32 n.toNat
theorem key_u32 {T:TypeId} (h:P.underlying T=some (.int .u32)):KeyOk P T (.int .u32) eU32:=
  KeyNow.ok ⟨h,fun a b=>by simp [Instr.sameNow,eU32];rw [Bool.eq_iff_iff];simp [← UInt32.toNat_inj];omega⟩ (fun k e n w=>by unfold Instr.checkKey;rw [Sem.run_bind,run_underlying h];rfl) (fun a n=>by simp [Instr.sameBits,eU32])
def eStr (s:ByteArray):Value:=.string s
theorem ba_beq (a b:ByteArray):(a == b)=decide (a=b):=by
  show (a.data == b.data)=_
  rw [Bool.eq_iff_iff];simp [ByteArray.ext_iff]
theorem key_str {T:TypeId} (h:P.underlying T=some .string):KeyOk P T .string eStr:=
  KeyNow.ok ⟨h,fun a b=>by simp [Instr.sameNow,eStr,ba_beq]⟩ (fun k e n w=>by unfold Instr.checkKey;rw [Sem.run_bind,run_underlying h];rfl) (fun a n=>by simp [Instr.sameBits,eStr,ba_beq])
end
end Go.SL
namespace Go.SL
open Go
def MpIt {κ:Type} (ek:κ→Value) (m it:Value) (kvs left:List (κ × Value)) (cur:Option (κ × Value)):HP:=fun S=>
  ∃ b i es clock seen,m=.map (some b)∧it=.pointer (some ⟨i,0,none⟩)∧b≠i∧S b=some (.map (List.toArray es) clock)∧S i=some (.mapIter (some b) clock seen clock) ∧
    ents ek es kvs∧(es.map (·.born)).Pairwise (· < ·)∧(∀ e ∈ es,e.born < clock)∧ents ek (es.filter fun e=>!seen.contains e.born) left ∧
    (∀ p,cur=some p→∃ e ∈ es,seen.back?=some e.born∧e.key=ek p.1∧e.val=p.2)
section
variable {P : Program} {r : Option Nat} {g : World} {Γ : Env} {L M : List HP} {dst : Option Tmp} {t : TypeId} {pos : String} {aft : Array Edge} {gd : Option (Nat × Bool)}
variable {κ : Type} [DecidableEq κ] {kt : TypeId} {ek : κ → Value} {kvs : List (κ × Value)} {m : Value}
theorem h_range {x:Operand} {T e:TypeId} {R:List HP} {K:Value→List HP→Prop} (ht:P.underlying T=some (.map kt e)) (hK:∀ it,K it (MpIt ek m it kvs kvs none::R)) (hx:ev Γ x=some m:=by rfl) (hp:Pick L (Mp ek m kvs) R:=by repeat first | exact .z | apply Pick.s):HO P r g ⟨dst,.range T x,t,pos,aft,gd⟩ Γ L K:=
  HO.run (by simp) fun a w ha hw=>by
    obtain ⟨S1,S2,hd,l1,l2,⟨b,es,clock,rfl,hb,h3,h4,h5⟩,hR⟩:=hp.to hw.heap
    have hb':=l1 _ _ hb
    have hbl:b < w.heap.size:=by
      rcases Nat.lt_or_ge b w.heap.size with h' | h'
      · exact h'
      · simp [heapOf,Array.getElem?_eq_none h'] at hb'
    have h:=hw.push (.mapIter (some b) clock #[] clock)
    refine ⟨.pointer (some ⟨w.heap.size,0,none⟩),_,w.alloc (.mapIter (some b) clock #[] clock),?_,hK _,h.os,h.tape,h.output,h.size,?_⟩
    · simp only [execOp,ev_ok hx ha,Instr.range,Sem.run_bind,run_underlying ht,Result.andThen_ok,run_getObj hb' (by simp),Sem.run_pure]
      simp
    · refine ⟨fun i=>if i=w.heap.size then some (.mapIter (some b) clock #[] clock) else S1 i,S2,fun i=>?_,fun i x hx=>?_,le_trans l2 (heapOf_push_le w _),⟨b,w.heap.size,es,clock,#[],rfl,rfl,by omega,by simp [show b≠w.heap.size by omega,hb],by simp,h3,h4,h5,?_,by simp⟩,hR⟩
      · by_cases hi:i=w.heap.size
        · right;cases hs:S2 i with
          | none=>rfl
          | some y=>have:=l2 _ _ hs;subst hi;simp [heapOf] at this
        · simp only [hi,if_false];exact hd i
      · by_cases hi:i=w.heap.size
        · subst hi;simp at hx;subst hx;show (w.heap.push _)[w.heap.size]?=_;simp
        · simp only [hi,if_false] at hx
          exact heapOf_push_le w _ _ _ (l1 _ _ hx)
      · have:(es.filter fun e=>!(#[]:Array Nat).contains e.born)=es:=by
          rw [List.filter_eq_self];simp
        rw [this];exact h3
theorem ents_split {es:List MapEntry} {left:List (κ × Value)} (h:ents ek es left) {j:Nat} (hj:j < es.length):∃ a p b,left=a++p::b∧a.length=j∧es[j].key=ek p.1∧es[j].val=p.2:=by
  have hl:es.length=left.length:=ents_len h
  have hj':j < left.length:=by omega
  refine ⟨left.take j,left[j],left.drop (j+1),?_,by simp;omega,?_⟩
  · rw [List.getElem_cons_drop,List.take_append_drop]
  · have:=congrArg (·[j]?) h
    simp only [List.getElem?_map,List.getElem?_eq_getElem hj,List.getElem?_eq_getElem hj',Option.map_some,Option.some.injEq,Prod.mk.injEq] at this
    exact this
theorem Sat.setObj2 {w:World} {b:Nat} {o o':Obj} {B:HP} {S1 S2:Piece} {R:List HP} (h:Sat g L w) (hd:disj S1 S2) (l1:le S1 (heapOf w)) (l2:le S2 (heapOf w)) (hb:S1 b=some o) (hR:stars R S2) (n:Nat) (hB:∀ S,S b=some o'→(∀ i,i≠b→S i=S1 i)→B S):Sat g (B::R) { w with heap:=w.heap.setIfInBounds b o',drawn:=n }:=
  (Sat.setObj h hd l1 l2 hb hR hB).draw n
theorem filter_erase {es:List MapEntry} (hp:(es.map (·.born)).Pairwise (· < ·)) (seen:Array Nat) {j:Nat} (hj:j < (es.filter fun e=>!seen.contains e.born).length) :
    (es.filter fun e=>!(seen.push (es.filter fun e=>!seen.contains e.born)[j].born).contains e.born)=(es.filter fun e=>!seen.contains e.born).eraseIdx j:=by
  generalize hf:(es.filter fun e=>!seen.contains e.born)=fs at hj
  have hps:(fs.map (·.born)).Pairwise (· < ·):=by
    rw [← hf];exact hp.sublist ((List.filter_sublist).map _)
  have e1:∀ c,(es.filter fun e=>!(seen.push c).contains e.born)=fs.filter fun e=>e.born != c:=by
    intro c
    rw [← hf,List.filter_filter]
    apply List.filter_congr
    intro x _
    by_cases h1:x.born ∈ seen <;> by_cases h2:x.born=c <;> simp [h1,h2]
  rw [e1]
  clear e1 hf hp es
  induction fs generalizing j with
  | nil=>simp at hj
  | cons f fs ih=>
    rw [List.map_cons,List.pairwise_cons] at hps
    cases j with
    | zero=>
      simp only [List.getElem_cons_zero,List.eraseIdx_cons_zero]
      rw [List.filter_cons_of_neg (by simp),List.filter_eq_self]
      intro x hx
      have:=hps.1 x.born (List.mem_map.2 ⟨x,hx,rfl⟩)
      simp;omega
    | succ j=>
      simp only [List.length_cons] at hj
      simp only [List.getElem_cons_succ,List.eraseIdx_cons_succ]
      have:=hps.1 (fs[j]'(by omega)).born (List.mem_map.2 ⟨_,List.getElem_mem _,rfl⟩)
      rw [List.filter_cons_of_pos (by simp;omega),ih (by omega) hps.2]
theorem h_next {x:Operand} {it:Value} {left:List (κ × Value)} {cur:Option (κ × Value)} {R:List HP} {K:Value→List HP→Prop} (h0:left=[]→K (.tuple #[.bool false]) (Mp ek m kvs::R)) (h1:∀ a p b,left=a++p::b→K (.tuple #[.bool true,ek p.1,p.2]) (MpIt ek m it kvs (a++b) (some p)::R))
    (hx:ev Γ x=some it:=by rfl) (hp:Pick L (MpIt ek m it kvs left cur) R:=by repeat first | exact .z | apply Pick.s):HO P r g ⟨dst,.next x false,t,pos,aft,gd⟩ Γ L K:=
  HO.run (by simp) fun a w ha hw=>by
    obtain ⟨S1,S2,hd,l1,l2,⟨b,i,es,clock,seen,rfl,rfl,hbi,hb,hi,h3,h4,h5,h6,h7⟩,hR⟩:=hp.to hw.heap
    have hb':=l1 _ _ hb
    have hi':=l1 _ _ hi
    generalize hf:(es.filter fun e=>!seen.contains e.born)=fs at h6
    have hall:(!seen.isEmpty && !es.toArray.isEmpty && es.toArray.all (·.born≥clock))=false:=by
      cases es with
      | nil=>simp
      | cons e es=>
        have:=h5 e (by simp)
        have h':((e::es).toArray.all fun x=>decide (x.born≥clock))=false:=by
          rw [Bool.eq_false_iff];intro h;simp at h;omega
        simp only [h',Bool.and_false]
    have hold:(fs.toArray.filter fun e=>decide (e.born < clock))=fs.toArray:=by
      have:(fs.filter fun e=>decide (e.born < clock))=fs:=by
        rw [List.filter_eq_self];intro e he
        have:e ∈ es:=by rw [← hf] at he;exact (List.mem_filter.1 he).1
        simpa using h5 e this
      simp [this]
    have hnew:(fs.toArray.filter fun e=>decide (e.born≥clock))=#[]:=by
      have:(fs.filter fun e=>decide (e.born≥clock))=[]:=by
        rw [List.filter_eq_nil_iff];intro e he
        have:e ∈ es:=by rw [← hf] at he;exact (List.mem_filter.1 he).1
        have:=h5 e this
        simp;omega
      simp [this]
    have hleft:(es.toArray.filter fun e=>!seen.contains e.born)=fs.toArray:=by rw [← hf];simp
    cases hfs:fs with
    | nil=>
      subst hfs
      have hl:left=[]:=by
        have:=ents_len h6;cases left with
        | nil=>rfl
        | cons x l=>simp at this
      refine ⟨_,_,w,?_,h0 hl,hw.os,hw.tape,hw.output,hw.size,S1,S2,hd,l1,l2,⟨b,es,clock,rfl,hb,h3,h4,h5⟩,hR⟩
      simp only [execOp,ev_ok hx ha,Instr.next,Sem.run_bind,run_getObj hi' (by simp),Result.andThen_ok,run_getObj hb' (by simp),hall,hleft,hold,hnew]
      simp [Question.forced]
    | cons f fs'=>
      have hcand:((if fs.toArray.isEmpty then #[none] else #[])++(fs.toArray++#[]).map some:Array (Option MapEntry))=(fs.map some).toArray:=by
        rw [hfs];simp
      have hpick:∃ j w1,j < fs.length∧(choose (.mapNext (fs.map some).toArray.size)).run P w=.ok j w1∧∃ n,w1={ w with drawn:=n }:=by
        by_cases h1:(Question.mapNext (fs.map some).toArray.size).forced=true
        · exact ⟨0,w,by rw [hfs];simp,by simp only [run_choose,h1,if_true],w.drawn,rfl⟩
        · refine ⟨(Question.mapNext (fs.map some).toArray.size).cut (w.tape w.drawn (.mapNext (fs.map some).toArray.size)),{ w with drawn:=w.drawn+1 },?_,by simp only [run_choose,h1,Bool.false_eq_true,if_false],_,rfl⟩
          simp only [Question.cut]
          have:(fs.map some).toArray.size=fs.length:=by simp
          rw [this];exact Nat.mod_lt _ (by rw [hfs];simp)
      obtain ⟨j,w1,hj,hch,n,rfl⟩:=hpick
      obtain ⟨a',p,b',hl,hal,hk1,hk2⟩:=ents_split h6 hj
      refine ⟨_,_,{ w with heap:=w.heap.setIfInBounds i (.mapIter (some b) clock (seen.push fs[j].born) clock),drawn:=n },?_,h1 a' p b' hl,?_⟩
      · simp only [execOp,ev_ok hx ha,Instr.next,Sem.run_bind,run_getObj hi' (by simp),Result.andThen_ok,run_getObj hb' (by simp),hall,hleft,hold,hnew,hcand]
        have hg:(fs.map some).toArray[j]?=some (some fs[j]):=by simp [hj]
        have hso:(setObj i (.mapIter (some b) clock (seen.push fs[j].born) clock)).run P { w with drawn:=n }=.ok () { w with heap:=w.heap.setIfInBounds i (.mapIter (some b) clock (seen.push fs[j].born) clock),drawn:=n }:=
          run_setObj (w:={ w with drawn:=n }) (o:=.mapIter (some b) clock seen clock) hi' (by simp)
        simp only [Bool.false_eq_true,if_false,Sem.run_bind,Sem.run_pure]
        rw [hch]
        simp only [Result.andThen_ok,hg,Sem.run_bind,hso,Sem.run_pure,hk1,hk2]
      · refine Sat.setObj2 hw hd l1 l2 hi hR n fun S hS hS'=>⟨b,i,es,clock,seen.push fs[j].born,rfl,rfl,hbi,by rw [hS' b hbi];exact hb,hS,h3,h4,h5,?_,?_⟩
        · have hj':j < (es.filter fun e=>!seen.contains e.born).length:=by rw [hf];exact hj
          have:=filter_erase h4 seen hj'
          simp only [hf] at this
          rw [this]
          unfold ents at *
          rw [map_eraseIdx,h6,← map_eraseIdx,hl]
          congr 1
          rw [← hal,List.eraseIdx_append_of_length_le (Nat.le_refl _)];simp
        · rintro p' ⟨⟩
          refine ⟨fs[j],?_,by simp,hk1,hk2⟩
          have hmem:∀ e ∈ fs,e ∈ es:=fun e he=>by rw [← hf] at he;exact (List.mem_filter.1 he).1
          exact hmem _ (List.getElem_mem _)
theorem e_entry {x:Operand} {it:Value} {left:List (κ × Value)} {p:κ × Value} (hx:ev Γ x=some it:=by rfl) (hp:Pick L (MpIt ek m it kvs left (some p)) M:=by repeat first | exact .z | apply Pick.s):EO P g ⟨dst,.entry x,t,pos,aft,gd⟩ Γ L (.tuple #[ek p.1,p.2]):=
  .of (by simp) fun ρ hρ w hw=>by
    obtain ⟨S1,S2,hd,l1,l2,⟨b,i,es,clock,seen,rfl,rfl,hbi,hb,hi,h3,h4,h5,h6,h7⟩,hR⟩:=hp.to hw.heap
    have hb':=l1 _ _ hb
    have hi':=l1 _ _ hi
    obtain ⟨e,he,hs,hk,hv⟩:=h7 p rfl
    have hfind:es.toArray.find? (fun x=>x.born == e.born)=some e:=by
      rw [List.find?_toArray]
      clear h3 h6 h7 hb hb'
      induction es with
      | nil=>cases he
      | cons f fs ih=>
        rw [List.map_cons,List.pairwise_cons] at h4
        by_cases hfe:f.born=e.born
        · have:f=e:=by
            rcases List.mem_cons.1 he with rfl | hm
            · rfl
            · have:=h4.1 e.born (List.mem_map.2 ⟨e,hm,rfl⟩);omega
          simp [this]
        · rw [List.find?_cons_of_neg (by simpa using hfe)]
          refine ih h4.2 (fun x hx=>h5 x (by simp [hx])) ?_
          rcases List.mem_cons.1 he with rfl | hm
          · exact absurd rfl hfe
          · exact hm
    simp only [execOp,hρ x _ (by simp [Op.operands]) hx,Instr.entry,Sem.run_bind,run_getObj hi' (by simp),Result.andThen_ok,hs,run_getObj hb' (by simp),hfind,hk,hv]
    simp
end
end Go.SL
namespace Go.SL
open Go
def deps (o:Oper):List Nat:=(o.after.toList.filter (Region.binds .any)).map (·.on)
def dstOf (ops:List Oper) (i:Nat):Option Tmp:=(ops[i]?).bind (·.dst)
def slotsOf (o:Oper):List Nat:=o.op.operands.toList.filterMap fun | .tmp t=>some t | _=>none
def okAt (ops:List Oper) (i:Nat) (o:Oper):Bool:=
 (deps o).all (· < i) && (match o.guard with | some (j,_)=>(deps o).contains j | none=>true) && (match o.dst with | some d=>!(slotsOf o).contains d | none=>true) &&
 (List.range ops.length).all fun j=>Nat.beq i j || match dstOf ops j with
  | some d=>(!(slotsOf o).contains d || (deps o).contains j || (match ops[j]? with | some oj=>(deps oj).contains i | none=>false)) && (match o.dst with | some e=>!Nat.beq e d | none=>true)
  | none=>true
def regOk (ops:List Oper):Bool:=(List.range ops.length).all fun i=>match ops[i]? with | some o=>okAt ops i o && (match o.op with | .defer _=>false | _=>true) | none=>true
def noWar (ops:List Oper) (i:Nat):Bool:=(List.range ops.length).all fun j=>Nat.beq i j || match ops[j]?,dstOf ops i with
 | some o,some d=>!(slotsOf o).contains d || (deps o).contains i
 | _,_=>true
def nextOf (ops:List Oper) (vd:List Nat):List Nat:=(List.range ops.length).filter fun i=>!vd.contains i && match ops[i]? with | some o=>(deps o).all vd.contains | none=>false
def dropS (ds:List Nat) (l:List (Nat × Value)):List (Nat × Value):=l.filter fun p=>!ds.contains p.1
def ancs (ops:List Oper) (i:Nat):List Nat:=match ops[i]? with
 | some o=>(List.range i).reverse.foldl (fun acc j=>if acc.contains j then (match ops[j]? with | some p=>deps p++acc | none=>acc) else acc) (deps o)
 | none=>[]
def lateOf (ops:List Oper) (i:Nat) (pend:List (Nat × Value)):List (Nat × Value):=pend.filter fun p=>!(ancs ops i).contains p.1
def dstsOf (ops:List Oper) (pend:List (Nat × Value)):List Nat:=pend.filterMap fun p=>dstOf ops p.1
def EV (P:Program) (g:World) (ops:List Oper) (o:Oper) (Γ:Env) (L:List HP) (v:Value):Prop:=
 (wants ops Γ.l o.guard=some true∧EO P g o Γ L v)∨(wants ops Γ.l o.guard=some false∧v=.tuple #[])
section
variable (P : Program) (r : Option Nat) (g : World) (ops : List Oper) (Q : Post) (n : Nat) (D : List Deferred)
def RW:Nat→List Nat→List (Nat × Value)→List (Nat × Value)→List HP→Prop
 | 0,vd,_,l,L=>nextOf ops vd=[]∧(∀ i,i < ops.length→i ∈ vd)∧PO g Q .normal ⟨n,D,l⟩ L
 | k+1,vd,pend,l,L=>
  (∃ i o d v,ops[i]?=some o∧i ∉ vd∧(deps o).all vd.contains=true∧o.dst=some d∧d < n∧noWar ops i=true∧EV P g ops o ⟨n,D,l⟩ L v∧RW k (i::vd) ((i,v)::pend) ((d,v)::l) L) ∨
  (nextOf ops vd≠[]∧∀ i ∈ nextOf ops vd,∃ o,ops[i]?=some o∧(∀ d,o.dst=some d→d < n) ∧
   wants ops (dropS (dstsOf ops (lateOf ops i pend)) l) o.guard=some true ∧
   HO P r g o ⟨n,D,dropS (dstsOf ops (lateOf ops i pend)) l⟩ L fun v M=>
    (∀ j u,(j,u) ∈ lateOf ops i pend→∃ oj,ops[j]?=some oj∧EV P g ops oj ⟨n,D,(match o.dst with | some d=>(d,v)::l | none=>l)⟩ M u) ∧
    RW k (i::vd) (lateOf ops i pend) (match o.dst with | some d=>(d,v)::l | none=>l) M)
end
section
variable {P : Program} {r : Option Nat} {g : World} {ops : List Oper} {Q : Post} {n : Nat} {D : List Deferred}
theorem look_dropS (ds:List Nat):∀ (l:List (Nat × Value)) (i:Nat),i ∉ ds→look (dropS ds l) i=look l i
 | [],_,_=>rfl
 | (j,v)::l,i,h=>by
  unfold dropS
  by_cases e:j=i
  ·subst e
   rw [List.filter_cons_of_pos (by simpa using h)]
   simp [look]
  ·by_cases hj:ds.contains j=true
   ·rw [List.filter_cons_of_neg (by simpa using hj)]
    simp only [look,beq_no e]
    exact look_dropS ds l i h
   ·rw [List.filter_cons_of_pos (by simpa using hj)]
    simp only [look,beq_no e]
    exact look_dropS ds l i h
theorem look_dropS_none (ds:List Nat):∀ (l:List (Nat × Value)) (i:Nat),i ∈ ds→look (dropS ds l) i=none
 | [],_,_=>rfl
 | (j,v)::l,i,h=>by
  unfold dropS
  by_cases hj:ds.contains j=true
  ·rw [List.filter_cons_of_neg (by simpa using hj)]
   exact look_dropS_none ds l i h
  ·rw [List.filter_cons_of_pos (by simpa using hj)]
   have e:j≠i:=fun e=>by subst e;exact hj (by simpa using h)
   simp only [look,beq_no e]
   exact look_dropS_none ds l i h
structure RInv (ops:List Oper) (P:Program) (g:World) (n:Nat) (D:List Deferred) (vd:List Nat) (pend l:List (Nat × Value)) (L:List HP) (listed:Array Bool) (a:Act) (w:World):Prop where
 size:listed.size=ops.length
 sub:∀ i:Nat,listed[i]?=some true→i ∈ vd
 closed:∀ (i:Nat) (o:Oper),i ∈ vd→ops[i]?=some o→∀ j ∈ deps o,j ∈ vd
 closedL:∀ (i:Nat) (o:Oper),listed[i]?=some true→ops[i]?=some o→∀ j ∈ deps o,listed[j]?=some true
 late:∀ i:Nat,i ∈ vd→i < ops.length→listed[i]?=some false→noWar ops i=true∧∃ v o d,(i,v) ∈ pend∧ops[i]?=some o∧o.dst=some d∧d < n∧look l d=some v
 ev:∀ (i:Nat) (v:Value),(i,v) ∈ pend→∃ o,ops[i]?=some o∧i ∈ vd∧EV P g ops o ⟨n,D,l⟩ L v∧(∀ d,o.dst=some d→look l d=some v)
 tmps:a.tmps.size=n
 defers:a.defers=D
 at_:∀ (t:Nat) (v:Value),look l t=some v→(∀ i:Nat,i < ops.length→listed[i]?=some false→i ∈ vd→dstOf ops i≠some t)→a.tmps[t]?=some v
 sat:Sat g L w
theorem regOk_at (h:regOk ops=true) {i:Nat} {o:Oper} (hi:ops[i]?=some o):okAt ops i o=true∧∀ c,o.op≠.defer c:=by
 have hlt:i < ops.length:=by
  rcases Nat.lt_or_ge i ops.length with h' | h'
  ·exact h'
  ·rw [List.getElem?_eq_none h'] at hi;cases hi
 have:=List.all_eq_true.1 h i (by simpa using hlt)
 rw [hi] at this
 simp only [Bool.and_eq_true] at this
 refine ⟨this.1,fun c e=>?_⟩
 have h2:=this.2
 rw [e] at h2;cases h2
theorem ok_dep (h:regOk ops=true) {i j:Nat} {o:Oper} (hi:ops[i]?=some o) (hj:j ∈ deps o):j < i:=by
 have:=(regOk_at h hi).1
 unfold okAt at this
 simp only [Bool.and_eq_true] at this
 have:=List.all_eq_true.1 this.1.1.1 j hj
 simpa using this
theorem ok_guard (h:regOk ops=true) {i j:Nat} {b:Bool} {o:Oper} (hi:ops[i]?=some o) (hg:o.guard=some (j,b)):j ∈ deps o:=by
 have:=(regOk_at h hi).1
 unfold okAt at this
 simp only [Bool.and_eq_true] at this
 have:=this.1.1.2
 rw [hg] at this
 simpa using this
theorem ok_own (h:regOk ops=true) {i d:Nat} {o:Oper} (hi:ops[i]?=some o) (hd:o.dst=some d):d ∉ slotsOf o:=by
 have:=(regOk_at h hi).1
 unfold okAt at this
 simp only [Bool.and_eq_true] at this
 have:=this.1.2
 rw [hd] at this
 simpa using this
theorem ok_dst (h:regOk ops=true) {i j d:Nat} {o:Oper} (hi:ops[i]?=some o) (hne:i≠j) (hd:dstOf ops j=some d):o.dst≠some d:=by
 have:=(regOk_at h hi).1
 unfold okAt at this
 simp only [Bool.and_eq_true] at this
 have hj:j < ops.length:=by
  rcases Nat.lt_or_ge j ops.length with h' | h'
  ·exact h'
  ·simp [dstOf,List.getElem?_eq_none h'] at hd
 have:=List.all_eq_true.1 this.2 j (by simpa using hj)
 rw [hd] at this
 simp only [Bool.or_eq_true,Bool.and_eq_true,beq_no hne,Bool.false_eq_true,false_or] at this
 intro he
 have h2:=this.2
 rw [he] at h2
 simp at h2
theorem noWar_slot {i j d:Nat} {o:Oper} (h:noWar ops j=true) (hi:ops[i]?=some o) (hne:i≠j) (hd:dstOf ops j=some d) (hs:d ∈ slotsOf o):j ∈ deps o:=by
 have hlt:i < ops.length:=by
  rcases Nat.lt_or_ge i ops.length with h' | h'
  ·exact h'
  ·rw [List.getElem?_eq_none h'] at hi;cases hi
 have:=List.all_eq_true.1 h i (by simpa using hlt)
 rw [hi,hd,beq_no (Ne.symm hne)] at this
 simp only [Bool.false_or,Bool.or_eq_true,Bool.not_eq_true',List.contains_eq_mem,decide_eq_false_iff_not,decide_eq_true_eq] at this
 rcases this with h' | h'
 ·exact absurd hs h'
 ·exact h'
theorem mem_slots {o:Oper} {t:Nat} (h:.tmp t ∈ o.op.operands):t ∈ slotsOf o:=by
 unfold slotsOf
 exact List.mem_filterMap.2 ⟨.tmp t,by simpa using h,rfl⟩
theorem listed_getD {listed:Array Bool} {i:Nat} {d:Bool} (h:i < listed.size):listed.getD i d=true↔listed[i]?=some true:=by
 simp [Array.getD,h]
theorem ready_iff {listed:Array Bool} (hs:listed.size=ops.length) {i:Nat}:i ∈ Region.ready .any ops.toArray listed↔∃ o,ops[i]?=some o∧listed[i]?=some false∧∀ j ∈ deps o,listed.getD j false=true:=by
 unfold Region.ready
 simp only [List.size_toArray,List.mem_filter,List.mem_range,List.getElem?_toArray]
 constructor
 ·rintro ⟨hlt,h⟩
  rw [List.getElem?_eq_getElem hlt] at h ⊢
  simp only [Bool.and_eq_true,Option.map_some,Option.getD_some] at h
  refine ⟨_,rfl,?_,fun j hj=>?_⟩
  ·have h1:=h.1
   have hl:i < listed.size:=by omega
   simp [Array.getD,hl] at h1
   rw [Array.getElem?_eq_getElem hl,h1]
  ·unfold deps at hj
   obtain ⟨e,he,rfl⟩:=List.mem_map.1 hj
   obtain ⟨he1,he2⟩:=List.mem_filter.1 he
   have:=Array.all_eq_true'.1 h.2 e (by simpa using he1)
   simpa [he2] using this
 ·rintro ⟨o,ho,hl,hd⟩
  have hlt:i < ops.length:=by
   rcases Nat.lt_or_ge i ops.length with h' | h'
   ·exact h'
   ·rw [List.getElem?_eq_none h'] at ho;cases ho
  refine ⟨hlt,?_⟩
  rw [ho]
  simp only [Bool.and_eq_true,Option.map_some,Option.getD_some]
  refine ⟨?_,?_⟩
  ·have hl':i < listed.size:=by omega
   simp [Array.getD,hl']
   rw [Array.getElem?_eq_getElem hl'] at hl
   simpa using hl
  ·rw [Array.all_eq_true']
   intro e he
   by_cases hb:Region.binds .any e=true
   ·have:=hd e.on (List.mem_map.2 ⟨e,List.mem_filter.2 ⟨by simpa using he,hb⟩,rfl⟩)
    simp [this]
   ·simp [hb]
theorem all_listed (h:regOk ops=true) {listed:Array Bool} (hs:listed.size=ops.length) (hr:Region.ready .any ops.toArray listed=[]):∀ i,i < ops.length→listed[i]?=some true:=by
 intro i
 induction i using Nat.strongRecOn with
 | _ i ih=>
  intro hi
  cases hl:listed[i]? with
  | none=>rw [Array.getElem?_eq_none_iff] at hl;omega
  | some b=>
   cases b with
   | true=>rfl
   | false=>
    exfalso
    have:i ∈ Region.ready .any ops.toArray listed:=(ready_iff hs).2 ⟨ops[i],List.getElem?_eq_getElem hi,hl,fun j hj=>by
     have hji:=ok_dep h (List.getElem?_eq_getElem hi) hj
     exact (listed_getD (by omega)).2 (ih j hji (by omega))⟩
    rw [hr] at this;cases this
variable {vd : List Nat} {pend l : List (Nat × Value)} {L : List HP} {listed : Array Bool} {a : Act} {w : World}
theorem ev_mono {Γ:Env} {o:Oper} {v:Value} {l':List (Nat × Value)} (hs:∀ t ∈ slotsOf o,look l' t=look Γ.l t) (hg:wants ops l' o.guard=wants ops Γ.l o.guard) (h:EV P g ops o Γ L v):EV P g ops o ⟨Γ.n,Γ.D,l'⟩ L v:=by
 rcases h with ⟨h1,h2⟩ | ⟨h1,h2⟩
 ·refine .inl ⟨hg.trans h1,fun ρ w hρ hw=>h2 ρ w (fun x u hx hu=>hρ x u hx ?_) hw⟩
  cases x with
  | tmp t=>exact (hs t (mem_slots hx)).trans hu
  | const c=>exact hu
  | global c=>exact hu
  | func c=>exact hu
 ·exact .inr ⟨hg.trans h1,h2⟩
theorem wants_congr {o:Oper} {l l':List (Nat × Value)} (h:∀ j b d,o.guard=some (j,b)→dstOf ops j=some d→look l' d=look l d):wants ops l' o.guard=wants ops l o.guard:=by
 unfold wants
 cases hg:o.guard with
 | none=>rfl
 | some x=>
  obtain ⟨j,b⟩:=x
  simp only
  cases hd:(ops[j]?).bind (·.dst) with
  | none=>rfl
  | some d=>simp only [Option.bind_some];rw [h j b d hg hd]
theorem RInv.see (h:RInv ops P g n D vd pend l L listed a w) (hok:regOk ops=true) {i:Nat} {o:Oper} (ho:ops[i]?=some o) (hi:listed[i]?=some false) (hr:∀ j ∈ deps o,listed[j]?=some true) {t:Nat} (ht:t ∈ slotsOf o∨∃ j b,o.guard=some (j,b)∧dstOf ops j=some t) {v:Value} (hv:look l t=some v):a.tmps[t]?=some v:=by
 refine h.at_ t v hv fun j hj hl hjv he=>?_
 have hne:i≠j∨i=j:=by omega
 rcases ht with ht | ⟨q,b,hq,hd⟩
 ·rcases hne with hne | rfl
  ·have:=hr j (noWar_slot (h.late j hjv hj hl).1 ho hne he ht)
   rw [this] at hl;cases hl
  ·have:o.dst=some t:=by unfold dstOf at he;rw [ho] at he;simpa using he
   exact ok_own hok ho this ht
 ·have hqd:=ok_guard hok ho hq
  have:=hr q hqd
  by_cases e:j=q
  ·subst e;rw [this] at hl;cases hl
  ·have hoj:∃ oj,ops[j]?=some oj:=⟨ops[j],List.getElem?_eq_getElem hj⟩
   obtain ⟨oj,hoj⟩:=hoj
   have:oj.dst=some t:=by unfold dstOf at he;rw [hoj] at he;simpa using he
   exact ok_dst hok hoj e hd this
theorem wants_see (h:RInv ops P g n D vd pend l L listed a w) (hok:regOk ops=true) {i:Nat} {o:Oper} (ho:ops[i]?=some o) (hi:listed[i]?=some false) (hr:∀ j ∈ deps o,listed[j]?=some true) {b:Bool} (hw:wants ops l o.guard=some b):Region.wanted o (yielded ops.toArray a.tmps)=b:=by
 unfold wants at hw;unfold Region.wanted
 cases hg:o.guard with
 | none=>rw [hg] at hw;simpa using hw
 | some x=>
  obtain ⟨j,c⟩:=x
  rw [hg] at hw
  simp only at hw ⊢
  unfold yielded
  simp only [List.getElem?_toArray]
  cases hd:(ops[j]?).bind (·.dst) with
  | none=>rw [hd] at hw;simp at hw
  | some d=>
   rw [hd] at hw
   simp only [Option.bind_some] at hw ⊢
   cases hv:look l d with
   | none=>rw [hv] at hw;simp at hw
   | some v=>
    rw [hv] at hw
    rw [h.see hok ho hi hr (.inr ⟨j,c,hg,hd⟩) hv]
    cases v <;> simp_all
theorem set_at {i j:Nat} (hs:i < listed.size):(listed.setIfInBounds i true)[j]?=if i=j then some true else listed[j]?:=by
 by_cases e:i=j
 ·subst e;simp [hs]
 ·rw [Array.getElem?_setIfInBounds_ne e,if_neg e]
theorem put_at {a:Act} {o:Oper} {v:Value} {t:Nat} (hd:∀ d,o.dst=some d→d < a.tmps.size):(a.put o.dst v).tmps[t]?=if o.dst=some t then some v else a.tmps[t]?:=by
 cases ho:o.dst with
 | none=>simp [Act.put]
 | some d=>
  have:=hd d ho
  by_cases e:d=t
  ·subst e;simp [Act.put,this]
  ·simp [Act.put,Array.getElem?_setIfInBounds_ne e,e]
theorem put_size {a:Act} {o:Oper} {v:Value}:(a.put o.dst v).tmps.size=a.tmps.size:=by cases o.dst <;> simp [Act.put]
theorem put_defers' {a:Act} {o:Oper} {v:Value}:(a.put o.dst v).defers=a.defers:=by cases o.dst <;> simp [Act.put]
theorem RInv.comes (h:RInv ops P g n D vd pend l L listed a w) (hok:regOk ops=true) {i:Nat} {o:Oper} {v:Value} (ho:ops[i]?=some o) (hi:listed[i]?=some false) (hr:∀ j ∈ deps o,listed[j]?=some true) (hv:i ∈ vd) (hd:∀ d,o.dst=some d→d < n∧look l d=some v) :
  RInv ops P g n D vd pend l L (listed.setIfInBounds i true) (a.put o.dst v) w:=by
 have hil:i < listed.size:=by
  rcases Nat.lt_or_ge i listed.size with h' | h'
  ·exact h'
  ·rw [Array.getElem?_eq_none h'] at hi;cases hi
 refine ⟨by simpa using h.size,fun j hj=>?_,h.closed,fun j oj hj hoj q hq=>?_,fun j hj hlt hl=>?_,h.ev,by rw [put_size];exact h.tmps,by rw [put_defers'];exact h.defers,fun t u hu hno=>?_,h.sat⟩
 ·rw [set_at hil] at hj
  by_cases e:i=j
  ·subst e;exact hv
  ·rw [if_neg e] at hj;exact h.sub j hj
 ·rw [set_at hil] at hj ⊢
  by_cases e:i=j
  ·subst e;rw [ho] at hoj;cases hoj
   have:=hr q hq
   by_cases e2:i=q
   ·rw [if_pos e2]
   ·rw [if_neg e2];exact this
  ·rw [if_neg e] at hj
   have:=h.closedL j oj hj hoj q hq
   by_cases e2:i=q
   ·rw [if_pos e2]
   ·rw [if_neg e2];exact this
 ·rw [set_at hil] at hl
  by_cases e:i=j
  ·rw [if_pos e] at hl;cases hl
  ·rw [if_neg e] at hl;exact h.late j hj hlt hl
 ·rw [put_at (fun d hd'=>by rw [h.tmps];exact (hd d hd').1)]
  by_cases e:o.dst=some t
  ·rw [if_pos e];have:=(hd t e).2;rw [this] at hu;exact hu
  ·rw [if_neg e]
   refine h.at_ t u hu fun j hj hl hjv he=>?_
   by_cases e2:i=j
   ·subst e2;exact e (by unfold dstOf at he;rw [ho] at he;simpa using he)
   ·exact hno j hj (by rw [set_at hil,if_neg e2];exact hl) hjv he
theorem RInv.first (h:RInv ops P g n D vd pend l L listed a w) (hok:regOk ops=true) {i d:Nat} {o:Oper} {v:Value} (ho:ops[i]?=some o) (hi:i ∉ vd) (hr:∀ j ∈ deps o,j ∈ vd) (hd:o.dst=some d) (hdn:d < n) (hnw:noWar ops i=true) (he:EV P g ops o ⟨n,D,l⟩ L v) :
  RInv ops P g n D (i::vd) ((i,v)::pend) ((d,v)::l) L listed a w:=by
 have hilt:i < ops.length:=by
  rcases Nat.lt_or_ge i ops.length with h' | h'
  ·exact h'
  ·rw [List.getElem?_eq_none h'] at ho;cases ho
 have hds:dstOf ops i=some d:=by unfold dstOf;rw [ho];simpa using hd
 have hfalse:listed[i]?=some false:=by
  have hil:i < listed.size:=by rw [h.size];exact hilt
  cases hb:listed[i]? with
  | none=>rw [Array.getElem?_eq_none_iff] at hb;omega
  | some b=>cases b with
   | false=>rfl
   | true=>exact absurd (h.sub i hb) hi
 have hfree:∀ (j:Nat) oj,j ∈ vd→ops[j]?=some oj→d ∉ slotsOf oj∧(∀ q b,oj.guard=some (q,b)→dstOf ops q≠some d)∧oj.dst≠some d:=by
  intro j oj hj hoj
  have hne:j≠i:=fun e=>by subst e;exact hi hj
  refine ⟨fun hs=>hi (h.closed j oj hj hoj i (noWar_slot hnw hoj hne hds hs)),fun q b hq hqd=>?_,ok_dst hok hoj hne hds⟩
  have hqv:=h.closed j oj hj hoj q (ok_guard hok hoj hq)
  have hqi:q≠i:=fun e=>by subst e;exact hi hqv
  obtain ⟨oq,hoq⟩:∃ oq,ops[q]?=some oq:=by
   cases hoq:ops[q]? with
   | none=>simp [dstOf,hoq] at hqd
   | some oq=>exact ⟨oq,rfl⟩
  have:oq.dst=some d:=by unfold dstOf at hqd;rw [hoq] at hqd;simpa using hqd
  exact ok_dst hok hoq hqi hds this
 have hlook:∀ t,t≠d→look ((d,v)::l) t=look l t:=fun t ht=>by simp only [look];rw [beq_no (Ne.symm ht)]
 have hevm:∀ (j:Nat) oj u,ops[j]?=some oj→(j ∈ vd∨j=i)→EV P g ops oj ⟨n,D,l⟩ L u→EV P g ops oj ⟨n,D,(d,v)::l⟩ L u:=by
  intro j oj u hoj hj hev
  have hf:d ∉ slotsOf oj∧(∀ q b,oj.guard=some (q,b)→dstOf ops q≠some d):=by
   rcases hj with hj | rfl
   ·exact ⟨(hfree j oj hj hoj).1,(hfree j oj hj hoj).2.1⟩
   ·rw [ho] at hoj;cases hoj
    refine ⟨ok_own hok ho hd,fun q b hq hqd=>?_⟩
    have hqv:=hr q (ok_guard hok ho hq)
    obtain ⟨oq,hoq⟩:∃ oq,ops[q]?=some oq:=by
     cases hoq:ops[q]? with
     | none=>simp [dstOf,hoq] at hqd
     | some oq=>exact ⟨oq,rfl⟩
    exact (hfree q oq hqv hoq).2.2 (by unfold dstOf at hqd;rw [hoq] at hqd;simpa using hqd)
  refine ev_mono (Γ:=⟨n,D,l⟩) (fun t ht=>hlook t (fun e=>by subst e;exact hf.1 ht)) (wants_congr fun q b t hq ht=>hlook t (fun e=>by subst e;exact hf.2 q b hq ht)) hev
 refine ⟨h.size,fun j hj=>List.mem_cons_of_mem _ (h.sub j hj),fun j oj hj hoj q hq=>?_,h.closedL,fun j hj hlt hl=>?_,fun j u hj=>?_,h.tmps,h.defers,fun t u hu hno=>?_,h.sat⟩
 ·rcases List.mem_cons.1 hj with rfl | hj
  ·rw [ho] at hoj;cases hoj;exact List.mem_cons_of_mem _ (hr q hq)
  ·exact List.mem_cons_of_mem _ (h.closed j oj hj hoj q hq)
 ·rcases List.mem_cons.1 hj with rfl | hj
  ·exact ⟨hnw,v,o,d,by simp,ho,hd,hdn,by simp [look]⟩
  ·obtain ⟨h0,u,oj,dj,h1,h2,h3,h4,h5⟩:=h.late j hj hlt hl
   have hne:dj≠d:=fun e=>by subst e;exact (hfree j oj hj h2).2.2 h3
   exact ⟨h0,u,oj,dj,List.mem_cons_of_mem _ h1,h2,h3,h4,by rw [hlook _ hne];exact h5⟩
 ·rcases List.mem_cons.1 hj with e | hj
  ·cases e
   exact ⟨o,ho,by simp,hevm i o v ho (.inr rfl) he,fun d' hd'=>by rw [hd] at hd';cases hd';simp [look]⟩
  ·obtain ⟨oj,h1,h2,h3,h4⟩:=h.ev j u hj
   refine ⟨oj,h1,List.mem_cons_of_mem _ h2,hevm j oj u h1 (.inl h2) h3,fun d' hd'=>?_⟩
   have hne:d'≠d:=fun e=>by subst e;exact (hfree j oj h2 h1).2.2 hd'
   rw [hlook _ hne];exact h4 d' hd'
 ·by_cases e:t=d
  ·subst e
   exact absurd hds (hno i hilt hfalse (by simp))
  ·rw [hlook t e] at hu
   exact h.at_ t u hu fun j hj hl hjv=>hno j hj hl (List.mem_cons_of_mem _ hjv)
theorem countP_set:∀ (l:List Bool) (i:Nat),l[i]?=some false→(l.set i true).countP (fun b=>!b)+1=l.countP (fun b=>!b)
 | [],i,h=>by simp at h
 | b::l,0,h=>by simp at h;subst h;simp
 | b::l,i+1,h=>by
  simp only [List.getElem?_cons_succ] at h
  simp only [List.set_cons_succ,List.countP_cons]
  have:=countP_set l i h;omega
theorem countP_pos':∀ (l:List Bool) (i:Nat),l[i]?=some false→0 < l.countP (fun b=>!b):=fun l i h=>by
 rw [List.countP_pos_iff]
 exact ⟨false,List.mem_of_getElem? h,rfl⟩
theorem RW.sound (hok:regOk ops=true):∀ (fuel k:Nat) (vd:List Nat) (pend l:List (Nat × Value)) (L:List HP) (listed:Array Bool) (a:Act) (w:World),RW P r g ops Q n D k vd pend l L→RInv ops P g n D vd pend l L listed a w →
  listed.toList.countP (fun b=>!b)≤fuel→wpAnyIn (FR r) 0 P .any ops.toArray Q fuel listed a w:=by
 intro fuel
 induction fuel with
 | zero=>
  intro k
  induction k with
  | zero=>
   intro vd pend l L listed a w ⟨_,hall,hQ⟩ hI hc
   have hl:∀ i,i < ops.length→listed[i]?=some true:=fun i hi=>by
    cases hb:listed[i]? with
    | none=>rw [Array.getElem?_eq_none_iff] at hb;have:=hI.size;omega
    | some b=>cases b with
     | true=>rfl
     | false=>have:=countP_pos' listed.toList i (by simpa using hb);omega
   refine ⟨?_,hQ a w ⟨hI.tmps,hI.defers,fun t v hv=>hI.at_ t v hv fun j hj hl' _=>by rw [hl j hj] at hl';cases hl'⟩ hI.sat⟩
   rw [List.eq_nil_iff_forall_not_mem]
   intro i hi
   obtain ⟨o,ho,hf,_⟩:=(ready_iff hI.size).1 hi
   have hlt:i < ops.length:=by
    rcases Nat.lt_or_ge i ops.length with h' | h'
    ·exact h'
    ·rw [List.getElem?_eq_none h'] at ho;cases ho
   rw [hl i hlt] at hf;cases hf
  | succ k ih=>
   intro vd pend l L listed a w h hI hc
   rcases h with ⟨i,o,d,v,ho,hi,hr,hd,hdn,hnw,he,hrw⟩ | ⟨hne,hall⟩
   ·exact ih _ _ _ _ listed a w hrw (hI.first hok ho hi (by simpa using List.all_eq_true.1 hr) hd hdn hnw he) hc
   ·exfalso
    obtain ⟨i,hi⟩:=List.exists_mem_of_ne_nil _ hne
    obtain ⟨o,ho,_⟩:=hall i hi
    unfold nextOf at hi
    simp only [List.mem_filter,List.mem_range,Bool.and_eq_true] at hi
    have hiv:i ∉ vd:=by simpa using hi.2.1
    cases hb:listed[i]? with
    | none=>rw [Array.getElem?_eq_none_iff] at hb;have:=hI.size;omega
    | some b=>cases b with
     | true=>exact hiv (hI.sub i hb)
     | false=>have:=countP_pos' listed.toList i (by simpa using hb);omega
 | succ fuel ihf=>
  intro k
  induction k with
  | zero=>
   intro vd pend l L listed a w h hI hc
   have h0:=h
   obtain ⟨_,hall,hQ⟩:=h
   refine ⟨fun hr=>?_,fun i hi=>?_⟩
   ·have hl:=all_listed hok hI.size hr
    exact hQ a w ⟨hI.tmps,hI.defers,fun t v hv=>hI.at_ t v hv fun j hj hl' _=>by rw [hl j hj] at hl';cases hl'⟩ hI.sat
   ·obtain ⟨o,ho,hf,hdp⟩:=(ready_iff hI.size).1 hi
    exact pending (k:=0) ihf hok hI h0 hc ho hf hdp (hall i (by
     rcases Nat.lt_or_ge i ops.length with h' | h'
     ·exact h'
     ·rw [List.getElem?_eq_none h'] at ho;cases ho))
  | succ k ih=>
   intro vd pend l L listed a w h hI hc
   rcases h with ⟨i,o,d,v,ho,hi,hr,hd,hdn,hnw,he,hrw⟩ | ⟨hne,hall⟩
   ·exact ih _ _ _ _ listed a w hrw (hI.first hok ho hi (by simpa using List.all_eq_true.1 hr) hd hdn hnw he) hc
   ·refine ⟨fun hr=>?_,fun i hi=>?_⟩
    ·exfalso
     have hl:=all_listed hok hI.size hr
     obtain ⟨i,hi⟩:=List.exists_mem_of_ne_nil _ hne
     unfold nextOf at hi
     simp only [List.mem_filter,List.mem_range,Bool.and_eq_true] at hi
     have hiv:i ∉ vd:=by simpa using hi.2.1
     exact hiv (hI.sub i (hl i hi.1))
    ·obtain ⟨o,ho,hf,hdp⟩:=(ready_iff hI.size).1 hi
     have hlt:i < ops.length:=by
      rcases Nat.lt_or_ge i ops.length with h' | h'
      ·exact h'
      ·rw [List.getElem?_eq_none h'] at ho;cases ho
     by_cases hiv:i ∈ vd
     ·exact pending (k:=k+1) ihf hok hI (.inr ⟨hne,hall⟩) hc ho hf hdp hiv
     ·exact fresh ihf hok hI hc ho hf hdp hiv hlt (hall i (by
       unfold nextOf
       simp only [List.mem_filter,List.mem_range,Bool.and_eq_true]
       refine ⟨hlt,by simpa using hiv,?_⟩
       rw [ho]
       rw [List.all_eq_true]
       intro j hj
       have hjl:=ok_dep hok ho hj
       simpa using hI.sub j ((listed_getD (by rw [hI.size];omega)).1 (hdp j hj))))
where
 dep_listed {vd:List Nat} {pend l:List (Nat × Value)} {L:List HP} {listed:Array Bool} {a:Act} {w:World} (hok:regOk ops=true) (hI:RInv ops P g n D vd pend l L listed a w) {i:Nat} {o:Oper} (ho:ops[i]?=some o) (hf:listed[i]?=some false) (hdp:∀ j ∈ deps o,listed.getD j false=true):∀ j ∈ deps o,listed[j]?=some true:=fun j hj=>by
  have hjl:=ok_dep hok ho hj
  have hil:i < listed.size:=by
   rcases Nat.lt_or_ge i listed.size with h' | h'
   ·exact h'
   ·rw [Array.getElem?_eq_none h'] at hf;cases hf
  exact (listed_getD (by omega)).1 (hdp j hj)
 pending {fuel k:Nat} {vd:List Nat} {pend l:List (Nat × Value)} {L:List HP} {listed:Array Bool} {a:Act} {w:World}
   (ihf:∀ (k:Nat) (vd:List Nat) (pend l:List (Nat × Value)) (L:List HP) (listed:Array Bool) (a:Act) (w:World),RW P r g ops Q n D k vd pend l L→RInv ops P g n D vd pend l L listed a w→listed.toList.countP (fun b=>!b)≤fuel→wpAnyIn (FR r) 0 P .any ops.toArray Q fuel listed a w)
   (hok:regOk ops=true) (hI:RInv ops P g n D vd pend l L listed a w) (hrw:RW P r g ops Q n D k vd pend l L) (hc:listed.toList.countP (fun b=>!b)≤fuel+1) {i:Nat} {o:Oper} (ho:ops[i]?=some o) (hf:listed[i]?=some false) (hdp:∀ j ∈ deps o,listed.getD j false=true) (hiv:i ∈ vd) :
   wpOpIn (FR r) 0 P ops.toArray Q i (wpAnyIn (FR r) 0 P .any ops.toArray Q fuel (listed.setIfInBounds i true)) a w:=by
  have hdl:=dep_listed hok hI ho hf hdp
  have hlt:i < ops.length:=by
   rcases Nat.lt_or_ge i ops.length with h' | h'
   ·exact h'
   ·rw [List.getElem?_eq_none h'] at ho;cases ho
  obtain ⟨_,v,o',d,hp,ho',hd,hdn,hlk⟩:=hI.late i hiv hlt hf
  rw [ho] at ho';cases ho'
  obtain ⟨o',ho',_,hev,_⟩:=hI.ev i v hp
  rw [ho] at ho';cases ho'
  have hI':=hI.comes hok ho hf hdl hiv (fun d' hd'=>by rw [hd] at hd';cases hd';exact ⟨hdn,hlk⟩)
  have hc':(listed.setIfInBounds i true).toList.countP (fun b=>!b)≤fuel:=by
   rw [Array.toList_setIfInBounds]
   have:=countP_set listed.toList i (by simpa using hf);omega
  have hnext:=ihf k vd pend l L _ _ w hrw hI' hc'
  unfold wpOpIn
  simp only [List.getElem?_toArray,ho]
  rcases hev with ⟨hw,he⟩ | ⟨hw,rfl⟩
  ·rw [if_pos (wants_see hI hok ho hf hdl hw)]
   obtain ⟨hrun,hop⟩:=he a.eval w (fun x u hx hu=>by
    cases x with
    | tmp t=>have:=hI.see hok ho hf hdl (.inl (mem_slots hx)) hu;simp [Act.eval,this]
    | const c=>simpa [SL.ev,Act.eval] using hu
    | global c=>simpa [SL.ev,Act.eval] using hu
    | func c=>simpa [SL.ev,Act.eval] using hu) hI.sat
   refine ⟨about_FR,?_⟩
   rw [Oper.semAt_eq _ _ _ hop,hrun]
   exact hnext
  ·rw [if_neg (by rw [wants_see hI hok ho hf hdl hw];simp)]
   exact ⟨about_FR,hnext⟩
 fresh {fuel k:Nat} {vd:List Nat} {pend l:List (Nat × Value)} {L:List HP} {listed:Array Bool} {a:Act} {w:World}
   (ihf:∀ (k:Nat) (vd:List Nat) (pend l:List (Nat × Value)) (L:List HP) (listed:Array Bool) (a:Act) (w:World),RW P r g ops Q n D k vd pend l L→RInv ops P g n D vd pend l L listed a w→listed.toList.countP (fun b=>!b)≤fuel→wpAnyIn (FR r) 0 P .any ops.toArray Q fuel listed a w)
   (hok:regOk ops=true) (hI:RInv ops P g n D vd pend l L listed a w) (hc:listed.toList.countP (fun b=>!b)≤fuel+1) {i:Nat} {o:Oper} (ho:ops[i]?=some o) (hf:listed[i]?=some false) (hdp:∀ j ∈ deps o,listed.getD j false=true) (hiv:i ∉ vd) (hlt:i < ops.length)
   (hall:∃ o,ops[i]?=some o∧(∀ d,o.dst=some d→d < n)∧wants ops (dropS (dstsOf ops (lateOf ops i pend)) l) o.guard=some true ∧
    HO P r g o ⟨n,D,dropS (dstsOf ops (lateOf ops i pend)) l⟩ L fun v M=>(∀ j u,(j,u) ∈ lateOf ops i pend→∃ oj,ops[j]?=some oj∧EV P g ops oj ⟨n,D,(match o.dst with | some d=>(d,v)::l | none=>l)⟩ M u)∧RW P r g ops Q n D k (i::vd) (lateOf ops i pend) (match o.dst with | some d=>(d,v)::l | none=>l) M) :
   wpOpIn (FR r) 0 P ops.toArray Q i (wpAnyIn (FR r) 0 P .any ops.toArray Q fuel (listed.setIfInBounds i true)) a w:=by
  have hdl:=dep_listed hok hI ho hf hdp
  obtain ⟨o',ho',hdn,hwt,hh⟩:=hall
  rw [ho] at ho';cases ho'
  have hlate:lateOf ops i pend=pend.filter fun p=>!(ancs ops i).contains p.1:=rfl
  have hanc:∀ j,j ∈ ancs ops i→listed[j]?=some true:=by
   have key:∀ (l acc:List Nat),(∀ j ∈ acc,listed[j]?=some true)→∀ j ∈ l.foldl (fun acc j=>if acc.contains j then (match ops[j]? with | some p=>deps p++acc | none=>acc) else acc) acc,listed[j]?=some true:=by
    intro l
    induction l with
    | nil=>exact fun acc h=>h
    | cons x l ih=>
     intro acc h
     refine ih _ ?_
     show ∀ j ∈ (if acc.contains x=true then _ else _),listed[j]?=some true
     by_cases hx:acc.contains x=true
     ·rw [if_pos hx]
      cases hp:ops[x]? with
      | none=>exact h
      | some p=>
       intro j hj
       rcases List.mem_append.1 hj with hj | hj
       ·exact hI.closedL x p (h x (by simpa using hx)) hp j hj
       ·exact h j hj
     ·rw [if_neg hx];exact h
   unfold ancs
   rw [ho]
   exact key _ _ hdl
  have hil:i < listed.size:=by rw [hI.size];exact hlt
  have hpl:∀ (j:Nat) u,(j,u) ∈ pend→listed[j]?=some false→(j,u) ∈ lateOf ops i pend:=fun j u hj hl=>by
   rw [hlate]
   refine List.mem_filter.2 ⟨hj,?_⟩
   simp only [Bool.not_eq_true',List.contains_eq_mem,decide_eq_false_iff_not]
   intro hm
   rw [hanc j hm] at hl;cases hl
  have hmem:∀ (j:Nat),j < ops.length→listed[j]?=some false→j ∈ vd→∀ t,dstOf ops j=some t→t ∈ dstsOf ops (lateOf ops i pend):=fun j hj hl hjv t ht=>by
   obtain ⟨_,u,oj,dj,h1,h2,h3,h4,h5⟩:=hI.late j hjv hj hl
   exact List.mem_filterMap.2 ⟨(j,u),hpl j u h1 hl,ht⟩
  have hΓ:Env.ok ⟨n,D,dropS (dstsOf ops (lateOf ops i pend)) l⟩ a:=⟨hI.tmps,hI.defers,fun t v hv=>by
   by_cases ht:t ∈ dstsOf ops (lateOf ops i pend)
   ·rw [look_dropS_none _ _ _ ht] at hv;cases hv
   ·rw [look_dropS _ _ _ ht] at hv
    exact hI.at_ t v hv fun j hj hl hjv he=>ht (hmem j hj hl hjv t he)⟩
  unfold wpOpIn
  simp only [List.getElem?_toArray,ho]
  rw [if_pos (wants_ok (Γ:=⟨n,D,dropS (dstsOf ops (lateOf ops i pend)) l⟩) hwt hΓ)]
  refine hh a w Q _ hΓ hI.sat fun v M w' hk hw'=>?_
  obtain ⟨hpe,hrw⟩:=hk
  have hc':(listed.setIfInBounds i true).toList.countP (fun b=>!b)≤fuel:=by
   rw [Array.toList_setIfInBounds]
   have:=countP_set listed.toList i (by simpa using hf);omega
  refine ihf k _ _ _ _ _ _ w' hrw ?_ hc'
  generalize hl':(match o.dst with | some d=>(d,v)::l | none=>l)=l' at hrw hpe
  have hlook:∀ t,o.dst≠some t→look l' t=look l t:=fun t ht=>by
   subst hl'
   cases hd:o.dst with
   | none=>rfl
   | some d=>simp only [look];rw [beq_no (fun e=>ht (by rw [hd,e]))]
  have hlookd:∀ d,o.dst=some d→look l' d=some v:=fun d hd=>by subst hl';rw [hd];simp [look]
  have hdst:∀ (j:Nat) oj d,ops[j]?=some oj→j≠i→oj.dst=some d→o.dst≠some d:=fun j oj d hoj hne hd=>by
   exact ok_dst hok ho (Ne.symm hne) (by unfold dstOf;rw [hoj];simpa using hd)
  refine ⟨by simpa using hI.size,fun j hj=>?_,fun j oj hj hoj q hq=>?_,fun j oj hj hoj q hq=>?_,fun j hj hjlt hl=>?_,fun j u hj=>?_,by rw [put_size];exact hI.tmps,by rw [put_defers'];exact hI.defers,fun t u hu hno=>?_,hw'⟩
  ·rw [set_at hil] at hj
   by_cases e:i=j
   ·subst e;simp
   ·rw [if_neg e] at hj;exact List.mem_cons_of_mem _ (hI.sub j hj)
  ·rcases List.mem_cons.1 hj with rfl | hj
   ·rw [ho] at hoj;cases hoj;exact List.mem_cons_of_mem _ (hI.sub q (hdl q hq))
   ·exact List.mem_cons_of_mem _ (hI.closed j oj hj hoj q hq)
  ·rw [set_at hil] at hj ⊢
   by_cases e2:i=q
   ·rw [if_pos e2]
   ·rw [if_neg e2]
    by_cases e:i=j
    ·subst e;rw [ho] at hoj;cases hoj;exact hdl q hq
    ·rw [if_neg e] at hj;exact hI.closedL j oj hj hoj q hq
  ·rw [set_at hil] at hl
   by_cases e:i=j
   ·rw [if_pos e] at hl;cases hl
   ·rw [if_neg e] at hl
    rcases List.mem_cons.1 hj with rfl | hj
    ·exact absurd rfl e
    ·obtain ⟨h0,u,oj,dj,h1,h2,h3,h4,h5⟩:=hI.late j hj hjlt hl
     exact ⟨h0,u,oj,dj,hpl j u h1 hl,h2,h3,h4,by rw [hlook _ (hdst j oj dj h2 (Ne.symm e) h3)];exact h5⟩
  ·have hjp:(j,u) ∈ pend:=by rw [hlate] at hj;exact (List.mem_filter.1 hj).1
   obtain ⟨oj,h1,h2,_,h4⟩:=hI.ev j u hjp
   obtain ⟨oj',h1',h3'⟩:=hpe j u hj
   rw [h1] at h1';cases h1'
   have hne:j≠i:=fun e=>by subst e;exact hiv h2
   exact ⟨oj,h1,List.mem_cons_of_mem _ h2,h3',fun d hd=>by rw [hlook _ (hdst j oj d h1 hne hd)];exact h4 d hd⟩
  ·rw [put_at (fun d hd'=>by rw [hI.tmps];exact hdn d hd')]
   by_cases e:o.dst=some t
   ·rw [if_pos e];rw [hlookd t e] at hu;exact hu
   ·rw [if_neg e]
    rw [hlook t e] at hu
    refine hI.at_ t u hu fun j hj hl hjv he=>?_
    have hne:i≠j:=fun e=>by subst e;exact hiv hjv
    exact hno j hj (by rw [set_at hil,if_neg hne];exact hl) (List.mem_cons_of_mem _ hjv) he
theorem WP.draws {id:Nat} {l:List (Nat × Value)} {L:List HP} (hm:P.follows .mixedOrders=true) (k:Nat) (h:RW P r g ops Q n D k [] [] l L) (hok:regOk ops=true:=by decide +kernel):WP P r g (.region id ops.toArray true) Q ⟨n,D,l⟩ L:=fun a w ha hw=>by
 refine wpIn_region_any hm ?_
 have hsz:ops.toArray.size=ops.length:=by simp
 refine RW.sound hok ops.toArray.size k [] [] l L _ a _ h ⟨by simp,fun i hi=>?_,fun i o hi=>by simp at hi,fun i o hi=>?_,fun i hi=>by simp at hi,fun i v hi=>by simp at hi,ha.size,ha.defers,fun t v hv _=>ha.at_ t v hv,hw.draw _⟩ ?_
 ·simp [Array.getElem?_replicate] at hi
 ·simp [Array.getElem?_replicate] at hi
 ·simp [List.countP_replicate]
def PendOk (P:Program) (g:World) (ops:List Oper) (Γ:Env) (L:List HP):List (Nat × Value)→Prop
 | []=>True
 | (j,u)::ps=>(∃ o,ops[j]?=some o∧EV P g ops o Γ L u)∧PendOk P g ops Γ L ps
theorem PendOk.all {Γ:Env} {L:List HP}:∀ {ps:List (Nat × Value)},PendOk P g ops Γ L ps→∀ j u,(j,u) ∈ ps→∃ o,ops[j]?=some o∧EV P g ops o Γ L u
 | [],_,_,_,h=>by cases h
 | (k,x)::ps,⟨h1,h2⟩,j,u,h=>by
  rcases List.mem_cons.1 h with e | h
  ·cases e;exact h1
  ·exact PendOk.all h2 j u h
section moves
variable {k : Nat}
theorem RW.e (i:Nat) {d:Nat} {op:Op} {t:TypeId} {pos:String} {aft:Array Edge} {gd:Option (Nat × Bool)} {v:Value} (ho:ops[i]?=some ⟨some d,op,t,pos,aft,gd⟩) (he:EO P g ⟨some d,op,t,pos,aft,gd⟩ ⟨n,D,l⟩ L v) (h:RW P r g ops Q n D k (i::vd) ((i,v)::pend) ((d,v)::l) L)
  (hw:wants ops l gd=some true:=by rfl) (hv:vd.contains i=false:=by rfl) (hr:(deps ⟨some d,op,t,pos,aft,gd⟩).all vd.contains=true:=by rfl) (hd:Nat.blt d n=true:=by rfl) (hnw:noWar ops i=true:=by rfl):RW P r g ops Q n D (k+1) vd pend l L:=
 .inl ⟨i,_,d,v,ho,by simpa using hv,hr,rfl,by simpa using hd,hnw,.inl ⟨hw,he⟩,h⟩
theorem RW.skip (i:Nat) {d:Nat} {op:Op} {t:TypeId} {pos:String} {aft:Array Edge} {gd:Option (Nat × Bool)} (ho:ops[i]?=some ⟨some d,op,t,pos,aft,gd⟩) (h:RW P r g ops Q n D k (i::vd) ((i,.tuple #[])::pend) ((d,.tuple #[])::l) L)
  (hw:wants ops l gd=some false:=by rfl) (hv:vd.contains i=false:=by rfl) (hr:(deps ⟨some d,op,t,pos,aft,gd⟩).all vd.contains=true:=by rfl) (hd:Nat.blt d n=true:=by rfl) (hnw:noWar ops i=true:=by rfl):RW P r g ops Q n D (k+1) vd pend l L:=
 .inl ⟨i,_,d,_,ho,by simpa using hv,hr,rfl,by simpa using hd,hnw,.inr ⟨hw,rfl⟩,h⟩
def RWat (P:Program) (r:Option Nat) (g:World) (ops:List Oper) (Q:Post) (n:Nat) (D:List Deferred) (k:Nat) (vd:List Nat) (pend l:List (Nat × Value)) (L:List HP) (i:Nat):Prop:=
 ∃ o,ops[i]?=some o∧(∀ d,o.dst=some d→d < n)∧wants ops (dropS (dstsOf ops (lateOf ops i pend)) l) o.guard=some true ∧
  HO P r g o ⟨n,D,dropS (dstsOf ops (lateOf ops i pend)) l⟩ L fun v M=>
   (∀ j u,(j,u) ∈ lateOf ops i pend→∃ oj,ops[j]?=some oj∧EV P g ops oj ⟨n,D,(match o.dst with | some d=>(d,v)::l | none=>l)⟩ M u) ∧
   RW P r g ops Q n D k (i::vd) (lateOf ops i pend) (match o.dst with | some d=>(d,v)::l | none=>l) M
def RWall (P:Program) (r:Option Nat) (g:World) (ops:List Oper) (Q:Post) (n:Nat) (D:List Deferred) (k:Nat) (vd:List Nat) (pend l:List (Nat × Value)) (L:List HP):List Nat→Prop
 | []=>True
 | i::is=>RWat P r g ops Q n D k vd pend l L i∧RWall P r g ops Q n D k vd pend l L is
theorem RW.any {is:List Nat} (hn:nextOf ops vd=is) (h:RWall P r g ops Q n D k vd pend l L is) (hne:is.isEmpty=false:=by rfl):RW P r g ops Q n D (k+1) vd pend l L:=by
 subst hn
 refine .inr ⟨fun e=>by rw [e] at hne;simp at hne,fun i hi=>?_⟩
 have key:∀ is,RWall P r g ops Q n D k vd pend l L is→i ∈ is→RWat P r g ops Q n D k vd pend l L i:=by
  intro is
  induction is with
  | nil=>intro _ hi;cases hi
  | cons j is ih=>
   intro h hi
   rcases List.mem_cons.1 hi with rfl | hi
   ·exact h.1
   ·exact ih h.2 hi
 exact key _ h hi
theorem RWat.h {i:Nat} {d:Nat} {op:Op} {t:TypeId} {pos:String} {aft:Array Edge} {gd:Option (Nat × Bool)} {ls:List (Nat × Value)} {l':List (Nat × Value)} (ho:ops[i]?=some ⟨some d,op,t,pos,aft,gd⟩) (hls:lateOf ops i pend=ls) (hl':dropS (dstsOf ops ls) l=l')
  (hh:HO P r g ⟨some d,op,t,pos,aft,gd⟩ ⟨n,D,l'⟩ L fun v M=>PendOk P g ops ⟨n,D,(d,v)::l⟩ M ls∧RW P r g ops Q n D k (i::vd) ls ((d,v)::l) M)
  (hw:wants ops l' gd=some true:=by rfl) (hd:Nat.blt d n=true:=by rfl):RWat P r g ops Q n D k vd pend l L i:=by
 subst hls;subst hl'
 exact ⟨_,ho,(fun d' e=>by cases e;simpa using hd),hw,fun a w Q next ha hs hk=>hh a w Q next ha hs fun v M w' hkk=>hk v M w' ⟨hkk.1.all,hkk.2⟩⟩
theorem RWat.h' {i:Nat} {op:Op} {t:TypeId} {pos:String} {aft:Array Edge} {gd:Option (Nat × Bool)} {ls:List (Nat × Value)} {l':List (Nat × Value)} (ho:ops[i]?=some ⟨none,op,t,pos,aft,gd⟩) (hls:lateOf ops i pend=ls) (hl':dropS (dstsOf ops ls) l=l')
  (hh:HO P r g ⟨none,op,t,pos,aft,gd⟩ ⟨n,D,l'⟩ L fun _ M=>PendOk P g ops ⟨n,D,l⟩ M ls∧RW P r g ops Q n D k (i::vd) ls l M)
  (hw:wants ops l' gd=some true:=by rfl):RWat P r g ops Q n D k vd pend l L i:=by
 subst hls;subst hl'
 exact ⟨_,ho,(fun d' e=>by cases e),hw,fun a w Q next ha hs hk=>hh a w Q next ha hs fun v M w' hkk=>hk v M w' ⟨hkk.1.all,hkk.2⟩⟩
theorem HO.of_eo {o:Oper} {Γ:Env} {L:List HP} {v:Value} {K:Value→List HP→Prop} (he:EO P g o Γ L v) (hK:K v L):HO P r g o Γ L K:=fun a w Q next ha hw hn=>by
 obtain ⟨h1,h2⟩:=he a.eval w (fun x u _ hu=>ev_ok hu ha) hw
 refine ⟨about_FR,?_⟩
 rw [Oper.semAt_eq _ _ _ h2,h1]
 exact hn v L w hK hw
theorem RW.done (h:PO g Q .normal ⟨n,D,l⟩ L) (hn:nextOf ops vd=[]:=by rfl) (hall:(List.range ops.length).all vd.contains=true:=by rfl):RW P r g ops Q n D 0 vd pend l L:=
 ⟨hn,fun i hi=>by simpa using List.all_eq_true.1 hall i (by simpa using hi),h⟩
end moves
end
end Go.SL
