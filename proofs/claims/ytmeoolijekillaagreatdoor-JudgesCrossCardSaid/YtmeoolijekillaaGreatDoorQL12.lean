import Derived.Test.YtmeoolijekillaaGreatDoorQL11
import Derived.Shelf.SlSortCmp.WholeK
import Derived.Shelf.SlSortCmp.Whole1
import Derived.Sort.AssemblyPlain
set_option linter.unusedSimpArgs false
set_option linter.unusedVariables false
set_option linter.unusedSectionVars false
namespace Go.SL
open Go
section
variable {P : Program} {r : Option Nat} {g : World} {Γ : Env} {L M : List HP}
theorem CallV.bun {y v:Value} {args:List Value} {L:List HP} (h:CallV P g y args L fun K R=>K v (L++R)):CallV P g y args [SL.bun L] fun K R=>K v (SL.bun L::R):=by
  intro R K w r hw hT
  obtain ⟨d,nx,w',h1,h2,h3⟩:=h R (fun u M=>u=v∧M=L++R) w r (hw.conv fun _=>stars_bun) ⟨rfl,rfl⟩
  have hm:∀ e w,RetK g (fun u M=>u=v∧M=L++R) e w→RetK g K e w:=by
    rintro e w ⟨u,M,rfl,⟨rfl,rfl⟩,hs⟩
    exact ⟨_,_,rfl,hT,hs.conv fun _=>bun_stars⟩
  refine ⟨d,nx,w',h1,h2,?_⟩
  cases nx <;> simp only at h3 ⊢ <;> first | exact h3.elim | exact h3.mono hm | exact RoundIn.mono h3 hm
theorem e_mne {κ:Type} [DecidableEq κ] {ek:κ→Value} {kvs:List (κ × Value)} {m:Value} {dst:Option Tmp} {t:TypeId} {pos:String} {aft:Array Edge} {gd:Option (Nat × Bool)} {xt yt kt e:TypeId} {x y:Operand} (hT:P.underlying xt=some (.map kt e)) (hx:ev Γ x=some m:=by rfl) (hy:ev Γ y=some (.map none):=by rfl) (hp:Pick L (Mp ek m kvs) M:=by repeat first | exact .z | apply Pick.s) :
    EO P g ⟨dst,.binOp .neq xt x y yt,t,pos,aft,gd⟩ Γ L (.bool true):=
  .of (by simp) fun ρ hρ w hw=>by
    have h1:=hρ x m (by simp [Op.operands]) hx
    have h2:=hρ y _ (by simp [Op.operands]) hy
    obtain ⟨b,es,clock,rfl,_⟩:=hw.mp hp
    show ((do pure (Next.value (← (do eqGuard .neq xt x y (ρ x) (ρ y);binOp .neq xt (ρ x) (ρ y):Sem Value))):Sem Next)).run P w=_
    rw [h1,h2,eqGuard_at_map]
    show ((do pure (Next.value (← (do pure (.bool (!(← Op.equal xt (.map (some b)) (.map none)))):Sem Value))):Sem Next)).run P w=_
    have he:(Op.equal xt (.map (some b)) (.map none)).run P w=.ok false w:=by
      unfold Op.equal;rw [show Op.maxDepth=9999+1 from rfl];unfold Op.equalIn;simp only [Sem.run_bind,run_underlying hT,Result.andThen_ok];rfl
    simp only [Sem.run_bind,he,Result.andThen_ok,Sem.run_pure];rfl
theorem MpIt_Mp {κ:Type} {ek:κ→Value} {m it:Value} {kvs left:List (κ × Value)} {cur:Option (κ × Value)}:∀ S,MpIt ek m it kvs left cur S→Mp ek m kvs S:=fun S h=>by
  obtain ⟨b,i,es,clock,seen,rfl,_,_,hb,_,h3,h4,h5,_⟩:=h
  exact ⟨b,es,clock,rfl,hb,h3,h4,h5⟩
theorem lit_own {α:Type} {z b n:Nat} {E:TypeId} {enc:α→List Value} (he:EncOk z enc) {l:List Value} (xs:List α) (h:xs.flatMap enc=l) (hn:xs.length=n) (hb:n < 9223372036854775808):∀ S,cl b E l S→Sl E z enc (.slice (some ⟨b,0,none⟩) n n) xs S:=fun S hS=>by
  unfold Sl
  have hl:l.length=n * z:=by rw [← h,flat_len he,hn]
  rw [hn]
  refine at_own (At.lit (Nat.le_refl n)) hb (by omega) ?_ S hS
  rw [List.drop_zero,List.take_of_length_le (by omega),h]
theorem hist_all {α:Type} {c:α→Prop} {xs:List α} (h:Hist (fun _ x=>c x) xs):∀ x ∈ xs,c x:=fun x hx=>by
  obtain ⟨A,B,rfl⟩:=List.append_of_mem hx
  exact h A x B rfl
end
end Go.SL
namespace Go.SL
open Go
theorem own_to3 {S:Piece} {E z n i:Nat} {u:Value} {cs:List Value} (h:Own E z u n cs S) (hi:i≤n):Own E z (subV u 0 i (some i) z) i (cs.take (i * z)) S:=by
  rcases h with ⟨rfl,h2,a,h3⟩ | ⟨b,o,c,l,rfl,h2,h3,h4,h5,h6⟩
  · have:i=0:=by omega
    subst this;subst h2;subst h3
    exact .inl ⟨rfl,by simp,a,by simp [subV]⟩
  · rcases Nat.eq_zero_or_pos i with rfl | h0
    · exact .inl ⟨rfl,by simp,_,by simp [subV];rfl⟩
    · have e1:i * z≤c * z:=Nat.mul_le_mul_right z (by omega)
      refine .inr ⟨b,o,i,l,?_,Nat.le_refl _,by omega,h4,by omega,?_⟩
      · simp only [subV,Option.getD_some,if_neg (show ¬ i=0 by omega),Option.map_some,Nat.zero_mul,add_none,Nat.sub_zero,Nat.add_zero]
      · rw [h6,List.take_take,Nat.min_eq_left (Nat.mul_le_mul_right _ hi)]
theorem sl_to3 {α:Type} {S:Piece} {E z i:Nat} {u:Value} {enc:α→List Value} {xs:List α} (he:EncOk z enc) (h:Sl E z enc u xs S) (hi:i≤xs.length):Sl E z enc (subV u 0 i (some i) z) (xs.take i) S:=by
  have:=own_to3 h hi
  unfold Sl
  rw [List.length_take,Nat.min_eq_left hi,← flat_take he];exact this
def RdM {κ:Type} (A:HP) (ek:κ→Value) (m:Value) (kvs:List (κ × Value)):Prop:=∀ S,A S→∃ b es clock,m=.map (some b)∧S b=some (.map (List.toArray es) clock)∧ents ek es kvs
theorem mp_rdm {κ:Type} {ek:κ→Value} {m:Value} {kvs:List (κ × Value)}:RdM (Mp ek m kvs) ek m kvs:=fun _ ⟨b,es,clock,h1,h2,h3,_⟩=>⟨b,es,clock,h1,h2,h3⟩
theorem mpit_rdm {κ:Type} {ek:κ→Value} {m it:Value} {kvs left:List (κ × Value)} {cur:Option (κ × Value)}:RdM (MpIt ek m it kvs left cur) ek m kvs:=fun _ ⟨b,_,es,clock,_,h1,_,_,h2,_,h3,_⟩=>⟨b,es,clock,h1,h2,h3⟩
section
variable {P : Program} {r : Option Nat} {g : World} {Γ : Env} {L M : List HP} {dst : Option Tmp} {t : TypeId} {pos : String} {aft : Array Edge} {gd : Option (Nat × Bool)}
variable {κ : Type} [DecidableEq κ] {kt : TypeId} {d : TypeDesc} {ek : κ → Value} {kvs : List (κ × Value)} {m : Value} {A : HP}
theorem Sat.rdm {w:World} (h:Sat g L w) (hA:RdM A ek m kvs) (hp:Pick L A M):∃ b es clock,m=.map (some b)∧w.heap[b]?=some (.map (List.toArray es) clock)∧ents ek es kvs:=by
  obtain ⟨S1,S2,_,h1,_,h2,_⟩:=hp.to h.heap
  obtain ⟨b,es,clock,e1,e2,e3⟩:=hA _ h2
  exact ⟨b,es,clock,e1,h1 _ _ e2,e3⟩
theorem em_lookup {x i:Operand} {T e:TypeId} {k:κ} {z:Value} (ht:P.underlying T=some (.map kt e)) (hk:KeyOk P kt d ek) (hz:(P.info? e).bind (·.zero)=some z) (hA:RdM A ek m kvs) (hx:ev Γ x=some m:=by rfl) (hi:ev Γ i=some (ek k):=by rfl) (hp:Pick L A M:=by repeat first | exact .z | apply Pick.s) :
    EO P g ⟨dst,.lookup T x i false,t,pos,aft,gd⟩ Γ L ((mget kvs k).getD z):=
  .of (by simp) fun ρ hρ w hw=>by
    obtain ⟨b,es,clock,rfl,hb,h3⟩:=hw.rdm hA hp
    simp only [execOp,hρ x _ (by simp [Op.operands]) hx,hρ i _ (by simp [Op.operands]) hi,Instr.lookup,Sem.run_bind,run_underlying ht,Result.andThen_ok,run_getObj hb (by simp),Sem.run_pure,run_checkKey hk,run_findKey hk k h3]
    cases hm:midx kvs k with
    | none=>simp [midx_none.1 hm,run_zeroValue hz]
    | some j=>obtain ⟨v,_,h2⟩:=midx_some hm;simp [h2]
theorem em_lookup2 {x i:Operand} {T e:TypeId} {k:κ} {z:Value} (ht:P.underlying T=some (.map kt e)) (hk:KeyOk P kt d ek) (hz:(P.info? e).bind (·.zero)=some z) (hA:RdM A ek m kvs) (hx:ev Γ x=some m:=by rfl) (hi:ev Γ i=some (ek k):=by rfl) (hp:Pick L A M:=by repeat first | exact .z | apply Pick.s) :
    EO P g ⟨dst,.lookup T x i true,t,pos,aft,gd⟩ Γ L (.tuple #[(mget kvs k).getD z,.bool (mget kvs k).isSome]):=
  .of (by simp) fun ρ hρ w hw=>by
    obtain ⟨b,es,clock,rfl,hb,h3⟩:=hw.rdm hA hp
    simp only [execOp,hρ x _ (by simp [Op.operands]) hx,hρ i _ (by simp [Op.operands]) hi,Instr.lookup,Sem.run_bind,run_underlying ht,Result.andThen_ok,run_getObj hb (by simp),Sem.run_pure,run_checkKey hk,run_findKey hk k h3]
    cases hm:midx kvs k with
    | none=>simp [midx_none.1 hm,run_zeroValue hz]
    | some j=>obtain ⟨v,_,h2⟩:=midx_some hm;simp [h2]
end
end Go.SL
namespace Go.SL
open Go
structure EntV (κ α:Type) where
 key:κ
 sv:SV
 ws:List α
section
variable {κ α : Type} [DecidableEq κ]
def getS (l:List (κ × List α)) (k:κ):Option (List α):=(l.find? fun p=>decide (p.1=k)).map (·.2)
def setS (l:List (κ × List α)) (k:κ) (ws:List α):List (κ × List α):=match l.findIdx? (fun p=>decide (p.1=k)) with
 | some i=>l.set i (k,ws)
 | none=>l++[(k,ws)]
def kvE (e:EntV κ α):κ × Value:=(e.key,e.sv.v)
def stE (e:EntV κ α):κ × List α:=(e.key,e.ws)
def findE (es:List (EntV κ α)) (k:κ):Option (EntV κ α):=es.find? fun e=>decide (e.key=k)
def svE (es:List (EntV κ α)) (k:κ):SV:=match findE es k with
 | some e=>e.sv
 | none=>⟨none,0,0⟩
def wsE (es:List (EntV κ α)) (k:κ):List α:=match findE es k with
 | some e=>e.ws
 | none=>[]
def setE (es:List (EntV κ α)) (k:κ) (sv:SV) (ws:List α):List (EntV κ α):=match es.findIdx? (fun e=>decide (e.key=k)) with
 | some i=>es.set i ⟨k,sv,ws⟩
 | none=>es++[⟨k,sv,ws⟩]
def delE (es:List (EntV κ α)) (k:κ):List (EntV κ α):=es.eraseP fun e=>decide (e.key=k)
theorem mget_kvE (es:List (EntV κ α)) (k:κ):mget (es.map kvE) k=(findE es k).map fun e=>e.sv.v:=by
 unfold mget findE
 induction es with
 | nil=>rfl
 | cons e es ih=>
  simp only [List.map_cons,List.find?_cons,kvE]
  by_cases h:e.key=k
  ·simp [h]
  ·simp only [h,decide_false];exact ih
theorem mget_svE (es:List (EntV κ α)) (k:κ):(mget (es.map kvE) k).getD (.slice none 0 0)=(svE es k).v:=by
 rw [mget_kvE];unfold svE
 cases findE es k <;> rfl
theorem mset_kvE (es:List (EntV κ α)) (k:κ) (sv:SV) (ws:List α):mset (es.map kvE) k sv.v=(setE es k sv ws).map kvE:=by
 have h:midx (es.map kvE) k=es.findIdx? (fun e=>decide (e.key=k)):=by
  unfold midx;rw [List.findIdx?_map];rfl
 unfold mset setE
 rw [h]
 cases List.findIdx? (fun e:EntV κ α=>decide (e.key=k)) es with
 | none=>simp [kvE]
 | some i=>simp [kvE,List.map_set]
theorem setE_st (es:List (EntV κ α)) (k:κ) (sv:SV) (ws:List α):(setE es k sv ws).map stE=setS (es.map stE) k ws:=by
 have h:(es.map stE).findIdx? (fun p=>decide (p.1=k))=es.findIdx? (fun e=>decide (e.key=k)):=by
  rw [List.findIdx?_map];rfl
 unfold setS setE
 rw [h]
 cases List.findIdx? (fun e:EntV κ α=>decide (e.key=k)) es with
 | none=>simp [stE]
 | some i=>simp [stE,List.map_set]
theorem getS_st (es:List (EntV κ α)) (k:κ):getS (es.map stE) k=(findE es k).map (·.ws):=by
 unfold getS findE
 induction es with
 | nil=>rfl
 | cons e es ih=>
  simp only [List.map_cons,List.find?_cons,stE]
  by_cases h:e.key=k
  ·simp [h]
  ·simp only [h,decide_false];exact ih
theorem wsE_st (es:List (EntV κ α)) (k:κ):wsE es k=(getS (es.map stE) k).getD []:=by
 rw [getS_st];unfold wsE
 cases findE es k <;> rfl
theorem keys_st (es:List (EntV κ α)):es.map (·.key)=(es.map stE).map (·.1):=by simp [stE]
theorem findE_mem {es:List (EntV κ α)} (hn:(es.map (·.key)).Nodup) {e:EntV κ α} (he:e ∈ es):findE es e.key=some e:=by
 unfold findE
 induction es with
 | nil=>cases he
 | cons x es ih=>
  rw [List.map_cons] at hn
  obtain ⟨h1,h2⟩:=List.nodup_cons.1 hn
  rcases List.mem_cons.1 he with rfl | he
  ·simp
  ·rw [List.find?_cons]
   have:x.key≠e.key:=fun h=>h1 (h ▸ List.mem_map.2 ⟨e,he,rfl⟩)
   simp only [this,decide_false]
   exact ih h2 he
theorem findE_key {es:List (EntV κ α)} {k:κ} {e:EntV κ α} (h:findE es k=some e):e ∈ es∧e.key=k:=by
 refine ⟨List.mem_of_find?_eq_some h,?_⟩
 have:=List.find?_some h
 simpa using this
theorem getS_mem {l:List (κ × List α)} (hn:(l.map (·.1)).Nodup) {p:κ × List α} (h:p ∈ l):getS l p.1=some p.2:=by
 unfold getS
 induction l with
 | nil=>cases h
 | cons x l ih=>
  rw [List.map_cons] at hn
  obtain ⟨h1,h2⟩:=List.nodup_cons.1 hn
  rw [List.find?_cons]
  rcases List.mem_cons.1 h with rfl | h
  ·simp
  ·have:x.1≠p.1:=fun e=>h1 (e ▸ List.mem_map.2 ⟨p,h,rfl⟩)
   simp only [this,decide_false]
   exact ih h2 h
theorem getS_some {l:List (κ × List α)} {k:κ} {ws:List α} (h:getS l k=some ws):(k,ws) ∈ l:=by
 unfold getS at h
 rw [Option.map_eq_some_iff] at h
 obtain ⟨p,h1,rfl⟩:=h
 have h2:=List.find?_some h1
 have h3:=List.mem_of_find?_eq_some h1
 simp at h2;subst h2
 exact h3
theorem setS_get (l:List (κ × List α)) (k:κ) (ws:List α) (j:κ):getS (setS l k ws) j=if j=k then some ws else getS l j:=by
 unfold setS getS
 induction l with
 | nil=>
  by_cases h:j=k
  ·subst h;simp
  ·simp [h,Ne.symm h]
 | cons x l ih=>
  rw [List.findIdx?_cons]
  by_cases hx:x.1=k
  ·simp only [hx,decide_true,if_true,List.set_cons_zero,List.find?_cons]
   by_cases h:j=k
   ·subst h;simp
   ·have h':¬ k=j:=fun e=>h e.symm
    simp [h,h']
  ·simp only [hx,decide_false,Bool.false_eq_true,if_false]
   cases hf:List.findIdx? (fun p:κ × List α=>decide (p.1=k)) l with
   | none=>
    rw [hf] at ih
    simp only [Option.map_none,List.cons_append,List.find?_cons]
    by_cases h:x.1=j
    ·have:j≠k:=fun e=>hx (h.trans e)
     simp [h,this]
    ·simp only [h,decide_false];exact ih
   | some i=>
    rw [hf] at ih
    simp only [Option.map_some,List.set_cons_succ,List.find?_cons]
    by_cases h:x.1=j
    ·have:j≠k:=fun e=>hx (h.trans e)
     simp [h,this]
    ·simp only [h,decide_false];exact ih
theorem setS_keys (l:List (κ × List α)) (k:κ) (ws:List α):∀ j,j ∈ (setS l k ws).map (·.1)↔j=k∨j ∈ l.map (·.1):=by
 intro j
 have key:∀ (l:List (κ × List α)) (j:κ),j ∈ l.map (·.1)↔(getS l j).isSome=true:=by
  intro l j
  unfold getS
  rw [Option.isSome_map,List.find?_isSome]
  simp
 rw [key,key,setS_get]
 by_cases h:j=k <;> simp [h]
theorem setS_nodup {l:List (κ × List α)} (hn:(l.map (·.1)).Nodup) (k:κ) (ws:List α):((setS l k ws).map (·.1)).Nodup:=by
 unfold setS
 split
 ·rename_i i hi
  have:(l.set i (k,ws)).map (·.1)=l.map (·.1):=by
   rw [List.map_set]
   apply List.ext_getElem?
   intro j
   rw [List.getElem?_set]
   obtain ⟨h1,h2,_⟩:=List.findIdx?_eq_some_iff_getElem.1 hi
   split
   ·rename_i e;subst e
    rw [if_pos (by simpa using h1)]
    simp only [List.getElem?_map,List.getElem?_eq_getElem h1,Option.map_some]
    simp at h2;rw [h2]
   ·rfl
  rw [this];exact hn
 ·rename_i hi
  rw [List.map_append,List.nodup_append]
  refine ⟨hn,by simp,?_⟩
  intro a ha b hb e
  simp at hb;subst hb;subst e
  obtain ⟨p,hp,rfl⟩:=List.mem_map.1 ha
  have:=List.findIdx?_eq_none_iff.1 hi p hp
  simp at this
theorem delE_keys {es:List (EntV κ α)} {k:κ} {e:EntV κ α} (h:findE es k=some e):∃ A B,es=A++e::B∧delE es k=A++B∧(∀ sv ws,setE es k sv ws=A++⟨k,sv,ws⟩::B):=by
 unfold findE at h
 induction es with
 | nil=>simp at h
 | cons x es ih=>
  rw [List.find?_cons] at h
  by_cases e1:x.key=k
  ·simp [e1] at h;subst h
   exact ⟨[],es,rfl,by simp [delE,e1],by intro sv ws;simp [setE,List.findIdx?_cons,e1]⟩
  ·simp [e1] at h
   obtain ⟨A,B,h2,h3,h4⟩:=ih (by simpa using h)
   refine ⟨x::A,B,by simp [h2],by simp only [delE,List.eraseP_cons,e1,decide_false,cond_false,List.cons_append] at h3 ⊢;rw [h3],?_⟩
   intro sv ws
   have:=h4 sv ws
   unfold setE at this ⊢
   rw [List.findIdx?_cons]
   simp only [e1,decide_false,Bool.false_eq_true,if_false]
   cases hf:List.findIdx? (fun e:EntV κ α=>decide (e.key=k)) es with
   | none=>rw [hf] at this;simp only at this;simp [this]
   | some i=>rw [hf] at this;simp only at this;simp [this]
theorem delE_none {es:List (EntV κ α)} {k:κ} (h:findE es k=none):delE es k=es∧(∀ sv ws,setE es k sv ws=es++[⟨k,sv,ws⟩]):=by
 unfold findE at h
 refine ⟨?_,?_⟩
 ·unfold delE
  rw [List.eraseP_of_forall_not]
  intro x hx
  have:=List.find?_eq_none.1 h x hx
  simpa using this
 ·intro sv ws
  unfold setE
  rw [List.findIdx?_eq_none_iff.2 (fun x hx=>by have:=List.find?_eq_none.1 h x hx;simpa using this)]
def Ents (E z:Nat) (enc:α→List Value) (es:List (EntV κ α)):HP:=bun (es.map fun e=>Sl E z enc e.sv.v e.ws)
variable {E z : Nat} {enc : α → List Value}
theorem Ents_nil {L:List HP} {S:Piece} (h:stars L S):stars (Ents E z enc ([]:List (EntV κ α))::L) S:=bun_stars (L:=[]) h
theorem Ents_out {es A B:List (EntV κ α)} {e:EntV κ α} (h:es=A++e::B):∀ S,Ents E z enc es S→∃ _:Unit,stars [Sl E z enc e.sv.v e.ws,Ents E z enc (A++B)] S:=fun S hS=>by
 subst h
 refine ⟨(),?_⟩
 unfold Ents bun at hS
 rw [List.map_append,List.map_cons] at hS
 have h1:=stars_unmove hS
 refine stars_cons (fun S h=>?_) h1
 show stars [bun ((A++B).map _)] S
 rw [List.map_append]
 exact bun_stars (M:=[]) (S:=S) (by simpa using h)
theorem Ents_in {A B:List (EntV κ α)} {e:EntV κ α}:∀ S,stars [Sl E z enc e.sv.v e.ws,Ents E z enc (A++B)] S→Ents E z enc (A++e::B) S:=fun S hS=>by
 unfold Ents bun
 rw [List.map_append,List.map_cons]
 refine stars_move ?_
 refine stars_cons (fun S h=>?_) hS
 have h':stars (bun ((A++B).map _)::[]) S:=h
 rw [List.map_append] at h'
 have:=stars_bun h'
 simpa using this
theorem Ents_take (es:List (EntV κ α)) (k:κ):∀ S,Ents E z enc es S→∃ _:Unit,stars [Sl E z enc (svE es k).v (wsE es k),Ents E z enc (delE es k)] S:=fun S hS=>by
 cases hf:findE es k with
 | none=>
  refine ⟨(),?_⟩
  rw [(delE_none hf).1]
  unfold svE wsE
  rw [hf]
  exact nil_sl (stars_one' hS)
 | some e=>
  obtain ⟨A,B,h1,h2,_⟩:=delE_keys hf
  rw [h2]
  unfold svE wsE
  rw [hf]
  exact Ents_out h1 S hS
where
 stars_one' {A:HP} {S:Piece} (h:A S):stars [A] S:=⟨S,fun _=>none,fun _=>.inr rfl,le_refl _,(fun _ _ h=>by cases h),h,trivial⟩
theorem Ents_put (es:List (EntV κ α)) (k:κ) (sv:SV) (ws:List α):∀ S,stars [Sl E z enc sv.v ws,Ents E z enc (delE es k)] S→Ents E z enc (setE es k sv ws) S:=fun S hS=>by
 cases hf:findE es k with
 | none=>
  obtain ⟨h1,h2⟩:=delE_none hf
  rw [h2];rw [h1] at hS
  have:=Ents_in (A:=es) (B:=[]) (e:=⟨k,sv,ws⟩) S (by simpa using hS)
  simpa using this
 | some e=>
  obtain ⟨A,B,_,h2,h3⟩:=delE_keys hf
  rw [h3];rw [h2] at hS
  exact Ents_in (e:=⟨k,sv,ws⟩) S hS
theorem ents_rl {es:List (EntV κ α)} {e:EntV κ α} (h:e ∈ es):RL (Ents E z enc es) z enc e.sv.v e.ws:=fun S hS=>by
 obtain ⟨A,B,rfl⟩:=List.append_of_mem h
 obtain ⟨_,S1,S2,_,h1,_,h2,_⟩:=Ents_out (E:=E) (z:=z) (enc:=enc) rfl S hS
 rcases sl_rl S1 h2 with h | ⟨b,o,c,l,t,a1,a2,a3,a4,a5⟩
 ·exact .inl h
 ·exact .inr ⟨b,o,c,l,t,a1,a2,h1 _ _ a3,a4,a5⟩
end
end Go.SL
namespace Go.SL
open Go Go.Proofs Go.Sort Go.Shelf
end Go.SL
namespace Go.SL
open Go Go.Proofs Go.Sort
def u32C (n:UInt32):List Value:=[.int .u32 n.toNat]
theorem u32E:EncOk 1 u32C:=⟨fun _=>rfl,fun _=>rfl⟩
def lt32 (x y:UInt32):Bool:=decide (x < y)
theorem swo32:SWO lt32 where
  irrefl x:=by simp [lt32,UInt32.lt_iff_toNat_lt]
  trans x y z h1 h2:=by simp only [lt32,decide_eq_true_eq,UInt32.lt_iff_toNat_lt] at *;omega
  ntrans x y z h1 h2:=by simp only [lt32,decide_eq_false_iff_not,UInt32.lt_iff_toNat_lt] at *;omega
theorem swp_size {α:Type} [Inhabited α] (d:Array α) (i j:Nat):(swp d i j).size=d.size:=by simp [swp]
section
variable {P : Program} {r : Option Nat} {g : World} {Γ : Env} {L M : List HP} {dst : Option Tmp} {t : TypeId} {pos : String} {aft : Array Edge} {gd : Option (Nat × Bool)} {x y : Operand} {xt yt : TypeId}
theorem ea_ia {i:Operand} {s E z j:Nat} {u:Value} {d:Array UInt32} (hs:slOf P s=some (E,1,z)) (hx:ev Γ x=some u:=by rfl) (hi:ev Γ i=some (.int .i64 (j:Nat)):=by rfl) (hp:Pick L (Sl E 1 u32C u d.toList) M:=by repeat first | exact .z | apply Pick.s)
    (hj:j < d.size:=by first | omega | (simp only [swp_size,Array.size_setIfInBounds];omega)):EO P g ⟨dst,.indexAddr s x i,t,pos,aft,gd⟩ Γ L (elA u (j * 1)):=
  el_ia (xs:=d.toList) (enc:=u32C) hs sl_rl (by rw [Array.length_toList];exact hj) hx hi hp
theorem get_arr {d:Array UInt32} {j:Nat} (h:j < d.size):d.toList[j]?=some d[j]!:=by
  rw [Array.getElem?_toList,Array.getElem?_eq_getElem h,getElem!_pos d j h]
theorem ea_load {T E j:Nat} {u:Value} {d:Array UInt32} (ht:aggOf P T=some none) (hx:ev Γ x=some (elA u (j * 1)):=by rfl) (hp:Pick L (Sl E 1 u32C u d.toList) M:=by repeat first | exact .z | apply Pick.s)
    (hj:j < d.size:=by first | omega | (simp only [swp_size,Array.size_setIfInBounds];omega)):EO P g ⟨dst,.load T x,t,pos,aft,gd⟩ Γ L (.int .u32 (d[j]!).toNat):=
  el_load0 (xs:=d.toList) (a:=d[j]!) ht u32E sl_rl (get_arr hj) (by decide) hx rfl hp
theorem ha_store {T E j:Nat} {v:Operand} {u:Value} {d:Array UInt32} {a:UInt32} {N:List HP} {K:Value→List HP→Prop} (hT:szOf P T=some 1) (hK:K (.tuple #[]) N) (hx:ev Γ x=some (elA u (j * 1)):=by rfl) (hv:ev Γ v=some (.int .u32 a.toNat):=by rfl)
    (hp:Put L (Sl E 1 u32C u d.toList) (Sl E 1 u32C u (d.setIfInBounds j a).toList) N:=by repeat first | exact .z | apply Put.s) (hj:j < d.size:=by first | omega | (simp only [swp_size,Array.size_setIfInBounds];omega)):HO P r g ⟨dst,.store T x v,t,pos,aft,gd⟩ Γ L K:=
  hl_store (xs:=d.toList) (enc:=u32C) (E:=E) a hT u32E (by rw [Array.length_toList];exact hj) hK (by decide) hx hv rfl (by rw [← Array.toList_setIfInBounds];exact hp)
theorem e_addN {a b:Nat} (hx:ev Γ x=some (.int .i64 a):=by rfl) (hy:ev Γ y=some (.int .i64 b):=by rfl) (h:a+b≤4611686018427387904:=by omega):EO P g ⟨dst,.binOp .add xt x y yt,t,pos,aft,gd⟩ Γ L (.int .i64 ((a+b:Nat):Int)):=
  e_add hx hy (by rw [w_i64 (by omega) (by omega)];omega)
theorem e_subN {a b:Nat} (hx:ev Γ x=some (.int .i64 a):=by rfl) (hy:ev Γ y=some (.int .i64 b):=by rfl) (hle:b≤a:=by omega) (h:a≤4611686018427387904:=by omega):EO P g ⟨dst,.binOp .sub xt x y yt,t,pos,aft,gd⟩ Γ L (.int .i64 ((a - b:Nat):Int)):=
  e_sub hx hy (by rw [w_i64 (by omega) (by omega)];omega)
theorem e_mulN {a b:Nat} (hx:ev Γ x=some (.int .i64 a):=by rfl) (hy:ev Γ y=some (.int .i64 b):=by rfl) (h:a * b≤4611686018427387904:=by omega):EO P g ⟨dst,.binOp .mul xt x y yt,t,pos,aft,gd⟩ Γ L (.int .i64 ((a * b:Nat):Int)):=
  e_mul hx hy (by rw [← Int.natCast_mul];exact w_i64 (by omega) (by omega))
theorem e_quoN {a b:Nat} (hx:ev Γ x=some (.int .i64 a):=by rfl) (hy:ev Γ y=some (.int .i64 b):=by rfl) (hb:0 < b:=by decide) (h:a≤4611686018427387904:=by omega):EO P g ⟨dst,.binOp .quo xt x y yt,t,pos,aft,gd⟩ Γ L (.int .i64 ((a / b:Nat):Int)):=
  e_quo hx hy (by omega) (by
    have h2:=Nat.div_le_self a b
    rw [Int.tdiv_eq_ediv_of_nonneg (by omega),← Int.natCast_ediv]
    generalize a / b=q at h2 ⊢
    exact w_i64 (by omega) (by omega))
end
section
variable {d : Array UInt32} {a b i j : Nat}
abbrev lt:=lt32
theorem ins_step (h1:a < j) (h2:lt32 d[j]! d[j - 1]! = true):insInner lt32 a j d=insInner lt32 a (j - 1) (swp d j (j - 1)):=by
  obtain ⟨k,rfl⟩:∃ k,j=k+1:=⟨j - 1,by omega⟩
  rw [Nat.add_sub_cancel] at h2 ⊢
  rw [insInner,if_pos (by simp [h2];omega)]
theorem ins_stop (h:a < j→lt32 d[j]! d[j - 1]! = false):insInner lt32 a j d=d:=by
  cases j with
  | zero=>rfl
  | succ k=>
    rw [Nat.add_sub_cancel] at h
    rw [insInner,if_neg]
    intro hh
    simp only [Bool.and_eq_true,decide_eq_true_eq] at hh
    rw [h hh.1] at hh;cases hh.2
theorem insO_step (h:i < b):insOuter lt32 a b i d=insOuter lt32 a b (i+1) (insInner lt32 a i d):=by rw [insOuter,if_pos h]
theorem insO_stop (h:¬ i < b):insOuter lt32 a b i d=d:=by rw [insOuter,if_neg h]
theorem sd_stop {hi first root:Nat} (h:2 * root+1≥hi):siftDown lt32 hi first root d=d:=by rw [siftDown,dif_pos h]
theorem sd_r {hi first root:Nat} (h:¬ 2 * root+1≥hi) (h2:2 * root+1+1 < hi) (h3:lt32 d[first+(2 * root+1)]! d[first+(2 * root+1)+1]! = true) :
    siftDown lt32 hi first root d=if lt32 d[first+root]! d[first+(2 * root+1+1)]! = true then siftDown lt32 hi first (2 * root+1+1) (swp d (first+root) (first+(2 * root+1+1))) else d:=by
  rw [siftDown,dif_neg h,if_pos (by simp [h2,h3])]
  have h4:2 * root+2 < hi:=h2
  cases e:lt32 d[first+root]! d[first+(2 * root+1+1)]! with
  | true=>
    rw [if_neg (by simp),dif_pos h4,if_pos rfl]
  | false=>
    rw [if_pos (by simp),if_neg (by simp)]
theorem sd_l {hi first root:Nat} (h:¬ 2 * root+1≥hi) (h3:2 * root+1+1 < hi→lt32 d[first+(2 * root+1)]! d[first+(2 * root+1)+1]! = false) :
    siftDown lt32 hi first root d=if lt32 d[first+root]! d[first+(2 * root+1)]! = true then siftDown lt32 hi first (2 * root+1) (swp d (first+root) (first+(2 * root+1))) else d:=by
  rw [siftDown,dif_neg h,if_neg (by intro hh;simp only [Bool.and_eq_true,decide_eq_true_eq] at hh;rw [h3 hh.1] at hh;cases hh.2)]
  cases e:lt32 d[first+root]! d[first+(2 * root+1)]! <;> simp
theorem sd_size {hi first:Nat}:∀ (n root:Nat) (d:Array UInt32),hi - root≤n→(siftDown lt32 hi first root d).size=d.size
  | 0,root,d,h=>by rw [sd_stop (by omega)]
  | n+1,root,d,h=>by
    by_cases h1:2 * root+1≥hi
    · rw [sd_stop h1]
    · by_cases h2:2 * root+1+1 < hi∧lt32 d[first+(2 * root+1)]! d[first+(2 * root+1)+1]! = true
      · rw [sd_r h1 h2.1 h2.2]
        split
        · rw [sd_size n _ _ (by omega),swp_size]
        · rfl
      · rw [sd_l h1 (fun h=>by cases e:lt32 d[first+(2 * root+1)]! d[first+(2 * root+1)+1]! with
          | true=>exact absurd ⟨h,e⟩ h2
          | false=>rfl)]
        split
        · rw [sd_size n _ _ (by omega),swp_size]
        · rfl
theorem sdn_size {hi first root:Nat} {d:Array UInt32}:(siftDown lt32 hi first root d).size=d.size:=sd_size _ _ _ (Nat.le_refl _)
theorem rev_step (h:i < j):reverseLoop i j d=reverseLoop (i+1) (j - 1) (swp d i j):=by rw [reverseLoop,if_pos h]
theorem rev_stop (h:¬ i < j):reverseLoop i j d=d:=by rw [reverseLoop,if_neg h]
theorem nt {b:Bool} (h:(!b)=true):b=false:=by cases b <;> simp_all
theorem nf {b:Bool} (h:(!b)=false):b=true:=by cases b <;> simp_all
theorem ord_t {sw:Nat} (h:lt32 d[b]! d[a]! = true):order2 lt32 d a b sw=(b,a,sw+1):=by rw [order2,if_pos h]
theorem ord_f {sw:Nat} (h:lt32 d[b]! d[a]! = false):order2 lt32 d a b sw=(a,b,sw):=by rw [order2,if_neg (by rw [h];simp)]
theorem ord_lt {n sw:Nat} (ha:a < n) (hb:b < n):(order2 lt32 d a b sw).1 < n∧(order2 lt32 d a b sw).2.1 < n∧(order2 lt32 d a b sw).2.2≤sw+1:=by
  cases h:lt32 d[b]! d[a]! with
  | true=>rw [ord_t h];exact ⟨hb,ha,Nat.le_refl _⟩
  | false=>rw [ord_f h];exact ⟨ha,hb,Nat.le_succ _⟩
theorem med_lt {n sw c:Nat} (ha:a < n) (hb:b < n) (hc:c < n):(median lt32 d a b c sw).1 < n∧(median lt32 d a b c sw).2≤sw+3:=by
  obtain ⟨h1,h2,h3⟩:=ord_lt (d:=d) (sw:=sw) ha hb
  obtain ⟨h4,h5,h6⟩:=ord_lt (d:=d) (sw:=(order2 lt32 d a b sw).2.2) h2 hc
  obtain ⟨h7,h8,h9⟩:=ord_lt (d:=d) (sw:=(order2 lt32 d (order2 lt32 d a b sw).2.1 c (order2 lt32 d a b sw).2.2).2.2) h1 h4
  exact ⟨h8,by show (order2 lt32 d _ _ _).2.2≤_;omega⟩
def cpH (n:Nat):Hint:=if n=0 then .increasing else if n=12 then .decreasing else .unknown
def hv:Hint→Nat
  | .unknown=>0
  | .increasing=>1
  | .decreasing=>2
theorem cp1 (h:¬ b - a≥8):choosePivot lt32 d a b=(a+(b - a) / 4 * 2,cpH 0):=by unfold choosePivot;simp only [h,if_false];rfl
theorem cp2 (h:b - a≥8) (h2:¬ b - a≥50):choosePivot lt32 d a b=((median lt32 d (a+(b - a) / 4 * 1) (a+(b - a) / 4 * 2) (a+(b - a) / 4 * 3) 0).1,cpH (median lt32 d (a+(b - a) / 4 * 1) (a+(b - a) / 4 * 2) (a+(b - a) / 4 * 3) 0).2):=by unfold choosePivot;simp only [h,h2,if_true,if_false];rfl
theorem cp3 (h:b - a≥8) (h2:b - a≥50) {r1 r2 r3 r4:Nat × Nat} (e1:medianAdjacent lt32 d (a+(b - a) / 4 * 1) 0=r1) (e2:medianAdjacent lt32 d (a+(b - a) / 4 * 2) r1.2=r2) (e3:medianAdjacent lt32 d (a+(b - a) / 4 * 3) r2.2=r3) (e4:median lt32 d r1.1 r2.1 r3.1 r3.2=r4):choosePivot lt32 d a b=(r4.1,cpH r4.2):=by
  subst e1 e2 e3 e4
  unfold choosePivot;simp only [h,h2,if_true];rfl
theorem up_step {p:UInt32→Bool} (h:i≤j) (h2:p d[i]! = true):scanUp p d j i=scanUp p d j (i+1):=by rw [scanUp,if_pos (by simp [h,h2])]
theorem up_stop {p:UInt32→Bool} (h:i≤j→p d[i]! = false):scanUp p d j i=i:=by
  rw [scanUp,if_neg]
  intro hh
  simp only [Bool.and_eq_true,decide_eq_true_eq] at hh
  rw [h hh.1] at hh;cases hh.2
theorem down_step {p:UInt32→Bool} (h0:1≤j) (h:i≤j) (h2:p d[j]! = true):scanDown p d i j=scanDown p d i (j - 1):=by
  obtain ⟨k,rfl⟩:∃ k,j=k+1:=⟨j - 1,by omega⟩
  rw [scanDown,if_pos (by simp [h,h2])];rfl
theorem down_stop {p:UInt32→Bool} (h:i≤j→p d[j]! = false):scanDown p d i j=j:=by
  cases j with
  | zero=>rfl
  | succ k=>
    rw [scanDown,if_neg]
    intro hh
    simp only [Bool.and_eq_true,decide_eq_true_eq] at hh
    rw [h hh.1] at hh;cases hh.2
theorem part_stop {i2 j2:Nat} (e1:scanUp (fun x=>lt32 x d[a]!) d j i=i2) (e2:scanDown (fun x=>!lt32 x d[a]!) d i2 j=j2) (h:i2 > j2):partLoop lt32 a i j d=(j2,d):=by
  subst e1 e2;rw [partLoop];simp only [h,if_true]
theorem part_step {i2 j2:Nat} (e1:scanUp (fun x=>lt32 x d[a]!) d j i=i2) (e2:scanDown (fun x=>!lt32 x d[a]!) d i2 j=j2) (h:¬ i2 > j2) (hg:(j2 - 1)+1 - (i2+1) < j+1 - i):partLoop lt32 a i j d=partLoop lt32 a (i2+1) (j2 - 1) (swp d i2 j2):=by
  subst e1 e2;rw [partLoop];simp only [h,if_false];rw [dif_pos hg]
theorem parte_stop {i2 j2:Nat} (e1:scanUp (fun x=>!lt32 d[a]! x) d j i=i2) (e2:scanDown (fun x=>lt32 d[a]! x) d i2 j=j2) (h:i2 > j2):partEqLoop lt32 a i j d=(i2,d):=by
  subst e1 e2;rw [partEqLoop];simp only [h,if_true]
theorem parte_step {i2 j2:Nat} (e1:scanUp (fun x=>!lt32 d[a]! x) d j i=i2) (e2:scanDown (fun x=>lt32 d[a]! x) d i2 j=j2) (h:¬ i2 > j2) (hg:(j2 - 1)+1 - (i2+1) < j+1 - i):partEqLoop lt32 a i j d=partEqLoop lt32 a (i2+1) (j2 - 1) (swp d i2 j2):=by
  subst e1 e2;rw [partEqLoop];simp only [h,if_false];rw [dif_pos hg]
theorem partition_t {pv i1 j1:Nat} {d0:Array UInt32} (e0:swp d a pv=d0) (e1:scanUp (fun x=>lt32 x d0[a]!) d0 (b - 1) (a+1)=i1) (e2:scanDown (fun x=>!lt32 x d0[a]!) d0 i1 (b - 1)=j1) (h:i1 > j1):partition lt32 d a b pv=(j1,true,swp d0 j1 a):=by
  subst e0 e1 e2;unfold partition;simp only [h,if_true]
theorem partition_f {pv i1 j1:Nat} {d0:Array UInt32} (e0:swp d a pv=d0) (e1:scanUp (fun x=>lt32 x d0[a]!) d0 (b - 1) (a+1)=i1) (e2:scanDown (fun x=>!lt32 x d0[a]!) d0 i1 (b - 1)=j1) (h:¬ i1 > j1) {r:Nat × Array UInt32} (e3:partLoop lt32 a (i1+1) (j1 - 1) (swp d0 i1 j1)=r):partition lt32 d a b pv=(r.1,false,swp r.2 r.1 a):=by
  subst e0 e1 e2 e3;unfold partition;simp only [h,if_false]
theorem sorted_step (h:i < b) (h2:lt32 d[i]! d[i - 1]! = false):scanSorted lt32 d b i=scanSorted lt32 d b (i+1):=by rw [scanSorted,if_pos (by simp [h,h2])]
theorem sorted_stop (h:i < b→lt32 d[i]! d[i - 1]! = true):scanSorted lt32 d b i=i:=by
  rw [scanSorted,if_neg]
  intro hh
  simp only [Bool.and_eq_true,decide_eq_true_eq,Bool.not_eq_true'] at hh
  rw [h hh.1] at hh;cases hh.2
theorem sdown_step (h:1≤j) (h2:lt32 d[j]! d[j - 1]! = true):shiftDown lt32 j d=shiftDown lt32 (j - 1) (swp d j (j - 1)):=by
  obtain ⟨k,rfl⟩:∃ k,j=k+1:=⟨j - 1,by omega⟩
  rw [Nat.add_sub_cancel] at h2 ⊢
  rw [shiftDown,if_neg (by simp [h2])]
theorem sdown_stop (h:1≤j→lt32 d[j]! d[j - 1]! = false):shiftDown lt32 j d=d:=by
  cases j with
  | zero=>rfl
  | succ k=>
    have:=h (by omega)
    rw [Nat.add_sub_cancel] at this
    rw [shiftDown,if_pos (by simp [this])]
theorem sup_step (h:j < b) (h2:lt32 d[j]! d[j - 1]! = true):shiftUp lt32 b j d=shiftUp lt32 b (j+1) (swp d j (j - 1)):=by rw [shiftUp,if_pos h,if_neg (by simp [h2])]
theorem sup_stop (h:j < b→lt32 d[j]! d[j - 1]! = false):shiftUp lt32 b j d=d:=by
  rw [shiftUp]
  split
  · rename_i hb;rw [if_pos (by simp [h hb])]
  · rfl
theorem pins_t {s i2:Nat} (e:scanSorted lt32 d b i=i2) (h:i2=b):partialIns lt32 a b (s+1) i d=(d,true):=by subst e;rw [partialIns];simp only [h,if_true]
theorem pins_f {s i2:Nat} (e:scanSorted lt32 d b i=i2) (h:¬ i2=b) (h2:b - a < 50):partialIns lt32 a b (s+1) i d=(d,false):=by subst e;rw [partialIns];simp only [h,h2,if_true,if_false]
theorem pins_s {s i2:Nat} {d2 d3:Array UInt32} (e:scanSorted lt32 d b i=i2) (h:¬ i2=b) (h2:¬ b - a < 50) (e2:(if i2 - a≥2 then shiftDown lt32 (i2 - 1) (swp d i2 (i2 - 1)) else swp d i2 (i2 - 1))=d2) (e3:(if b - i2≥2 then shiftUp lt32 b (i2+1) d2 else d2)=d3) :
    partialIns lt32 a b (s+1) i d=partialIns lt32 a b s i2 d3:=by subst e e2 e3;rw [partialIns];simp only [h,h2,if_false]
end
theorem wu64 (n:Nat):IntKind.u64.wrap (n:Int)=((UInt64.ofNat n).toNat:Int):=by simp [IntKind.wrap,IntKind.bits,IntKind.signed]
theorem bv64 (a:UInt64):BitVec.ofInt IntKind.u64.bits (a.toNat:Int)=a.toBitVec:=by
  show BitVec.ofInt 64 _=_
  apply BitVec.eq_of_toNat_eq;simp
theorem back64 (x:BitVec 64):IntKind.u64.wrap (x.toNat:Int)=((⟨x⟩:UInt64).toNat:Int):=by
  rw [wu64];congr 1;show (UInt64.ofNat x.toNat).toNat=x.toNat;simp
theorem bxor64 (a b:UInt64):bits .xor .u64 (a.toNat:Int) (b.toNat:Int)=((a ^^^ b).toNat:Int):=by unfold bits;simp only [bv64];exact back64 _
theorem band64 (a b:UInt64):bits .and .u64 (a.toNat:Int) (b.toNat:Int)=((a &&& b).toNat:Int):=by unfold bits;simp only [bv64];exact back64 _
section
variable {P : Program} {r : Option Nat} {g : World} {Γ : Env} {L M : List HP} {dst : Option Tmp} {t : TypeId} {pos : String} {aft : Array Edge} {gd : Option (Nat × Bool)} {x y : Operand} {xt yt : TypeId} {a b : UInt64}
theorem e_xor64 (hx:ev Γ x=some (.int .u64 a.toNat):=by rfl) (hy:ev Γ y=some (.int .u64 b.toNat):=by rfl):EO P g ⟨dst,.binOp .xor xt x y yt,t,pos,aft,gd⟩ Γ L (.int .u64 (a ^^^ b).toNat):=e_bits (by simp) hx hy (bxor64 a b)
theorem e_and64 {m:Nat} (hm:m < 18446744073709551616) (hx:ev Γ x=some (.int .u64 a.toNat):=by rfl) (hy:ev Γ y=some (.int .u64 (m:Nat)):=by rfl):EO P g ⟨dst,.binOp .and xt x y yt,t,pos,aft,gd⟩ Γ L (.int .u64 ((a.toNat &&& m:Nat):Int)):=
  e_bits (by simp) hx hy (by
    have h:(UInt64.ofNat m).toNat=m:=by rw [UInt64.toNat_ofNat'];exact Nat.mod_eq_of_lt hm
    rw [← h,band64,UInt64.toNat_and])
theorem e_shl64 {k':IntKind} {m:UInt64} (hm:m.toNat < 64) (hx:ev Γ x=some (.int .u64 a.toNat):=by rfl) (hy:ev Γ y=some (.int k' m.toNat):=by rfl):EO P g ⟨dst,.binOp .shl xt x y yt,t,pos,aft,gd⟩ Γ L (.int .u64 (a <<< m).toNat):=
  e_shl hx hy (by omega) (by simp [IntKind.bits];omega) (by
    rw [UInt64.toNat_shiftLeft,Nat.mod_eq_of_lt hm,Nat.shiftLeft_eq];simp [IntKind.wrap,IntKind.bits,IntKind.signed])
theorem e_shr64 {k':IntKind} {m:UInt64} (hm:m.toNat < 64) (hx:ev Γ x=some (.int .u64 a.toNat):=by rfl) (hy:ev Γ y=some (.int k' m.toNat):=by rfl):EO P g ⟨dst,.binOp .shr xt x y yt,t,pos,aft,gd⟩ Γ L (.int .u64 (a >>> m).toNat):=
  e_shr hx hy (by omega) (by simp [IntKind.bits];omega) (by rw [UInt64.toNat_shiftRight,Nat.mod_eq_of_lt hm,Nat.shiftRight_eq_div_pow];simp)
end
theorem tab_all (s:ByteArray) (h:((List.range 256).all fun i=>s[i]? == some (UInt8.ofNat (bitsLen i)))=true) {i:Nat} (hi:i < 256):s[i]?=some (UInt8.ofNat (bitsLen i)):=by
  have:=List.all_eq_true.1 h i (List.mem_range.2 hi)
  simpa using this
theorem log2_shr:∀ (k x:Nat),2 ^ k≤x→Nat.log2 x=k+Nat.log2 (x / 2 ^ k)
  | 0,x,_=>by simp
  | k+1,x,h=>by
    have h2:2≤x:=Nat.le_trans (by rw [Nat.pow_succ];have:=Nat.one_le_two_pow (n:=k);omega) h
    have h3:2 ^ k≤x / 2:=by rw [Nat.pow_succ] at h;omega
    rw [Nat.log2_def,if_pos h2,log2_shr k (x / 2) h3,Nat.div_div_eq_div_mul,Nat.pow_succ,Nat.mul_comm 2]
    omega
theorem bitsLen_shr (k x:Nat) (h:2 ^ k≤x):bitsLen x=k+bitsLen (x / 2 ^ k):=by
  have h0:0 < 2 ^ k:=Nat.two_pow_pos k
  have h1:0 < x / 2 ^ k:=Nat.div_pos h h0
  unfold bitsLen
  rw [if_neg (by omega),if_neg (by omega),log2_shr k x h];omega
theorem bitsLen_lt {k x:Nat} (h:x < 2 ^ k):bitsLen x≤k:=by
  unfold bitsLen
  split
  · exact Nat.zero_le _
  · rename_i h0;have:=(Nat.log2_lt h0).2 h;omega
theorem bitsLen_pow {x:Nat} (h:0 < x):2 ^ bitsLen x≤2 * x:=by
  unfold bitsLen
  rw [if_neg (by omega),Nat.pow_succ]
  have:=Nat.log2_self_le (n:=x) (by omega)
  omega
section
variable {d : Array UInt32} {a b i j : Nat}
def brk (a n m:Nat) (st:UInt64 × Array UInt32) (i:Nat):Nat→UInt64 × Array UInt32
  | 0=>st
  | k+1=>breakStep a n m (brk a n m st i k) (i+k)
theorem brk_eq (h:b - a≥8):breakPatterns d a b=(brk a (b - a) (2 ^ bitsLen (b - a)) (UInt64.ofNat (b - a),d) (a+(b - a) / 4 * 2 - 1) 3).2:=by
  unfold breakPatterns
  simp only [h,if_true,Nat.shiftLeft_eq,Nat.one_mul];rfl
theorem brk_no (h:¬ b - a≥8):breakPatterns d a b=d:=by unfold breakPatterns;simp only [h,if_false]
theorem sort_done {xs:List UInt32} {d':Array UInt32} (p1:PermIn 0 xs.length xs.toArray d') (p2:SortedIn lt32 0 xs.length d'):d'.toList.Perm xs∧d'.toList.Pairwise fun x y=>x≤y:=by
  have hsz:d'.size=xs.length:=by rw [p1.1];simp
  constructor
  · have h:=p1.2.2
    rw [← hsz,Array.extract_size] at h
    have e:(xs.toArray.extract 0 d'.size).toList=xs:=by rw [hsz];simp
    rw [e] at h;exact h
  · rw [List.pairwise_iff_getElem]
    intro i j hi hj hij
    rw [Array.length_toList] at hi hj
    have:=p2 i j (Nat.zero_le _) hij (by omega)
    rw [getElem!_pos d' i (by omega),getElem!_pos d' j (by omega)] at this
    simp only [Array.getElem_toList]
    simp only [lt32,decide_eq_false_iff_not] at this
    exact UInt32.not_lt.1 this
theorem sl_map {α β:Type} {E z:Nat} {enc:β→List Value} {f:α→β} {u:Value} {xs:List α} {S:Piece} (h:Sl E z (fun x=>enc (f x)) u xs S):Sl E z enc u (xs.map f) S:=by
  unfold Sl at h ⊢
  rw [List.length_map,List.flatMap_map];exact h
end
end Go.SL
