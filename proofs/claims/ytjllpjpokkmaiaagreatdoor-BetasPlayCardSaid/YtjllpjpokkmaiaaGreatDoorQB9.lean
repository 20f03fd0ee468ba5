import Derived.Test.YtjllpjpokkmaiaaGreatDoorQB8
set_option linter.unusedSimpArgs false
set_option linter.unusedVariables false
namespace Go.SL.Fc
open Go Go.Proofs Go.SL
theorem eqgRow:Tryz.prog.eqGuardType Tryz.prog.depth 142=false:=by kernel_rfl
theorem f61_0:fldOf Tryz.prog 61 0=some 0:=by kernel_rfl
theorem k197:callable Tryz.prog 197=true:=by kernel_rfl
theorem k198:callable Tryz.prog 198=true:=by kernel_rfl
theorem k23:callable Tryz.prog 23=true:=by kernel_rfl
theorem stoodRow:Tryz.prog.stoodInHeld 142=false:=by kernel_rfl
end Go.SL.Fc
namespace Go.SL
open Go Go.Proofs Fc
theorem SameRows_spec {g:World} {A B:HP} {u v:Value} {xs ys:List RowM} (hA:RL A 2 RowM.c u xs) (hB:RL B 2 RowM.c v ys) (hn:xs.length≤68719476736):Spec Tryz.prog g 23 [u,v] [A,B] fun K R=>K (.bool (decide (xs=ys))) (A::B::R):=by
 refine Spec.intro Tryz.func23 rfl Tryz.ntmps23 rfl fun R K hK=>?_
 refine WP.seq<|WP.reg<|WL.e e_assign<|WL.next<|WP.seq<|WP.seq<|WP.reg<|WL.e e_move<|WL.e (el_len sl59 hA)<|WL.e e_move<|WL.e (el_len sl59 hB)<|WL.e e_neq<|WL.next ?_
 refine WP.cond rfl (fun h1=>?_) (fun h1=>?_)
 ·replace h1:xs≠ys:=fun e=>by subst e;simp at h1
  refine WP.seq<|WP.reg<|WL.e e_assign<|WL.next<|WP.ret<|PO.past nofun ?_
  exact PO.finE Tryz.results23 (rv_tmp rv_nil) (by rw [decide_eq_false h1];rfl) hK
 ·replace h1:xs.length=ys.length:=by simp at h1;omega
  refine WP.skip<|PO.next<|WP.seq<|WP.seq<|WP.reg<|WL.e e_assign<|WL.next<|WP.block<|WP.loopK (fun (i:Nat)=>[(5,.int .i64 i)]) (fun (i:Nat)=>A::B::R) [(0,_),(1,_)] (fun (i:Nat)=>i≤xs.length∧xs.take i=ys.take i) (fun (i:Nat)=>xs.length - i) 0 (⟨Nat.zero_le _,rfl⟩) ?_
  rintro i ⟨hi,he⟩
  refine WP.seq<|WP.seq<|WP.reg<|WL.e e_move<|WL.e e_move<|WL.e (el_len sl59 hA)<|WL.e e_lss<|WL.next ?_
  refine WP.cond rfl (fun h2=>?_) (fun h2=>?_)
  ·have hlt:i < xs.length:=by rw [decide_eq_true_eq] at h2;omega
   obtain ⟨x,hx⟩:∃ x,xs[i]?=some x:=⟨_,List.getElem?_eq_getElem hlt⟩
   obtain ⟨y,hy⟩:∃ y,ys[i]?=some y:=⟨_,List.getElem?_eq_getElem (by omega)⟩
   refine WP.skip<|PO.next<|WP.seq<|WP.block<|WP.seq<|WP.draws mixedOk 9<|RW.e 0 rfl e_move<|RW.e 1 rfl e_move<|RW.e 2 rfl (el_ia (j:=i) sl59 hA hlt)<|RW.e 3 rfl (el_loadN (a:=x) a142 rowE hA hx)<|RW.e 4 rfl e_move<|RW.e 5 rfl e_move<|RW.e 6 rfl (el_ia (j:=i) sl59 hB (by omega))<|RW.e 7 rfl (el_loadN (a:=y) a142 rowE hB hy)<|RW.e 8 rfl (e_rowne (a:=x) (b:=y) Tryz.underlying142 Tryz.underlying9 Tryz.underlying48 a9 a48 stoodRow eqgRow rfl rfl)<|RW.done<|PO.next ?_
   refine WP.cond rfl (fun h3=>?_) (fun h3=>?_)
   ·replace h3:xs≠ys:=fun e=>by subst e;rw [hx] at hy;cases hy;simp at h3
    refine WP.seq<|WP.reg<|WL.e e_assign<|WL.next<|WP.ret<|PO.blockR<|PO.past nofun<|PO.round nofun<|PO.blockR<|PO.past nofun ?_
    exact PO.finE Tryz.results23 (rv_tmp rv_nil) (by rw [decide_eq_false h3];rfl) hK
   ·replace h3:x=y:=by simpa using h3
    refine WP.skip<|PO.blockN<|PO.next<|WP.reg<|WL.e e_move<|WL.e (e_add (c:=((i+1:Nat):Int)) rfl rfl (by rw [w_i64 (by omega) (by omega)];omega))<|WL.e e_assign<|WL.nil ?_
    exact PO.againK (i+1) ⟨by omega,by rw [take_snoc hx,take_snoc hy,he,h3]⟩ (by omega)
  ·have hge:xs.length≤i:=by rw [decide_eq_false_iff_not] at h2;omega
   replace h2:xs=ys:=by rwa [List.take_of_length_le hge,List.take_of_length_le (by omega)] at he
   refine WP.exit<|PO.past nofun<|PO.round nofun<|PO.blockX<|PO.next<|WP.seq<|WP.reg<|WL.e e_assign<|WL.next<|WP.ret ?_
   exact PO.finE Tryz.results23 (rv_tmp rv_nil) (by rw [decide_eq_true h2];rfl) hK
theorem RdS.mono {S T:Piece} {z n:Nat} {u:Value} {cs:List Value} (h:RdS S z u n cs) (hl:le S T):RdS T z u n cs:=by
 rcases h with h | ⟨b,o,c,l,t,h1,h2,h3,h4,h5⟩
 ·exact .inl h
 ·exact .inr ⟨b,o,c,l,t,h1,h2,hl _ _ h3,h4,h5⟩
theorem SameResult_spec {g:World} {A B:HP} {u v:SV} {xs ys:List RowM} (hA:RL A 2 RowM.c u.v xs) (hB:RL B 2 RowM.c v.v ys) (hn:xs.length≤68719476736):Spec Tryz.prog g 19 [.agg #[u.v],.agg #[v.v]] [A,B] fun K R=>K (.bool (decide (xs=ys))) (A::B::R):=by
 refine Spec.intro Tryz.func19 rfl Tryz.ntmps19 rfl fun R K hK=>?_
 refine WP.seq<|WP.reg ?_
 refine WL.h (h_box fun b1=>?_)
 refine WL.h (h_box fun b2=>?_)
 refine WL.e e_assign<|WL.next<|WP.seq<|WP.reg<|WL.e (e_fa f61_0)<|WL.e (e_load a59)<|WL.e (e_fa f61_0)<|WL.e (e_load a59) ?_
 refine WL.h (h_call (SameRows_spec hA hB hn) k23 ?_)
 refine WL.e e_assign<|WL.next<|WP.ret ?_
 exact PO.fin Tryz.results19 (rv_tmp rv_nil) hK
theorem ask_spec {g:World} {p:Nat} {l:List RowM} (k:ByteArray):Spec Tryz.prog g 197 [.pointer (some ⟨p,0,none⟩),.string k] [Mm p l] fun K R=>K (.int .i64 (if keyOk k then 0 else 1)) (Mm p l::R):=by
 refine Spec.intro Tryz.func197 rfl Tryz.ntmps197 rfl fun R K hK=>?_
 refine WP.seq<|WP.reg<|WL.e e_assign<|WL.next<|WP.seq<|WP.block<|WP.seq<|WP.reg<|WL.e e_move ?_
 refine WL.h (h_call (Mthere_spec) k221 ?_)
 refine WL.e e_not<|WL.e e_assign<|WL.next<|WP.cond_f rfl<|WP.seq<|WP.reg<|WL.e e_move ?_
 refine WL.h (h_call (Check_spec _) k116 ?_)
 refine WL.e e_not<|WL.e e_assign<|WL.next ?_
 refine WP.cond rfl (fun h1=>?_) (fun h1=>?_)
 ·replace h1:keyOk k=false:=by simpa using h1
  refine WP.seq<|WP.reg<|WL.e e_assign<|WL.next<|WP.ret<|PO.blockR<|PO.past nofun ?_
  exact PO.finE Tryz.results197 (rv_tmp rv_nil) (by rw [h1];rfl) hK
 ·replace h1:keyOk k=true:=by simpa using h1
  refine WP.skip<|PO.blockN<|PO.next<|WP.seq<|WP.reg<|WL.e e_assign<|WL.next<|WP.ret ?_
  exact PO.finE Tryz.results197 (rv_tmp rv_nil) (by rw [h1];rfl) hK
theorem MPut_spec {g:World} {p:Nat} {l:List RowM} (k:ByteArray) (v:UInt32) (hl:Rising l) (hn:l.length≤68719476000) (hk:keyOk k=true):Spec Tryz.prog g 144 [.pointer (some ⟨p,0,none⟩),.string k,.int .u32 v.toNat] [Mm p l] fun K R=>K (.int .i64 0) (Mm p (setR l k v)::R):=by
 refine Spec.intro Tryz.func144 rfl Tryz.ntmps144 rfl fun R K hK=>?_
 refine WP.seq<|WP.reg<|WL.e e_assign<|WL.next<|WP.seq<|WP.reg<|WL.e e_move<|WL.e e_move ?_
 refine WL.h (h_call (ask_spec k) k197 ?_)
 rw [hk]
 refine WL.e e_assign<|WL.next<|WP.seq<|WP.seq<|WP.reg<|WL.e e_move<|WL.e e_eql<|WL.next<|WP.cond_t rfl<|WP.reg<|WL.e e_move<|WL.e e_move<|WL.e e_move ?_
 refine WL.h (h_call (set_spec k v hl hn) k198 ?_)
 refine WL.next<|WP.seq<|WP.reg<|WL.e e_move<|WL.e e_assign<|WL.next<|WP.ret ?_
 exact PO.fin Tryz.results144 (rv_tmp rv_nil) hK
end Go.SL
set_option linter.unusedSectionVars false
namespace Go.SL
open Go
theorem own_from {S:Piece} {E z n i:Nat} {u:Value} {cs:List Value} (h:Own E z u n cs S) (hi:i < n):Own E z (subV u i n none z) (n - i) (cs.drop (i * z)) S:=by
  rcases h with ⟨rfl,_⟩ | ⟨b,o,c,l,rfl,h2,h3,h4,h5,h6⟩
  · omega
  · have e1:c * z=i * z+(c - i) * z:=by rw [← Nat.add_mul];congr 1;omega
    refine .inr ⟨b,o+i * z,c - i,l,?_,by omega,by omega,h4,by omega,?_⟩
    · simp only [subV,Option.getD_none,if_neg (show ¬ c=i by omega),Option.map_some,add_none]
    · rw [h6,List.drop_take,List.drop_drop,← Nat.sub_mul]
theorem sl_from {α:Type} {S:Piece} {E z i:Nat} {u:Value} {enc:α→List Value} {xs:List α} (he:EncOk z enc) (h:Sl E z enc u xs S) (hi:i < xs.length):Sl E z enc (subV u i xs.length none z) (xs.drop i) S:=by
  have:=own_from h hi
  unfold Sl
  rw [List.length_drop,← flat_drop he];exact this
theorem own_to3 {S:Piece} {E z n i:Nat} {u:Value} {cs:List Value} (h:Own E z u n cs S) (hi:i≤n):Own E z (subV u 0 i (some i) z) i (cs.take (i * z)) S:=by
  rcases h with ⟨rfl,h2,a,h3⟩ | ⟨b,o,c,l,rfl,h2,h3,h4,h5,h6⟩
  · have:i=0:=by omega
    subst this;subst h2;subst h3
    exact .inl ⟨rfl,by simp,a,by simp [subV]⟩
  · rcases Nat.eq_zero_or_pos i with rfl | h0
    · exact .inl ⟨rfl,by simp,_,by simp [subV];rfl⟩
    · have e1:i * z≤c * z:=Nat.mul_le_mul_right z (by omega)
      refine .inr ⟨b,o,i,l,?_,Nat.le_refl _,by omega,h4,by omega,?_⟩
      · simp only [subV,Option.getD_some,if_neg (show ¬ i=0 by omega),Option.map_some,Nat.zero_mul,add_none,Nat.sub_zero,Nat.add_zero]
      · rw [h6,List.take_take,Nat.min_eq_left (Nat.mul_le_mul_right _ hi)]
theorem sl_to3 {α:Type} {S:Piece} {E z i:Nat} {u:Value} {enc:α→List Value} {xs:List α} (he:EncOk z enc) (h:Sl E z enc u xs S) (hi:i≤xs.length):Sl E z enc (subV u 0 i (some i) z) (xs.take i) S:=by
  have:=own_to3 h hi
  unfold Sl
  rw [List.length_take,Nat.min_eq_left hi,← flat_take he];exact this
def RdM {κ:Type} (A:HP) (ek:κ→Value) (m:Value) (kvs:List (κ × Value)):Prop:=∀ S,A S→∃ b es clock,m=.map (some b)∧S b=some (.map (List.toArray es) clock)∧ents ek es kvs
theorem mp_rdm {κ:Type} {ek:κ→Value} {m:Value} {kvs:List (κ × Value)}:RdM (Mp ek m kvs) ek m kvs:=fun _ ⟨b,es,clock,h1,h2,h3,_⟩=>⟨b,es,clock,h1,h2,h3⟩
theorem mpit_rdm {κ:Type} {ek:κ→Value} {m it:Value} {kvs left:List (κ × Value)} {cur:Option (κ × Value)}:RdM (MpIt ek m it kvs left cur) ek m kvs:=fun _ ⟨b,_,es,clock,_,h1,_,_,h2,_,h3,_⟩=>⟨b,es,clock,h1,h2,h3⟩
section
variable {P : Program} {r : Option Nat} {g : World} {Γ : Env} {L M : List HP} {dst : Option Tmp} {t : TypeId} {pos : String} {aft : Array Edge} {gd : Option (Nat × Bool)}
variable {κ : Type} [DecidableEq κ] {kt : TypeId} {d : TypeDesc} {ek : κ → Value} {kvs : List (κ × Value)} {m : Value} {A : HP}
theorem Sat.rdm {w:World} (h:Sat g L w) (hA:RdM A ek m kvs) (hp:Pick L A M):∃ b es clock,m=.map (some b)∧w.heap[b]?=some (.map (List.toArray es) clock)∧ents ek es kvs:=by
  obtain ⟨S1,S2,_,h1,_,h2,_⟩:=hp.to h.heap
  obtain ⟨b,es,clock,e1,e2,e3⟩:=hA _ h2
  exact ⟨b,es,clock,e1,h1 _ _ e2,e3⟩
theorem em_lookup {x i:Operand} {T e:TypeId} {k:κ} {z:Value} (ht:P.underlying T=some (.map kt e)) (hk:KeyOk P kt d ek) (hz:(P.info? e).bind (·.zero)=some z) (hA:RdM A ek m kvs) (hx:ev Γ x=some m:=by rfl) (hi:ev Γ i=some (ek k):=by rfl) (hp:Pick L A M:=by repeat first | exact .z | apply Pick.s) :
    EO P g ⟨dst,.lookup T x i false,t,pos,aft,gd⟩ Γ L ((mget kvs k).getD z):=
  .of (by simp) fun ρ hρ w hw=>by
    obtain ⟨b,es,clock,rfl,hb,h3⟩:=hw.rdm hA hp
    simp only [execOp,hρ x _ (by simp [Op.operands]) hx,hρ i _ (by simp [Op.operands]) hi,Instr.lookup,Sem.run_bind,run_underlying ht,Result.andThen_ok,run_getObj hb (by simp),Sem.run_pure,run_checkKey hk,run_findKey hk k h3]
    cases hm:midx kvs k with
    | none=>simp [midx_none.1 hm,run_zeroValue hz]
    | some j=>obtain ⟨v,_,h2⟩:=midx_some hm;simp [h2]
theorem ek_inj (hk:KeyOk P kt d ek) {a b:κ} (h:ek a=ek b):a=b:=by
  have h1:=hk.same a a
  have h2:=hk.same a b
  rw [← h,h1] at h2
  simpa using h2
theorem h_mapUpdateIt {x i v:Operand} {T e:TypeId} {it:Value} {left:List (κ × Value)} {p:κ × Value} {u:Value} {N:List HP} {K:Value→List HP→Prop} (ht:P.underlying T=some (.map kt e)) (hk:KeyOk P kt d ek) (hnd:(kvs.map (·.1)).Nodup) (hK:K (.tuple #[]) N) (hx:ev Γ x=some m:=by rfl) (hi:ev Γ i=some (ek p.1):=by rfl) (hv:ev Γ v=some u:=by rfl)
    (hp:Put L (MpIt ek m it kvs left (some p)) (MpIt ek m it (mset kvs p.1 u) left none) N:=by repeat first | exact .z | apply Put.s):HO P r g ⟨dst,.mapUpdate T x i v,t,pos,aft,gd⟩ Γ L K:=
  HO.run_skip (by simp) fun a w ha hw=>by
    obtain ⟨R,p1,p2⟩:=hp.picks
    obtain ⟨S1,S2,hd,l1,l2,⟨b,i0,es,clock,seen,rfl,rfl,hbi,hb,hit,h3,h4,h5,h6,h7⟩,hR⟩:=p1.to hw.heap
    have hb':=l1 _ _ hb
    obtain ⟨e0,he0,hs0,hk0,hv0⟩:=h7 p rfl
    have hl:es.length=kvs.length:=ents_len h3
    obtain ⟨j0,hj0,hje⟩:=List.getElem_of_mem he0
    have hkv0:∃ q,kvs[j0]?=some q∧e0.key=ek q.1:=by
      have:=congrArg (·[j0]?) h3
      simp only [List.getElem?_map,List.getElem?_eq_getElem hj0,List.getElem?_eq_getElem (show j0 < kvs.length by omega)] at this
      simp only [Option.map_some,Option.some.injEq,Prod.mk.injEq] at this
      exact ⟨kvs[j0]'(by omega),List.getElem?_eq_getElem (by omega),by rw [← hje];exact this.1⟩
    obtain ⟨q,hq,hqk⟩:=hkv0
    have hqp:q.1=p.1:=ek_inj hk (hqk.symm.trans hk0)
    cases hm:midx kvs p.1 with
    | none=>
      have:=List.findIdx?_eq_none_iff.1 hm q (List.mem_of_getElem? hq)
      simp [hqp] at this
    | some j=>
      obtain ⟨v',hj,hg⟩:=midx_some hm
      have hjl:j < es.length:=by
        rcases Nat.lt_or_ge j kvs.length with h' | h'
        · omega
        · rw [List.getElem?_eq_none h'] at hj;cases hj
      have hjj:j=j0:=by
        have a1:(kvs.map (·.1))[j]?=some p.1:=by rw [List.getElem?_map,hj];rfl
        have a2:(kvs.map (·.1))[j0]?=some p.1:=by rw [List.getElem?_map,hq];simp [hqp]
        exact (List.getElem?_inj (i:=j) (by rw [List.length_map];omega) hnd).1 (a1.trans a2.symm)
      subst hjj
      have hkey:((es.toArray[j]?).map (·.key)).getD (ek p.1)=ek p.1:=by
        simp [List.getElem?_eq_getElem hjl,hje,hk0]
      refine ⟨N,{ w with heap:=w.heap.setIfInBounds b (.map (es.modify j fun e=>{ e with key:=ek p.1,val:=u }).toArray clock) },?_,hK,?_⟩
      · simp only [execOp,ev_ok hx ha,ev_ok hi ha,ev_ok hv ha,Instr.mapUpdate,Sem.run_bind,run_underlying ht,Result.andThen_ok,run_getObj hb' (by simp),run_checkKey hk,run_findKey hk p.1 h3,hm,Option.bind_some,hg,Option.map_some,hkey]
        simp only [Instr.keyThatStays,hk.bits p.1 9999,if_true,Sem.run_pure,Result.andThen_ok,run_setObj hb' (by simp)]
        simp
      · have hborn:(es.modify j fun e=>{ e with key:=ek p.1,val:=u }).map (·.born)=es.map (·.born):=by
          apply List.ext_getElem?
          intro i
          simp only [List.getElem?_map,List.getElem?_modify]
          by_cases e:j=i
          · subst e;cases es[j]? <;> simp
          · simp [e]
        refine (Sat.setObj (B:=MpIt ek (.map (some b)) (.pointer (some ⟨i0,0,none⟩)) (mset kvs p.1 u) left none) hw hd l1 l2 hb hR fun S hS hS'=>⟨b,i0,_,clock,seen,rfl,rfl,hbi,hS,by rw [hS' i0 (Ne.symm hbi)];exact hit,?_,by rw [hborn];exact h4,?_,?_,by simp⟩).conv fun _=>p2.back
        · simp only [mset,hm];exact ents_set h3
        · intro e he
          obtain ⟨i,hi',rfl⟩:=List.getElem_of_mem he
          simp only [List.length_modify] at hi'
          have:(es.modify j fun e=>{ e with key:=ek p.1,val:=u })[i].born=es[i].born:=by
            rw [List.getElem_modify];split <;> rfl
          rw [this];exact h5 _ (List.getElem_mem hi')
        · have hseen:seen.contains e0.born=true:=by
            have:=Array.mem_of_back? hs0
            simpa using this
          have key:∀ (l:List MapEntry) (j:Nat) (hj:j < l.length),seen.contains (l[j]).born=true→((l.modify j fun e=>{ e with key:=ek p.1,val:=u }).filter fun e=>!seen.contains e.born)=l.filter fun e=>!seen.contains e.born:=by
            intro l
            induction l with
            | nil=>intro j hj;simp at hj
            | cons x l ih=>
              intro j hj hs
              cases j with
              | zero=>
                simp only [List.getElem_cons_zero] at hs
                rw [List.modify_zero_cons]
                rw [List.filter_cons_of_neg (by simpa using hs),List.filter_cons_of_neg (by simpa using hs)]
              | succ j=>
                simp only [List.getElem_cons_succ] at hs
                rw [List.modify_succ_cons,List.filter_cons,List.filter_cons,ih j (by simpa using hj) hs]
          rw [key es j hjl (by rw [hje];exact hseen)]
          exact h6
end
end Go.SL
namespace Go.SL
open Go
structure EntV (κ α:Type) where
 key:κ
 sv:SV
 ws:List α
section
variable {κ α : Type} [DecidableEq κ]
def getS (l:List (κ × List α)) (k:κ):Option (List α):=(l.find? fun p=>decide (p.1=k)).map (·.2)
def setS (l:List (κ × List α)) (k:κ) (ws:List α):List (κ × List α):=match l.findIdx? (fun p=>decide (p.1=k)) with
 | some i=>l.set i (k,ws)
 | none=>l++[(k,ws)]
def kvE (e:EntV κ α):κ × Value:=(e.key,e.sv.v)
def stE (e:EntV κ α):κ × List α:=(e.key,e.ws)
def findE (es:List (EntV κ α)) (k:κ):Option (EntV κ α):=es.find? fun e=>decide (e.key=k)
def svE (es:List (EntV κ α)) (k:κ):SV:=match findE es k with
 | some e=>e.sv
 | none=>⟨none,0,0⟩
def wsE (es:List (EntV κ α)) (k:κ):List α:=match findE es k with
 | some e=>e.ws
 | none=>[]
def setE (es:List (EntV κ α)) (k:κ) (sv:SV) (ws:List α):List (EntV κ α):=match es.findIdx? (fun e=>decide (e.key=k)) with
 | some i=>es.set i ⟨k,sv,ws⟩
 | none=>es++[⟨k,sv,ws⟩]
def delE (es:List (EntV κ α)) (k:κ):List (EntV κ α):=es.eraseP fun e=>decide (e.key=k)
theorem mget_kvE (es:List (EntV κ α)) (k:κ):mget (es.map kvE) k=(findE es k).map fun e=>e.sv.v:=by
 unfold mget findE
 induction es with
 | nil=>rfl
 | cons e es ih=>
  simp only [List.map_cons,List.find?_cons,kvE]
  by_cases h:e.key=k
  ·simp [h]
  ·simp only [h,decide_false];exact ih
theorem mget_svE (es:List (EntV κ α)) (k:κ):(mget (es.map kvE) k).getD (.slice none 0 0)=(svE es k).v:=by
 rw [mget_kvE];unfold svE
 cases findE es k <;> rfl
theorem mset_kvE (es:List (EntV κ α)) (k:κ) (sv:SV) (ws:List α):mset (es.map kvE) k sv.v=(setE es k sv ws).map kvE:=by
 have h:midx (es.map kvE) k=es.findIdx? (fun e=>decide (e.key=k)):=by
  unfold midx;rw [List.findIdx?_map];rfl
 unfold mset setE
 rw [h]
 cases List.findIdx? (fun e:EntV κ α=>decide (e.key=k)) es with
 | none=>simp [kvE]
 | some i=>simp [kvE,List.map_set]
theorem setE_st (es:List (EntV κ α)) (k:κ) (sv:SV) (ws:List α):(setE es k sv ws).map stE=setS (es.map stE) k ws:=by
 have h:(es.map stE).findIdx? (fun p=>decide (p.1=k))=es.findIdx? (fun e=>decide (e.key=k)):=by
  rw [List.findIdx?_map];rfl
 unfold setS setE
 rw [h]
 cases List.findIdx? (fun e:EntV κ α=>decide (e.key=k)) es with
 | none=>simp [stE]
 | some i=>simp [stE,List.map_set]
theorem getS_st (es:List (EntV κ α)) (k:κ):getS (es.map stE) k=(findE es k).map (·.ws):=by
 unfold getS findE
 induction es with
 | nil=>rfl
 | cons e es ih=>
  simp only [List.map_cons,List.find?_cons,stE]
  by_cases h:e.key=k
  ·simp [h]
  ·simp only [h,decide_false];exact ih
theorem wsE_st (es:List (EntV κ α)) (k:κ):wsE es k=(getS (es.map stE) k).getD []:=by
 rw [getS_st];unfold wsE
 cases findE es k <;> rfl
theorem keys_st (es:List (EntV κ α)):es.map (·.key)=(es.map stE).map (·.1):=by simp [stE]
theorem keys_kv (es:List (EntV κ α)):(es.map kvE).map (·.1)=es.map (·.key):=by simp [kvE]
theorem findE_mem {es:List (EntV κ α)} (hn:(es.map (·.key)).Nodup) {e:EntV κ α} (he:e ∈ es):findE es e.key=some e:=by
 unfold findE
 induction es with
 | nil=>cases he
 | cons x es ih=>
  rw [List.map_cons] at hn
  obtain ⟨h1,h2⟩:=List.nodup_cons.1 hn
  rcases List.mem_cons.1 he with rfl | he
  ·simp
  ·rw [List.find?_cons]
   have:x.key≠e.key:=fun h=>h1 (h ▸ List.mem_map.2 ⟨e,he,rfl⟩)
   simp only [this,decide_false]
   exact ih h2 he
theorem findE_key {es:List (EntV κ α)} {k:κ} {e:EntV κ α} (h:findE es k=some e):e ∈ es∧e.key=k:=by
 refine ⟨List.mem_of_find?_eq_some h,?_⟩
 have:=List.find?_some h
 simpa using this
theorem getS_mem {l:List (κ × List α)} (hn:(l.map (·.1)).Nodup) {p:κ × List α} (h:p ∈ l):getS l p.1=some p.2:=by
 unfold getS
 induction l with
 | nil=>cases h
 | cons x l ih=>
  rw [List.map_cons] at hn
  obtain ⟨h1,h2⟩:=List.nodup_cons.1 hn
  rw [List.find?_cons]
  rcases List.mem_cons.1 h with rfl | h
  ·simp
  ·have:x.1≠p.1:=fun e=>h1 (e ▸ List.mem_map.2 ⟨p,h,rfl⟩)
   simp only [this,decide_false]
   exact ih h2 h
theorem getS_some {l:List (κ × List α)} {k:κ} {ws:List α} (h:getS l k=some ws):(k,ws) ∈ l:=by
 unfold getS at h
 rw [Option.map_eq_some_iff] at h
 obtain ⟨p,h1,rfl⟩:=h
 have h2:=List.find?_some h1
 have h3:=List.mem_of_find?_eq_some h1
 simp at h2;subst h2
 exact h3
theorem setS_get (l:List (κ × List α)) (k:κ) (ws:List α) (j:κ):getS (setS l k ws) j=if j=k then some ws else getS l j:=by
 unfold setS getS
 induction l with
 | nil=>
  by_cases h:j=k
  ·subst h;simp
  ·simp [h,Ne.symm h]
 | cons x l ih=>
  rw [List.findIdx?_cons]
  by_cases hx:x.1=k
  ·simp only [hx,decide_true,if_true,List.set_cons_zero,List.find?_cons]
   by_cases h:j=k
   ·subst h;simp
   ·have h':¬ k=j:=fun e=>h e.symm
    simp [h,h']
  ·simp only [hx,decide_false,Bool.false_eq_true,if_false]
   cases hf:List.findIdx? (fun p:κ × List α=>decide (p.1=k)) l with
   | none=>
    rw [hf] at ih
    simp only [Option.map_none,List.cons_append,List.find?_cons]
    by_cases h:x.1=j
    ·have:j≠k:=fun e=>hx (h.trans e)
     simp [h,this]
    ·simp only [h,decide_false];exact ih
   | some i=>
    rw [hf] at ih
    simp only [Option.map_some,List.set_cons_succ,List.find?_cons]
    by_cases h:x.1=j
    ·have:j≠k:=fun e=>hx (h.trans e)
     simp [h,this]
    ·simp only [h,decide_false];exact ih
theorem setS_nodup {l:List (κ × List α)} (hn:(l.map (·.1)).Nodup) (k:κ) (ws:List α):((setS l k ws).map (·.1)).Nodup:=by
 unfold setS
 split
 ·rename_i i hi
  have:(l.set i (k,ws)).map (·.1)=l.map (·.1):=by
   rw [List.map_set]
   apply List.ext_getElem?
   intro j
   rw [List.getElem?_set]
   obtain ⟨h1,h2,_⟩:=List.findIdx?_eq_some_iff_getElem.1 hi
   split
   ·rename_i e;subst e
    rw [if_pos (by simpa using h1)]
    simp only [List.getElem?_map,List.getElem?_eq_getElem h1,Option.map_some]
    simp at h2;rw [h2]
   ·rfl
  rw [this];exact hn
 ·rename_i hi
  rw [List.map_append,List.nodup_append]
  refine ⟨hn,by simp,?_⟩
  intro a ha b hb e
  simp at hb;subst hb;subst e
  obtain ⟨p,hp,rfl⟩:=List.mem_map.1 ha
  have:=List.findIdx?_eq_none_iff.1 hi p hp
  simp at this
theorem delE_keys {es:List (EntV κ α)} {k:κ} {e:EntV κ α} (h:findE es k=some e):∃ A B,es=A++e::B∧delE es k=A++B∧(∀ sv ws,setE es k sv ws=A++⟨k,sv,ws⟩::B):=by
 unfold findE at h
 induction es with
 | nil=>simp at h
 | cons x es ih=>
  rw [List.find?_cons] at h
  by_cases e1:x.key=k
  ·simp [e1] at h;subst h
   exact ⟨[],es,rfl,by simp [delE,e1],by intro sv ws;simp [setE,List.findIdx?_cons,e1]⟩
  ·simp [e1] at h
   obtain ⟨A,B,h2,h3,h4⟩:=ih (by simpa using h)
   refine ⟨x::A,B,by simp [h2],by simp only [delE,List.eraseP_cons,e1,decide_false,cond_false,List.cons_append] at h3 ⊢;rw [h3],?_⟩
   intro sv ws
   have:=h4 sv ws
   unfold setE at this ⊢
   rw [List.findIdx?_cons]
   simp only [e1,decide_false,Bool.false_eq_true,if_false]
   cases hf:List.findIdx? (fun e:EntV κ α=>decide (e.key=k)) es with
   | none=>rw [hf] at this;simp only at this;simp [this]
   | some i=>rw [hf] at this;simp only at this;simp [this]
theorem delE_none {es:List (EntV κ α)} {k:κ} (h:findE es k=none):delE es k=es∧(∀ sv ws,setE es k sv ws=es++[⟨k,sv,ws⟩]):=by
 unfold findE at h
 refine ⟨?_,?_⟩
 ·unfold delE
  rw [List.eraseP_of_forall_not]
  intro x hx
  have:=List.find?_eq_none.1 h x hx
  simpa using this
 ·intro sv ws
  unfold setE
  rw [List.findIdx?_eq_none_iff.2 (fun x hx=>by have:=List.find?_eq_none.1 h x hx;simpa using this)]
def Ents (E z:Nat) (enc:α→List Value) (es:List (EntV κ α)):HP:=bun (es.map fun e=>Sl E z enc e.sv.v e.ws)
variable {E z : Nat} {enc : α → List Value}
theorem Ents_nil {L:List HP} {S:Piece} (h:stars L S):stars (Ents E z enc ([]:List (EntV κ α))::L) S:=bun_stars (L:=[]) h
theorem Ents_out {es A B:List (EntV κ α)} {e:EntV κ α} (h:es=A++e::B):∀ S,Ents E z enc es S→∃ _:Unit,stars [Sl E z enc e.sv.v e.ws,Ents E z enc (A++B)] S:=fun S hS=>by
 subst h
 refine ⟨(),?_⟩
 unfold Ents bun at hS
 rw [List.map_append,List.map_cons] at hS
 have h1:=stars_unmove hS
 refine stars_cons (fun S h=>?_) h1
 show stars [bun ((A++B).map _)] S
 rw [List.map_append]
 exact bun_stars (M:=[]) (S:=S) (by simpa using h)
theorem Ents_in {A B:List (EntV κ α)} {e:EntV κ α}:∀ S,stars [Sl E z enc e.sv.v e.ws,Ents E z enc (A++B)] S→Ents E z enc (A++e::B) S:=fun S hS=>by
 unfold Ents bun
 rw [List.map_append,List.map_cons]
 refine stars_move ?_
 refine stars_cons (fun S h=>?_) hS
 have h':stars (bun ((A++B).map _)::[]) S:=h
 rw [List.map_append] at h'
 have:=stars_bun h'
 simpa using this
theorem Ents_take (es:List (EntV κ α)) (k:κ):∀ S,Ents E z enc es S→∃ _:Unit,stars [Sl E z enc (svE es k).v (wsE es k),Ents E z enc (delE es k)] S:=fun S hS=>by
 cases hf:findE es k with
 | none=>
  refine ⟨(),?_⟩
  rw [(delE_none hf).1]
  unfold svE wsE
  rw [hf]
  exact nil_sl (stars_one' hS)
 | some e=>
  obtain ⟨A,B,h1,h2,_⟩:=delE_keys hf
  rw [h2]
  unfold svE wsE
  rw [hf]
  exact Ents_out h1 S hS
where
 stars_one' {A:HP} {S:Piece} (h:A S):stars [A] S:=⟨S,fun _=>none,fun _=>.inr rfl,le_refl _,(fun _ _ h=>by cases h),h,trivial⟩
theorem Ents_put (es:List (EntV κ α)) (k:κ) (sv:SV) (ws:List α):∀ S,stars [Sl E z enc sv.v ws,Ents E z enc (delE es k)] S→Ents E z enc (setE es k sv ws) S:=fun S hS=>by
 cases hf:findE es k with
 | none=>
  obtain ⟨h1,h2⟩:=delE_none hf
  rw [h2];rw [h1] at hS
  have:=Ents_in (A:=es) (B:=[]) (e:=⟨k,sv,ws⟩) S (by simpa using hS)
  simpa using this
 | some e=>
  obtain ⟨A,B,_,h2,h3⟩:=delE_keys hf
  rw [h3];rw [h2] at hS
  exact Ents_in (e:=⟨k,sv,ws⟩) S hS
theorem ents_rl {es:List (EntV κ α)} {e:EntV κ α} (h:e ∈ es):RL (Ents E z enc es) z enc e.sv.v e.ws:=fun S hS=>by
 obtain ⟨A,B,rfl⟩:=List.append_of_mem h
 obtain ⟨_,S1,S2,_,h1,_,h2,_⟩:=Ents_out (E:=E) (z:=z) (enc:=enc) rfl S hS
 rcases sl_rl S1 h2 with h | ⟨b,o,c,l,t,a1,a2,a3,a4,a5⟩
 ·exact .inl h
 ·exact .inr ⟨b,o,c,l,t,a1,a2,h1 _ _ a3,a4,a5⟩
end
end Go.SL
namespace Go.SL
open Go
structure WasM where
  at_:UInt32
  val:UInt32
  gone:Bool
def WasM.c (w:WasM):List Value:=[.int .u32 w.at_.toNat,.int .u32 w.val.toNat,.bool w.gone]
theorem wasE:EncOk 3 WasM.c:=⟨fun _=>rfl,fun _=>rfl⟩
abbrev PS:=List (ByteArray × List WasM)
def findP (ws:List WasM) (n:UInt32):UInt32 × Bool:=match ws.reverse.find? fun w=>decide (w.at_≤n) with
  | some w=>(w.val,!w.gone)
  | none=>(0,false)
def valW (ws:List WasM) (n:UInt32):Option UInt32:=if (findP ws n).2 then some (findP ws n).1 else none
def lastW (ws:List WasM):UInt32:=(ws.getLast?.map (·.at_)).getD 0
def addW1 (ws:List WasM) (n:UInt32) (c:ChgM):List WasM:=(if ws≠[]∧lastW ws=n then ws.dropLast else ws)++[⟨n,c.val,c.gone⟩]
def putS (l:PS) (n:UInt32) (c:ChgM):PS:=setS l c.key (addW1 ((getS l c.key).getD []) n c)
def stepP (n:UInt32) (r:List RowM) (p:ByteArray × List WasM):List RowM:=match valW p.2 n with
  | some v=>setR r p.1 v
  | none=>r
def rowsP (l:PS) (n:UInt32):List RowM:=l.foldl (stepP n) []
def trimI (ws:List WasM) (n:UInt32):Nat→Nat
  | 0=>0
  | i+1=>match ws[i+1]? with
    | some w=>if n < w.at_ then trimI ws n i else i+1
    | none=>0
def trimW (ws:List WasM) (n:UInt32):List WasM:=ws.drop (trimI ws n (ws.length - 1))
def sinceP (l:PS) (n:UInt32) (s:SpanM):Bool:=l.any fun p=>decide (n < lastW p.2) && meet (one p.1) s
instance memB (k:ByteArray) (l:List ByteArray):Decidable (k ∈ l):=@List.instDecidableMemOfLawfulBEq _ instBEqOfDecidableEq _ k l
def bwdK (ws:List WasM):Nat→List (Nat × WasM)
  | 0=>[]
  | k+1=>(match ws[k]? with | some w=>[(k,w)] | none=>[])++bwdK ws k
theorem bwdK_map (ws:List WasM):∀ k,k≤ws.length→(bwdK ws k).map (·.2)=(ws.take k).reverse
  | 0,_=>by simp [bwdK]
  | k+1,h=>by
    have hx:=List.getElem?_eq_getElem (show k < ws.length by omega)
    rw [bwdK,hx,take_snoc hx,List.map_append,bwdK_map ws k (by omega),List.reverse_append];rfl
theorem findP_bwd (ws:List WasM) (n:UInt32):findP ws n=match (bwdK ws ws.length).find? (fun x=>decide (x.2.at_≤n)) with
    | some x=>(x.2.val,!x.2.gone)
    | none=>(0,false):=by
  have h:=bwdK_map ws ws.length (Nat.le_refl _)
  rw [List.take_length] at h
  unfold findP
  rw [← h,List.find?_map]
  simp only [Function.comp_def]
  cases (bwdK ws ws.length).find? fun x=>decide (x.2.at_≤n) <;> rfl
theorem findP_none {ws:List WasM} {n:UInt32} (h:Hist (fun _ (x:Nat × WasM)=>¬ x.2.at_≤n) (bwdK ws ws.length)):findP ws n=(0,false):=by
  rw [findP_bwd,List.find?_eq_none.2 (fun x hx=>by simpa using hist_all h x hx)]
theorem findP_some {ws:List WasM} {n:UInt32} {pre:List (Nat × WasM)} {x:Nat × WasM} (hp:∃ r,(pre++[x])++r=bwdK ws ws.length) (h:Hist (fun _ (x:Nat × WasM)=>¬ x.2.at_≤n) pre) (hx:¬ ¬ x.2.at_≤n):findP ws n=(x.2.val,!x.2.gone):=by
  obtain ⟨r,hr⟩:=hp
  rw [findP_bwd,← hr,List.append_assoc,List.find?_append,List.find?_eq_none.2 (fun y hy=>by simpa using hist_all h y hy)]
  simp only [Classical.not_not] at hx
  simp [hx]
theorem ents_key {E z:Nat} {enc:WasM→List Value} {es:List (EntV ByteArray WasM)} (k:ByteArray):RL (Ents E z enc es) z enc (svE es k).v (wsE es k):=by
  cases hf:findE es k with
  | none=>
    unfold svE wsE
    rw [hf]
    exact nil_rl
  | some e=>
    have h1:=ents_rl (E:=E) (z:=z) (enc:=enc) (findE_key hf).1
    unfold svE wsE
    rw [hf];exact h1
theorem of_lt32 {a b:UInt32} (h:decide (a < b)=true):a < b:=of_decide_eq_true h
theorem of_gt32 {a b:UInt32} (h:decide (a < b)=true):a < b:=of_decide_eq_true h
theorem of_ngt32 {a b:UInt32} (h:decide (a < b)=false):¬ a < b:=of_decide_eq_false h
theorem of_le32 {a b:UInt32} (h:decide ((a.toNat:Int)≤(b.toNat:Int))=true):a≤b:=by
  have:=of_decide_eq_true h;rw [UInt32.le_iff_toNat_le];omega
theorem of_nle32 {a b:UInt32} (h:decide ((a.toNat:Int)≤(b.toNat:Int))=false):¬ a≤b:=by
  have:=of_decide_eq_false h;rw [UInt32.le_iff_toNat_le];omega
theorem lastW_at {ws:List WasM} {w:WasM} (h:ws[ws.length - 1]?=some w):lastW ws=w.at_:=by
  unfold lastW;rw [List.getLast?_eq_getElem?,h];rfl
theorem since_mid (A B:List (EntV ByteArray WasM)) (y:EntV ByteArray WasM) (n:UInt32) (s:SpanM):sinceP ((A++y::B).map stE) n s=((decide (n < lastW y.ws) && meet (one y.key) s) || sinceP ((A++B).map stE) n s):=by
  unfold sinceP
  simp only [List.map_append,List.map_cons,List.any_append,List.any_cons,stE]
  cases decide (n < lastW y.ws) && meet (one y.key) s <;> simp
theorem trimI_step {ws:List WasM} {n:UInt32} {j:Nat} {w:WasM} (h:ws[j]?=some w) (h0:0 < j) (hw:n < w.at_):trimI ws n j=trimI ws n (j - 1):=by
  obtain ⟨i,rfl⟩:∃ i,j=i+1:=⟨j - 1,by omega⟩
  rw [trimI,h];simp [hw]
theorem trimI_stay {ws:List WasM} {n:UInt32} {j:Nat} {w:WasM} (h:ws[j]?=some w) (h0:0 < j) (hw:¬ n < w.at_):trimI ws n j=j:=by
  obtain ⟨i,rfl⟩:∃ i,j=i+1:=⟨j - 1,by omega⟩
  rw [trimI,h];simp [hw]
structure TrimI (es:List (EntV ByteArray WasM)) (n:UInt32) (left st:List (EntV ByteArray WasM)):Prop where
  nl:(left.map (·.key)).Nodup
  sub:∀ y ∈ left,y ∈ st
  old:∀ y ∈ left,y ∈ es
  keys:st.map (·.key)=es.map (·.key)
  nodup:(st.map (·.key)).Nodup
  val:st.map stE=es.map fun e=>(e.key,if e.key ∈ left.map (·.key) then e.ws else trimW e.ws n)
theorem TrimI.first {es:List (EntV ByteArray WasM)} (h:(es.map (·.key)).Nodup) (n:UInt32):TrimI es n es es:=by
  refine ⟨h,fun _ h=>h,fun _ h=>h,rfl,h,List.map_congr_left fun e he=>?_⟩
  rw [if_pos (List.mem_map.2 ⟨e,he,rfl⟩)];rfl
theorem TrimI.done {es st:List (EntV ByteArray WasM)} {n:UInt32} (h:TrimI es n [] st):st.map stE=(es.map stE).map fun p=>(p.1,trimW p.2 n):=by
  rw [h.val,List.map_map];rfl
theorem TrimI.step {es left st A B:List (EntV ByteArray WasM)} {n:UInt32} {y:EntV ByteArray WasM} (h:TrimI es n left st) (hl:left=A++y::B) {j:Nat} (hj:trimW y.ws n=y.ws.drop j):TrimI es n (A++B) (setE st y.key (subS y.sv j y.ws.length 3) (y.ws.drop j)):=by
  have hy:y ∈ st:=h.sub y (by rw [hl];simp)
  have hfe:=findE_mem h.nodup hy
  obtain ⟨A2,B2,h1,_,h3⟩:=delE_keys hfe
  have hnl:=h.nl
  rw [hl,List.map_append,List.map_cons] at hnl
  have hno:y.key ∉ (A++B).map (·.key):=by
    rw [List.map_append]
    intro hm
    obtain ⟨a1,a2,a3⟩:=List.nodup_append.1 hnl
    rcases List.mem_append.1 hm with hm | hm
    · exact a3 _ hm _ (by simp) rfl
    · exact (List.nodup_cons.1 a2).1 hm
  have hkk:(setE st y.key (subS y.sv j y.ws.length 3) (y.ws.drop j)).map (·.key)=st.map (·.key):=by rw [h3,h1];simp
  have hsub:∀ z ∈ A++B,z ∈ left∧z.key≠y.key:=fun z hz=>⟨by rw [hl];simp only [List.mem_append,List.mem_cons] at hz ⊢;rcases hz with h | h;exact .inl h;exact .inr (.inr h),fun e=>hno (e ▸ List.mem_map.2 ⟨z,hz,rfl⟩)⟩
  refine ⟨?_,fun z hz=>?_,fun z hz=>h.old z (hsub z hz).1,by rw [hkk];exact h.keys,by rw [hkk];exact h.nodup,?_⟩
  · rw [List.map_append]
    obtain ⟨a1,a2,a3⟩:=List.nodup_append.1 hnl
    exact List.nodup_append.2 ⟨a1,(List.nodup_cons.1 a2).2,fun a ha b hb=>a3 a ha b (by simp [hb])⟩
  · obtain ⟨k1,k2⟩:=hsub z hz
    have:=h.sub z k1
    rw [h1] at this
    rw [h3]
    simp only [List.mem_append,List.mem_cons] at this ⊢
    rcases this with h | rfl | h
    · exact .inl h
    · exact absurd rfl k2
    · exact .inr (.inr h)
  · 
    have hv:=h.val
    apply List.ext_getElem?
    intro i
    have hi:=congrArg (·[i]?) hv
    simp only [List.getElem?_map] at hi ⊢
    have hyi:st[A2.length]?=some y:=by rw [h1];simp
    have hset:(setE st y.key (subS y.sv j y.ws.length 3) (y.ws.drop j))[i]?=if i=A2.length then some ⟨y.key,subS y.sv j y.ws.length 3,y.ws.drop j⟩ else st[i]?:=by
      rw [h3,h1]
      by_cases e:i=A2.length
      · subst e;simp
      · rw [if_neg e]
        rcases Nat.lt_or_ge i A2.length with hlt | hge
        · rw [List.getElem?_append_left hlt,List.getElem?_append_left hlt]
        · rw [List.getElem?_append_right hge,List.getElem?_append_right hge]
          obtain ⟨q,hq⟩:∃ q,i - A2.length=q+1:=⟨i - A2.length - 1,by omega⟩
          rw [hq];simp
    rw [hset]
    by_cases e:i=A2.length
    · subst e
      rw [if_pos rfl]
      rw [hyi] at hi
      cases hE:es[A2.length]? with
      | none=>rw [hE] at hi;simp at hi
      | some e0=>
        rw [hE] at hi
        simp only [Option.map_some,Option.some.injEq,stE,Prod.mk.injEq] at hi ⊢
        obtain ⟨hi1,hi2⟩:=hi
        rw [← hi1] at hi2 ⊢
        rw [if_pos (by rw [hl];simp)] at hi2
        rw [if_neg hno,← hi2,hj]
        exact ⟨rfl,rfl⟩
    · rw [if_neg e]
      rw [hi]
      cases hE:es[i]? with
      | none=>rfl
      | some e0=>
        simp only [Option.map_some,Option.some.injEq,Prod.mk.injEq,true_and]
        have hne:e0.key≠y.key:=fun ek=>by
          have hlt:=idx_lt hE
          have k1:(es.map (·.key))[i]?=some y.key:=by rw [List.getElem?_map,hE];simp [ek]
          have k2:(es.map (·.key))[A2.length]?=some y.key:=by rw [← h.keys,List.getElem?_map,hyi];rfl
          have hnd:(es.map (·.key)).Nodup:=h.keys ▸ h.nodup
          exact e ((List.getElem?_inj (i:=i) (by simpa using hlt) hnd).1 (k1.trans k2.symm))
        have hiff:e0.key ∈ left.map (·.key)↔e0.key ∈ (A++B).map (·.key):=by
          rw [hl]
          simp only [List.map_append,List.map_cons,List.mem_append,List.mem_cons]
          constructor
          · rintro (h | h | h)
            · exact .inl h
            · exact absurd h hne
            · exact .inr h
          · rintro (h | h)
            · exact .inl h
            · exact .inr (.inr h)
        simp only [hiff]
theorem chg_key {c:ChgM} (h:chgOk c=true):keyOk c.key=true:=by unfold chgOk at h;simp at h;exact h.1
theorem chg_gone {c:ChgM} (h:chgOk c=true) (g:c.gone=true):c.val=0:=by unfold chgOk at h;simp [g] at h;exact h.2
section
variable {P : Program} {g : World} {Γ : Env} {L M : List HP} {dst : Option Tmp} {t : TypeId} {pos : String} {aft : Array Edge} {gd : Option (Nat × Bool)}
theorem em_lookE {A:HP} {m:Value} {d:TypeDesc} {kt:TypeId} {es:List (EntV ByteArray WasM)} {x i:Operand} {T e:TypeId} {k:ByteArray} (ht:P.underlying T=some (.map kt e)) (hk:KeyOk P kt d eStr) (hz:(P.info? e).bind (·.zero)=some (.slice none 0 0)) (hA:RdM A eStr m (es.map kvE)) (hx:ev Γ x=some m:=by rfl) (hi:ev Γ i=some (.string k):=by rfl) (hp:Pick L A M:=by repeat first | exact .z | apply Pick.s) :
    EO P g ⟨dst,.lookup T x i false,t,pos,aft,gd⟩ Γ L (svE es k).v:=mget_svE es k ▸ em_lookup ht hk hz hA hx hi hp
end
end Go.SL
namespace Go.SL
open Go
abbrev HistT:=List (List ChgM)
def getR (l:List RowM) (k:ByteArray):Option UInt32:=(l.find? fun r=>decide (r.key=k)).map (·.val)
theorem mem_getR {l:List RowM} (h:Rising l) {r:RowM}:r ∈ l↔getR l r.key=some r.val:=by
 unfold getR
 constructor
 ·intro hr
  cases hf:l.find? fun x=>decide (x.key=r.key) with
  | none=>have:=List.find?_eq_none.1 hf r hr;simp at this
  | some x=>
   have h1:=List.find?_some hf
   have h2:=List.mem_of_find?_eq_some hf
   rw [rising_one h h2 hr (by simpa using h1)];rfl
 ·intro hg
  rw [Option.map_eq_some_iff] at hg
  obtain ⟨x,hx,hv⟩:=hg
  have h1:=List.find?_some hx
  have h2:=List.mem_of_find?_eq_some hx
  have:x=r:=by cases x;cases r;simp at h1 hv;simp [h1,hv]
  exact this ▸ h2
theorem getR_ext {a b:List RowM} (ha:Rising a) (hb:Rising b) (h:∀ k,getR a k=getR b k):a=b:=rising_ext ha hb fun r=>by rw [mem_getR ha,mem_getR hb,h]
theorem getR_mem {l:List RowM} {k:ByteArray} {v:UInt32} (h:getR l k=some v):(⟨k,v⟩:RowM) ∈ l:=by
 unfold getR at h
 rw [Option.map_eq_some_iff] at h
 obtain ⟨x,hx,hv⟩:=h
 have h1:=List.find?_some hx
 have h2:=List.mem_of_find?_eq_some hx
 have:x=⟨k,v⟩:=by cases x;simp at h1 hv;simp [h1,hv]
 exact this ▸ h2
theorem getR_iff {l:List RowM} (h:Rising l) (k:ByteArray) (o:Option UInt32) (hk:∀ v,(⟨k,v⟩:RowM) ∈ l↔o=some v):getR l k=o:=by
 cases e:getR l k with
 | some v=>exact ((hk v).1 (getR_mem e)).symm
 | none=>
  cases o with
  | none=>rfl
  | some v=>have:=(mem_getR h).1 ((hk v).2 rfl);rw [e] at this;cases this
theorem getR_apply {l:List RowM} (h:Rising l) (c:ChgM) (k:ByteArray):getR (applyC l c) k=if k=c.key then (if c.gone then none else some c.val) else getR l k:=by
 refine getR_iff (applyC_rising h c).1 k _ fun v=>?_
 rw [mem_applyC h]
 by_cases e:k=c.key
 ·rw [if_pos e]
  cases hg:c.gone with
  | true=>simp [e]
  | false=>
   simp only [Bool.false_eq_true,if_false,Option.some.injEq]
   constructor
   ·rintro (⟨_,h2⟩ | ⟨_,h2⟩)
    ·cases h2;rfl
    ·exact absurd e h2
   ·rintro rfl;exact .inl ⟨trivial,by rw [e]⟩
 ·rw [if_neg e]
  constructor
  ·rintro (⟨_,h2⟩ | ⟨h1,_⟩)
   ·cases h2;exact absurd rfl e
   ·exact (mem_getR h).1 h1
  ·intro hv;exact .inr ⟨getR_mem hv,e⟩
def rowsN (H:List (List ChgM)) (n:Nat):List RowM:=changeR [] (H.take n).flatten
theorem rowsN_rising (H:List (List ChgM)) (n:Nat):Rising (rowsN H n):=(changeR_rising _ List.Pairwise.nil).1
theorem changeR_app (V:List RowM) (a b:List ChgM):changeR V (a++b)=changeR (changeR V a) b:=by simp [changeR]
theorem rowsN_old {H:List (List ChgM)} {n:Nat} (h:n≤H.length) (cs:List ChgM):rowsN (H++[cs]) n=rowsN H n:=by
 unfold rowsN;rw [List.take_append_of_le_length h]
theorem rowsN_new (H:List (List ChgM)) (cs:List ChgM):rowsN (H++[cs]) (H.length+1)=changeR (rowsN H H.length) cs:=by
 unfold rowsN
 rw [List.take_of_length_le (by simp),List.take_of_length_le (Nat.le_refl _),List.flatten_append,changeR_app];simp
theorem rowsN_len (H:List (List ChgM)) (n:Nat):(rowsN H n).length≤H.flatten.length:=by
 have h1:=(changeR_rising (H.take n).flatten (l:=[]) List.Pairwise.nil).2
 have h2:(H.take n).flatten.length≤H.flatten.length:=by
  conv=>rhs;rw [← List.take_append_drop n H,List.flatten_append,List.length_append]
  omega
 unfold rowsN
 rw [List.length_nil] at h1;omega
def valP (l:PS) (k:ByteArray) (n:UInt32):Option UInt32:=match getS l k with
 | some ws=>valW ws n
 | none=>none
def lastOk (H:List (List ChgM)) (k:ByteArray) (a:UInt32):Prop:=
 (∃ cs,1≤a.toNat∧H[a.toNat - 1]?=some cs∧∃ c ∈ cs,c.key=k)∧∀ j cs,a.toNat≤j→H[j]?=some cs→∀ c ∈ cs,c.key≠k
structure PastOk (l:PS) (now trim:UInt32) (H:List (List ChgM)):Prop where
 nowH:now.toNat=H.length
 trimH:trim≤now
 nodup:(l.map (·.1)).Nodup
 ne:∀ p ∈ l,p.2≠[]
 keys:∀ p ∈ l,keyOk p.1=true
 le:∀ p ∈ l,∀ w ∈ p.2,w.at_≤now
 val:∀ k n,trim≤n→n≤now→valP l k n=getR (rowsN H n.toNat) k
 last:∀ p ∈ l,lastOk H p.1 (lastW p.2)
 sure:∀ cs ∈ H,∀ c ∈ cs,(getS l c.key).isSome=true
 size:l.length≤H.flatten.length
 lens:∀ p ∈ l,p.2.length≤H.length
theorem PastOk.now_eq {l:PS} {now trim:UInt32} {H:List (List ChgM)} (h:PastOk l now trim H):now=UInt32.ofNat H.length:=by rw [← h.nowH,UInt32.ofNat_toNat]
theorem last_app (ws:List WasM) (w:WasM):lastW (ws++[w])=w.at_:=by simp [lastW]
theorem addW1_last (ws:List WasM) (n:UInt32) (c:ChgM):lastW (addW1 ws n c)=n:=by unfold addW1;rw [last_app]
theorem addW1_ne (ws:List WasM) (n:UInt32) (c:ChgM):addW1 ws n c≠[]:=by unfold addW1;simp
theorem findP_app (ws:List WasM) (w:WasM) (n:UInt32):findP (ws++[w]) n=if w.at_≤n then (w.val,!w.gone) else findP ws n:=by
 unfold findP
 rw [List.reverse_append,List.reverse_singleton,List.singleton_append,List.find?_cons]
 by_cases h:w.at_≤n <;> simp [h]
theorem last_split {ws:List WasM} (h:ws≠[]):∃ w,ws=ws.dropLast++[w]∧lastW ws=w.at_:=by
 refine ⟨ws.getLast h,(List.dropLast_concat_getLast h).symm,?_⟩
 unfold lastW
 rw [List.getLast?_eq_some_getLast h];rfl
theorem addW1_old (ws:List WasM) {n m:UInt32} (h:m < n) (c:ChgM):valW (addW1 ws n c) m=valW ws m:=by
 have hn:¬ n≤m:=fun e=>UInt32.lt_irrefl _ (UInt32.lt_of_lt_of_le h e)
 have e:findP (addW1 ws n c) m=findP ws m:=by
  unfold addW1
  rw [findP_app]
  simp only [hn,if_false]
  split
  ·rename_i hc
   obtain ⟨w,h1,h2⟩:=last_split hc.1
   conv=>rhs;rw [h1]
   rw [findP_app,← h2,hc.2,if_neg hn]
  ·rfl
 unfold valW;rw [e]
theorem addW1_new (ws:List WasM) (n:UInt32) (c:ChgM):valW (addW1 ws n c) n=if c.gone then none else some c.val:=by
 have e:findP (addW1 ws n c) n=(c.val,!c.gone):=by
  unfold addW1
  rw [findP_app];simp
 unfold valW;rw [e]
 cases c.gone <;> simp
theorem addW1_mem {ws:List WasM} {n:UInt32} {c:ChgM} {w:WasM} (h:w ∈ addW1 ws n c):w ∈ ws∨w.at_=n:=by
 unfold addW1 at h
 rcases List.mem_append.1 h with h | h
 ·split at h
  ·exact .inl (List.dropLast_subset _ h)
  ·exact .inl h
 ·simp at h;subst h;exact .inr rfl
theorem findP_last {ws:List WasM} {n m:UInt32} (hn:∀ w ∈ ws,w.at_≤n) (hm:∀ w ∈ ws,w.at_≤m):findP ws n=findP ws m:=by
 unfold findP
 cases h:ws.reverse with
 | nil=>rfl
 | cons w l=>
  have hw:w ∈ ws:=by rw [← List.mem_reverse,h];simp
  simp [List.find?_cons,hn w hw,hm w hw]
structure MidOk (l:PS) (now trim:UInt32) (H:List (List ChgM)) (pre:List ChgM):Prop where
 nodup:(l.map (·.1)).Nodup
 ne:∀ p ∈ l,p.2≠[]
 keys:∀ p ∈ l,keyOk p.1=true
 le:∀ p ∈ l,∀ w ∈ p.2,w.at_≤now+1
 val:∀ k n,trim≤n→n≤now→valP l k n=getR (rowsN H n.toNat) k
 new:∀ k,valP l k (now+1)=getR (changeR (rowsN H H.length) pre) k
 last:∀ p ∈ l,(lastW p.2=now+1∧∃ c ∈ pre,c.key=p.1)∨(lastOk H p.1 (lastW p.2)∧∀ c ∈ pre,c.key≠p.1)
 sure:∀ cs ∈ H,∀ c ∈ cs,(getS l c.key).isSome=true
 pres:∀ c ∈ pre,(getS l c.key).isSome=true
 size:l.length≤H.flatten.length+pre.length
 lens:∀ p ∈ l,p.2.length≤H.length∨(lastW p.2=now+1∧p.2.length≤H.length+1)
theorem setS_len (l:PS) (k:ByteArray) (ws:List WasM):(setS l k ws).length≤l.length+1:=by
 unfold setS;split <;> simp
theorem PastOk.start {l:PS} {now trim:UInt32} {H:List (List ChgM)} (h:PastOk l now trim H) (hb:H.length < 4294967295):MidOk l now trim H []:=by
 have hlt:now≤now+1:=by rw [UInt32.le_iff_toNat_le,UInt32.toNat_add,h.nowH];simp;omega
 refine ⟨h.nodup,h.ne,h.keys,fun p hp w hw=>UInt32.le_trans (h.le p hp w hw) hlt,h.val,fun k=>?_,fun p hp=>.inr ⟨h.last p hp,by simp⟩,h.sure,by simp,h.size,fun p hp=>.inl (h.lens p hp)⟩
 have h1:=h.val k now h.trimH (UInt32.le_refl _)
 rw [h.nowH] at h1
 show valP l k (now+1)=getR (rowsN H H.length) k
 rw [← h1]
 unfold valP
 cases hg:getS l k with
 | none=>rfl
 | some ws=>
  have hm:=getS_some hg
  have:findP ws (now+1)=findP ws now:=findP_last (fun w hw=>UInt32.le_trans (h.le _ hm w hw) hlt) (fun w hw=>h.le _ hm w hw)
  simp only [valW,this]
theorem MidOk.step {l:PS} {now trim:UInt32} {H:List (List ChgM)} {pre:List ChgM} (h:MidOk l now trim H pre) (hnow:now.toNat=H.length) (hb:H.length < 4294967295) (c:ChgM) (hc:keyOk c.key=true):MidOk (putS l (now+1) c) now trim H (pre++[c]):=by
 have hlt:now < now+1:=by rw [UInt32.lt_iff_toNat_lt,UInt32.toNat_add,hnow];simp;omega
 have hmem:∀ p ∈ putS l (now+1) c,(p.1=c.key∧p.2=addW1 ((getS l c.key).getD []) (now+1) c)∨(p.1≠c.key∧p ∈ l):=fun p hp=>by
  have h1:=getS_mem (setS_nodup h.nodup c.key (addW1 ((getS l c.key).getD []) (now+1) c)) hp
  rw [setS_get] at h1
  by_cases e:p.1=c.key
  ·rw [if_pos e] at h1;exact .inl ⟨e,(Option.some.inj h1).symm⟩
  ·rw [if_neg e] at h1;exact .inr ⟨e,getS_some h1⟩
 have hv:∀ k n,valP (putS l (now+1) c) k n=if k=c.key then valW (addW1 ((getS l c.key).getD []) (now+1) c) n else valP l k n:=fun k n=>by
  unfold valP putS
  rw [setS_get]
  by_cases e:k=c.key <;> simp [e]
 refine ⟨setS_nodup h.nodup _ _,fun p hp=>?_,fun p hp=>?_,fun p hp w hw=>?_,fun k n h1 h2=>?_,fun k=>?_,fun p hp=>?_,fun cs hcs c' hc'=>?_,fun c' hc'=>?_,?_,fun p hp=>?_⟩
 ·rcases hmem p hp with ⟨_,h2⟩ | ⟨_,h2⟩
  ·rw [h2];exact addW1_ne _ _ _
  ·exact h.ne p h2
 ·rcases hmem p hp with ⟨h1,_⟩ | ⟨_,h2⟩
  ·rw [h1];exact hc
  ·exact h.keys p h2
 ·rcases hmem p hp with ⟨_,h2⟩ | ⟨_,h2⟩
  ·rw [h2] at hw
   rcases addW1_mem hw with hw | hw
   ·cases hg:getS l c.key with
    | none=>rw [hg] at hw;simp at hw
    | some ws=>rw [hg] at hw;exact h.le _ (getS_some hg) w hw
   ·rw [hw];exact UInt32.le_refl _
  ·exact h.le p h2 w hw
 ·rw [hv]
  by_cases e:k=c.key
  ·rw [if_pos e,addW1_old _ (UInt32.lt_of_le_of_lt h2 hlt),← h.val k n h1 h2,e]
   unfold valP
   cases getS l c.key <;> rfl
  ·rw [if_neg e];exact h.val k n h1 h2
 ·rw [hv,changeR_snoc,getR_apply (changeR_rising pre (rowsN_rising H _)).1,addW1_new,h.new]
 ·rcases hmem p hp with ⟨h1,h2⟩ | ⟨h1,h2⟩
  ·left
   rw [h2]
   exact ⟨addW1_last _ _ _,c,by simp,h1.symm⟩
  ·rcases h.last p h2 with ⟨a,c',b1,b2⟩ | ⟨a,b⟩
   ·exact .inl ⟨a,c',by simp [b1],b2⟩
   ·refine .inr ⟨a,fun c' hc'=>?_⟩
    rcases List.mem_append.1 hc' with hc' | hc'
    ·exact b c' hc'
    ·simp at hc';subst hc';exact fun e=>h1 e.symm
 ·unfold putS;rw [setS_get];split
  ·rfl
  ·exact h.sure cs hcs c' hc'
 ·unfold putS;rw [setS_get];split
  ·rfl
  ·rcases List.mem_append.1 hc' with hc' | hc'
   ·exact h.pres c' hc'
   ·simp at hc';subst hc';rename_i hne;exact absurd rfl hne
 ·have:=setS_len l c.key (addW1 ((getS l c.key).getD []) (now+1) c)
  have:=h.size
  unfold putS;rw [List.length_append,List.length_singleton];omega
 ·rcases hmem p hp with ⟨_,h2⟩ | ⟨_,h2⟩
  ·right
   rw [h2]
   refine ⟨addW1_last _ _ _,?_⟩
   have hw:((getS l c.key).getD []).length≤H.length∨(lastW ((getS l c.key).getD [])=now+1∧((getS l c.key).getD []).length≤H.length+1):=by
    cases hg:getS l c.key with
    | none=>left;simp
    | some ws=>exact h.lens _ (getS_some hg)
   unfold addW1
   rw [List.length_append,List.length_singleton]
   split
   ·rename_i hc'
    rw [List.length_dropLast]
    have:=List.length_pos_iff.2 hc'.1
    rcases hw with hw | ⟨_,hw⟩ <;> omega
   ·rename_i hc'
    rcases hw with hw | ⟨hl,hw⟩
    ·omega
    ·have:(getS l c.key).getD []=[]:=by
      cases e:(getS l c.key).getD [] with
      | nil=>rfl
      | cons a b=>exact absurd ⟨by rw [e];simp,hl⟩ hc'
     rw [this];simp
  ·exact h.lens p h2
theorem MidOk.done {l l0:PS} {now trim:UInt32} {H:List (List ChgM)} (h:PastOk l0 now trim H) (hb:H.length < 4294967295) {cs:List ChgM} (hm:MidOk l now trim H cs):PastOk l (now+1) trim (H++[cs]):=by
 have hn1:(now+1).toNat=H.length+1:=by rw [UInt32.toNat_add,h.nowH];simp;omega
 have hlt:now < now+1:=by rw [UInt32.lt_iff_toNat_lt,hn1,h.nowH];omega
 refine ⟨by rw [hn1];simp,UInt32.le_trans h.trimH (UInt32.le_of_lt hlt),hm.nodup,hm.ne,hm.keys,hm.le,fun k n h1 h2=>?_,fun p hp=>?_,fun cs' hcs c' hc'=>?_,by have:=hm.size;rw [List.flatten_append,List.length_append,List.flatten_singleton];exact this,fun p hp=>by have:=hm.lens p hp;rw [List.length_append,List.length_singleton];omega⟩
 ·by_cases e:n=now+1
  ·subst e;rw [hm.new,hn1,rowsN_new]
  ·have hle:n≤now:=by
    rw [UInt32.le_iff_toNat_le] at h2 ⊢
    have:n.toNat≠(now+1).toNat:=fun h3=>e (UInt32.toNat_inj.1 h3)
    rw [hn1] at this h2;rw [h.nowH];omega
   rw [hm.val k n h1 hle,rowsN_old]
   rw [UInt32.le_iff_toNat_le,h.nowH] at hle;exact hle
 ·rcases hm.last p hp with ⟨h1,c,h2,h3⟩ | ⟨⟨⟨cs',h1,h2,h3⟩,h4⟩,h5⟩
  ·rw [h1]
   refine ⟨⟨cs,by omega,by rw [hn1];simp,c,h2,h3⟩,fun j cs' hj hcs=>?_⟩
   rw [hn1] at hj
   rw [List.getElem?_eq_none (by simp;omega)] at hcs;cases hcs
  ·refine ⟨⟨cs',h1,?_,h3⟩,fun j cs'' hj hcs=>?_⟩
   ·rw [List.getElem?_append_left (idx_lt h2)];exact h2
   ·rcases Nat.lt_or_ge j H.length with hjl | hjl
    ·rw [List.getElem?_append_left hjl] at hcs;exact h4 j cs'' hj hcs
    ·rw [List.getElem?_append_right hjl] at hcs
     have:cs''=cs:=by
      cases hd:j - H.length with
      | zero=>rw [hd] at hcs;simpa using hcs.symm
      | succ q=>rw [hd] at hcs;simp at hcs
     subst this;exact h5
 ·rcases List.mem_append.1 hcs with hcs | hcs
  ·exact hm.sure cs' hcs c' hc'
  ·simp at hcs;subst hcs;exact hm.pres c' hc'
theorem trimI_spec (ws:List WasM) (n:UInt32):∀ i,trimI ws n i≤i∧(trimI ws n i=0∨∃ w,ws[trimI ws n i]?=some w∧w.at_≤n)
 | 0=>⟨Nat.le_refl _,.inl rfl⟩
 | i+1=>by
  have ih:=trimI_spec ws n i
  unfold trimI
  cases e:ws[i+1]? with
  | none=>exact ⟨Nat.zero_le _,.inl rfl⟩
  | some w=>
   simp only
   split
   ·exact ⟨by omega,ih.2⟩
   ·rename_i h;exact ⟨Nat.le_refl _,.inr ⟨w,e,UInt32.not_lt.1 h⟩⟩
theorem findP_drop {ws:List WasM} {i:Nat} {w:WasM} {n:UInt32} (h:ws[i]?=some w) (hw:w.at_≤n):findP (ws.drop i) n=findP ws n:=by
 have hlt:=idx_lt h
 have e:ws.drop i=w::ws.drop (i+1):=by
  rw [List.drop_eq_getElem_cons hlt];rw [List.getElem?_eq_getElem hlt] at h;cases h;rfl
 have e2:ws.reverse=(ws.drop i).reverse++(ws.take i).reverse:=by rw [← List.reverse_append,List.take_append_drop]
 unfold findP
 rw [e2,List.find?_append]
 cases hf:(ws.drop i).reverse.find? fun w=>decide (w.at_≤n) with
 | some x=>rfl
 | none=>
  have:=List.find?_eq_none.1 hf w (by rw [List.mem_reverse,e];simp)
  simp [hw] at this
theorem trimW_val (ws:List WasM) {n m:UInt32} (h:n≤m):valW (trimW ws n) m=valW ws m:=by
 unfold trimW
 rcases (trimI_spec ws n (ws.length - 1)).2 with h0 | ⟨w,h1,h2⟩
 ·rw [h0,List.drop_zero]
 ·unfold valW;rw [findP_drop h1 (UInt32.le_trans h2 h)]
theorem trimW_ne {ws:List WasM} (h:ws≠[]) (n:UInt32):trimW ws n≠[]∧lastW (trimW ws n)=lastW ws:=by
 have h1:=(trimI_spec ws n (ws.length - 1)).1
 have h2:0 < ws.length:=List.length_pos_iff.2 h
 have h3:trimW ws n≠[]:=by
  unfold trimW;intro e;have:=congrArg List.length e;rw [List.length_drop] at this;simp at this;omega
 refine ⟨h3,?_⟩
 unfold lastW trimW
 rw [List.getLast?_drop,if_neg (by omega)]
theorem getS_map (l:PS) (f:List WasM→List WasM) (k:ByteArray):getS (l.map fun p=>(p.1,f p.2)) k=(getS l k).map f:=by
 unfold getS
 induction l with
 | nil=>rfl
 | cons x l ih=>
  simp only [List.map_cons,List.find?_cons]
  by_cases h:x.1=k
  ·simp [h]
  ·simp only [h,decide_false];exact ih
theorem PastOk.trimmed {l:PS} {now trim:UInt32} {H:List (List ChgM)} (h:PastOk l now trim H) {n:UInt32} (h1:trim≤n) (h2:n≤now):PastOk (l.map fun p=>(p.1,trimW p.2 n)) now n H:=by
 have hm:∀ p ∈ l.map (fun p=>(p.1,trimW p.2 n)),∃ q ∈ l,p=(q.1,trimW q.2 n):=fun p hp=>by
  obtain ⟨q,hq,rfl⟩:=List.mem_map.1 hp;exact ⟨q,hq,rfl⟩
 refine ⟨h.nowH,h2,by rw [List.map_map];exact h.nodup,fun p hp=>?_,fun p hp=>?_,fun p hp w hw=>?_,fun k m h3 h4=>?_,fun p hp=>?_,fun cs hcs c hc=>?_,?_,fun p hp=>?_⟩
 ·obtain ⟨q,hq,rfl⟩:=hm p hp;exact (trimW_ne (h.ne q hq) n).1
 ·obtain ⟨q,hq,rfl⟩:=hm p hp;exact h.keys q hq
 ·obtain ⟨q,hq,rfl⟩:=hm p hp;exact h.le q hq w (List.mem_of_mem_drop hw)
 ·rw [← h.val k m (UInt32.le_trans h1 h3) h4]
  unfold valP
  rw [getS_map l (fun ws=>trimW ws n) k]
  cases getS l k with
  | none=>rfl
  | some ws=>exact trimW_val ws h3
 ·obtain ⟨q,hq,rfl⟩:=hm p hp
  show lastOk H q.1 (lastW (trimW q.2 n))
  rw [(trimW_ne (h.ne q hq) n).2];exact h.last q hq
 ·rw [getS_map l (fun ws=>trimW ws n),Option.isSome_map];exact h.sure cs hcs c hc
 ·rw [List.length_map];exact h.size
 ·obtain ⟨q,hq,rfl⟩:=hm p hp
  have:=h.lens q hq
  show (trimW q.2 n).length≤_
  unfold trimW;rw [List.length_drop];omega
theorem foldP_rising (n:UInt32):∀ (l:PS) {r:List RowM},Rising r→Rising (l.foldl (stepP n) r)
 | [],_,h=>h
 | p::l,r,h=>by
  rw [List.foldl_cons]
  apply foldP_rising n l
  unfold stepP
  split
  ·exact (setR_spec h _ _).1
  ·exact h
theorem foldP_get (n:UInt32) (k:ByteArray):∀ (l:PS) {r:List RowM},(l.map (·.1)).Nodup→Rising r→getR (l.foldl (stepP n) r) k=(valP l k n).or (getR r k)
 | [],_,_,_=>rfl
 | p::l,r,hn,h=>by
  rw [List.foldl_cons]
  rw [List.map_cons] at hn
  obtain ⟨hn1,hn2⟩:=List.nodup_cons.1 hn
  have hset:∀ v,getR (setR r p.1 v) k=if k=p.1 then some v else getR r k:=fun v=>by
   have:=getR_apply h ⟨p.1,v,false⟩ k
   simpa [applyC] using this
  have hP:valP (p::l) k n=if p.1=k then valW p.2 n else valP l k n:=by
   unfold valP getS
   rw [List.find?_cons]
   by_cases e:p.1=k <;> simp [e]
  rw [hP]
  by_cases e:p.1=k
  ·rw [if_pos e]
   have hno:valP l k n=none:=by
    unfold valP
    cases hg:getS l k with
    | none=>rfl
    | some ws=>exact absurd (List.mem_map.2 ⟨_,getS_some hg,rfl⟩) (e ▸ hn1)
   cases hv:valW p.2 n with
   | none=>rw [show stepP n r p=r by unfold stepP;rw [hv],foldP_get n k l hn2 h,hno]
   | some v=>rw [show stepP n r p=setR r p.1 v by unfold stepP;rw [hv],foldP_get n k l hn2 (setR_spec h _ _).1,hno,hset,if_pos e.symm];rfl
  ·rw [if_neg e]
   cases hv:valW p.2 n with
   | none=>rw [show stepP n r p=r by unfold stepP;rw [hv],foldP_get n k l hn2 h]
   | some v=>
    rw [show stepP n r p=setR r p.1 v by unfold stepP;rw [hv],foldP_get n k l hn2 (setR_spec h _ _).1,hset,if_neg (fun h=>e h.symm)]
theorem rowsP_rising (l:PS) (n:UInt32):Rising (rowsP l n):=foldP_rising n l List.Pairwise.nil
theorem PastOk.rows {l:PS} {now trim:UInt32} {H:List (List ChgM)} (h:PastOk l now trim H) {n:UInt32} (h1:trim≤n) (h2:n≤now):rowsP l n=rowsN H n.toNat:=by
 refine getR_ext (rowsP_rising l n) (rowsN_rising H _) fun k=>?_
 rw [← h.val k n h1 h2]
 unfold rowsP
 rw [foldP_get n k l h.nodup List.Pairwise.nil]
 cases valP l k n <;> rfl
def sinceH (H:List (List ChgM)) (n:Nat) (s:SpanM):Bool:=(H.drop n).any fun cs=>cs.any fun c=>inSpan s c.key
theorem PastOk.since {l:PS} {now trim:UInt32} {H:List (List ChgM)} (h:PastOk l now trim H) (n:UInt32) (s:SpanM):sinceP l n s=sinceH H n.toNat s:=by
 rw [Bool.eq_iff_iff]
 unfold sinceP sinceH
 simp only [List.any_eq_true,Bool.and_eq_true,decide_eq_true_eq,meet_one]
 constructor
 ·rintro ⟨p,hp,h1,h2⟩
  obtain ⟨⟨cs,a1,a2,c,a3,a4⟩,_⟩:=h.last p hp
  refine ⟨cs,?_,c,a3,by rw [a4];exact h2⟩
  rw [UInt32.lt_iff_toNat_lt] at h1
  exact List.mem_iff_getElem?.2 ⟨(lastW p.2).toNat - 1 - n.toNat,by rw [List.getElem?_drop,← a2];congr 1;omega⟩
 ·rintro ⟨cs,hcs,c,hc,h2⟩
  obtain ⟨j,hj⟩:=List.mem_iff_getElem?.1 hcs
  rw [List.getElem?_drop] at hj
  have hs:=h.sure cs (List.mem_of_getElem? hj) c hc
  cases hg:getS l c.key with
  | none=>rw [hg] at hs;cases hs
  | some ws=>
   have hm:=getS_some hg
   refine ⟨_,hm,?_,h2⟩
   rw [UInt32.lt_iff_toNat_lt]
   rcases Nat.lt_or_ge n.toNat (lastW ws).toNat with h3 | h3
   ·exact h3
   ·exact absurd rfl ((h.last _ hm).2 (n.toNat+j) cs (by show (lastW ws).toNat≤_;omega) hj c hc)
theorem PastOk.init:PastOk [] 0 0 []:=⟨rfl,UInt32.le_refl _,List.nodup_nil,by simp,by simp,by simp,fun k n _ _=>by simp [valP,getS,rowsN,changeR,getR],by simp,by simp,by simp,by simp⟩
structure ScanI (l:PS) (n:UInt32) (left:List ByteArray) (rows:List RowM):Prop where
 rising:Rising rows
 nodup:left.Nodup
 val:∀ k,getR rows k=if k ∈ left then none else valP l k n
theorem ScanI.first {l:PS} {left:List ByteArray} (h:left=l.map (·.1)) (hn:(l.map (·.1)).Nodup) (n:UInt32):ScanI l n left []:=by
 refine ⟨List.Pairwise.nil,h ▸ hn,fun k=>?_⟩
 split
 ·rfl
 ·rename_i hk
  unfold valP
  cases hg:getS l k with
  | none=>rfl
  | some ws=>exact absurd (h ▸ List.mem_map.2 ⟨_,getS_some hg,rfl⟩) hk
theorem getR_set {l:List RowM} (h:Rising l) (k:ByteArray) (v:UInt32) (j:ByteArray):getR (setR l k v) j=if j=k then some v else getR l j:=by
 have:=getR_apply h ⟨k,v,false⟩ j
 simpa [applyC] using this
theorem mid_nodup {A B:List ByteArray} {k:ByteArray} (h:(A++k::B).Nodup):(A++B).Nodup∧k ∉ A++B:=by
 obtain ⟨a1,a2,a3⟩:=List.nodup_append.1 h
 obtain ⟨b1,b2⟩:=List.nodup_cons.1 a2
 refine ⟨List.nodup_append.2 ⟨a1,b2,fun a ha b hb=>a3 a ha b (by simp [hb])⟩,fun hm=>?_⟩
 rcases List.mem_append.1 hm with hm | hm
 ·exact a3 _ hm _ (by simp) rfl
 ·exact b1 hm
theorem ScanI.put {l:PS} {n:UInt32} {left A B:List ByteArray} {rows:List RowM} {k:ByteArray} {ws:List WasM} (h:ScanI l n left rows) (hl:left=A++k::B) (hg:getS l k=some ws) (hf:(findP ws n).2=true):ScanI l n (A++B) (setR rows k (findP ws n).1):=by
 obtain ⟨h1,h2⟩:=mid_nodup (hl ▸ h.nodup)
 refine ⟨(setR_spec h.rising _ _).1,h1,fun j=>?_⟩
 rw [getR_set h.rising]
 by_cases e:j=k
 ·subst e
  rw [if_pos rfl,if_neg h2]
  unfold valP;rw [hg];simp [valW,hf]
 ·rw [if_neg e,h.val,hl]
  have:j ∈ A++k::B↔j ∈ A++B:=by simp [e]
  simp only [this]
theorem ScanI.skip {l:PS} {n:UInt32} {left A B:List ByteArray} {rows:List RowM} {k:ByteArray} {ws:List WasM} (h:ScanI l n left rows) (hl:left=A++k::B) (hg:getS l k=some ws) (hf:(findP ws n).2=false):ScanI l n (A++B) rows:=by
 obtain ⟨h1,h2⟩:=mid_nodup (hl ▸ h.nodup)
 refine ⟨h.rising,h1,fun j=>?_⟩
 rw [h.val,hl]
 by_cases e:j=k
 ·subst e
  rw [if_pos (by simp),if_neg h2]
  unfold valP;rw [hg];simp [valW,hf]
 ·have:j ∈ A++k::B↔j ∈ A++B:=by simp [e]
  simp only [this]
theorem ScanI.done {l:PS} {now trim n:UInt32} {H:List (List ChgM)} {rows:List RowM} (h:ScanI l n [] rows) (hP:PastOk l now trim H) (h1:trim≤n) (h2:n≤now):rows=rowsN H n.toNat:=by
 refine getR_ext h.rising (rowsN_rising H _) fun k=>?_
 rw [h.val,← hP.val k n h1 h2];simp
theorem putS_ents (es:List (EntV ByteArray WasM)) (n:UInt32) (c:ChgM) (sv:SV):(setE es c.key sv (addW1 (wsE es c.key) n c)).map stE=putS (es.map stE) n c:=by
 rw [setE_st,putS,wsE_st]
theorem addW1_len (ws:List WasM) (n:UInt32) (c:ChgM):(addW1 ws n c).length≤ws.length+1:=by
 unfold addW1
 rw [List.length_append,List.length_singleton]
 split
 ·rw [List.length_dropLast];omega
 ·omega
theorem MidOk.len_le {es:List (EntV ByteArray WasM)} {now trim:UInt32} {H:List (List ChgM)} {pre:List ChgM} (h:MidOk (es.map stE) now trim H pre) (k:ByteArray):(wsE es k).length≤H.length+1:=by
 rw [wsE_st]
 cases hg:getS (es.map stE) k with
 | none=>simp
 | some ws=>
  have:=h.lens _ (getS_some hg)
  simp only [Option.getD_some]
  rcases this with h | ⟨_,h⟩ <;> simp only at h <;> omega
theorem eqlast {ws:List WasM} {w:WasM} {n:UInt32} (h:ws[ws.length - 1]?=some w):(w.at_ == n)=decide (ws≠[]∧lastW ws=n):=by
 have hne:ws≠[]:=fun e=>by rw [e] at h;simp at h
 rw [lastW_at h,Bool.eq_iff_iff]
 simp [hne]
end Go.SL
