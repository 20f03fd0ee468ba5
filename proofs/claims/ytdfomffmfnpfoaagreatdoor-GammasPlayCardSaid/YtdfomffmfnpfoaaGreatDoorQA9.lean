import Derived.Test.YtdfomffmfnpfoaaGreatDoorQA8
import Derived.ProofKit
import Derived.Below
import Derived.Carry
import Derived.Lib.SmallJoins
import Derived.OpenShut
import Derived.ShutString
import Derived.ChangeOld
import Derived.Laws.StructEq
set_option linter.unusedSimpArgs false
set_option linter.unusedVariables false
set_option linter.unusedSectionVars false
namespace Go.SL
open Go
def Old (w:World):HP:=fun S=>le (heapOf w) S
theorem sat_old (w:World):Sat w [Old w] w:=⟨rfl,rfl,rfl,Nat.le_refl _,heapOf w,fun _=>none,fun _=>.inr rfl,le_refl _,(fun _ _ h=>by cases h),le_refl _,trivial⟩
theorem old_below {w w':World} (h:Sat w [Old w] w'):Go.RowKit.Below w.heap.size w w':=by
  refine ⟨h.os,h.tape,h.output,h.size,fun k hk=>?_⟩
  obtain ⟨S1,S2,_,h1,_,h2,_⟩:=h.heap
  have e:w.heap[k]?=some w.heap[k]:=Array.getElem?_eq_getElem hk
  rw [e]
  exact h1 _ _ (h2 _ _ e)
theorem u32_wf {n:Int} (h:(Lit.int .u32 n).wf=true):n=((UInt32.ofNat n.toNat).toNat:Int):=by
  simp only [Lit.wf,Bool.and_eq_true,decide_eq_true_eq] at h
  rw [show IntKind.u32.min=0 from rfl,show IntKind.u32.max=4294967295 from rfl] at h
  have:(UInt32.ofNat n.toNat).toNat=n.toNat:=by simp;omega
  omega
theorem u8_wf {n:Int} (h:(Lit.int .u8 n).wf=true):n=((UInt8.ofNat n.toNat).toNat:Int):=by
  simp only [Lit.wf,Bool.and_eq_true,decide_eq_true_eq] at h
  rw [show IntKind.u8.min=0 from rfl,show IntKind.u8.max=255 from rfl] at h
  have:(UInt8.ofNat n.toNat).toNat=n.toNat:=by simp;omega
  omega
end Go.SL
namespace Go.SL
open Go
instance:DecidableEq RowM:=fun a b=>decidable_of_iff (a.key=b.key∧a.val=b.val) ⟨fun ⟨h1,h2⟩=>by cases a;cases b;simp_all,fun h=>by subst h;exact ⟨rfl,rfl⟩⟩
section
variable {P : Program} {r : Option Nat} {g : World} {Γ : Env} {L M : List HP} {dst : Option Tmp} {t : TypeId} {pos : String} {aft : Array Edge} {gd : Option (Nat × Bool)}
theorem run_part1 {T:TypeId} (h:aggOf P T=some none) (cs:Array Value) (i:Nat) (v:Value) (hv:cs[i]?=some v) (w:World):(part T cs i).run P w=.ok v w:=by
  unfold part
  simp [run_isAgg h,hv]
theorem e_rowne {T T2 s u:TypeId} {b0 b1:Nat} {x y:Operand} {a b:RowM} (hT:P.underlying T=some (.struct #[⟨ "Key",s,0,false, "", "",b0⟩,⟨ "Value",u,1,false, "", "",b1⟩])) (hs:P.underlying s=some .string) (hu:P.underlying u=some (.int .u32))
    (hs1:aggOf P s=some none) (hu1:aggOf P u=some none) (hp:P.stoodInHeld T=false) (hm:P.eqGuardType P.depth T=false) (hx:ev Γ x=some a.v) (hy:ev Γ y=some b.v) :
    EO P g ⟨dst,.binOp .neq T x y T2,t,pos,aft,gd⟩ Γ L (.bool (!decide (a=b))):=e_bin hx hy fun w=>by
  have hf:P.fieldsOf T=#[⟨ "Key",s,0,false, "", "",b0⟩,⟨ "Value",u,1,false, "", "",b1⟩]:=by unfold Program.fieldsOf;rw [hT]
  have hE:∀ w,(Op.equalIn 10000 T (.agg #[.string a.key,.int .u32 a.val.toNat]) (.agg #[.string b.key,.int .u32 b.val.toNat])).run P w=.ok (decide (a=b)) w:=fun w=>by
    rw [show (10000:Nat)=9999+1 from rfl,run_equalIn_struct w 9999 T _ _ (by rw [hf];exact hT) hp,hf]
    simp only [Op.eqFields,Sem.run_bind]
    rw [if_pos (by decide)]
    simp only [Sem.run_bind]
    rw [run_part1 hs1 _ 0 (.string a.key) rfl]
    simp only [Result.andThen_ok]
    rw [run_part1 hs1 _ 0 (.string b.key) rfl]
    simp only [Result.andThen_ok]
    rw [show (9999:Nat)=9998+1 from rfl,run_equalIn_string w 9998 s a.key b.key hs]
    simp only [Result.andThen_ok]
    cases hk:a.key.toList == b.key.toList with
    | false=>
      simp
      intro e;subst e;simp at hk
    | true=>
      have hk':a.key=b.key:=by
        rw [← beq_toListBytes] at hk
        have:(a.key.data == b.key.data)=true:=hk
        rw [ByteArray.ext_iff];simpa using this
      simp only [Bool.not_true,Bool.false_eq_true,if_false]
      rw [if_pos (by decide)]
      simp only [Sem.run_bind]
      rw [run_part1 hu1 _ 1 (.int .u32 a.val.toNat) rfl]
      simp only [Result.andThen_ok]
      rw [run_part1 hu1 _ 1 (.int .u32 b.val.toNat) rfl]
      simp only [Result.andThen_ok]
      rw [run_equalIn_int w 9998 u .u32 .u32 _ _ hu]
      simp only [Result.andThen_ok,beq32]
      cases hv:a.val == b.val with
      | false=>
        simp
        intro e;subst e;simp at hv
      | true=>
        simp at hv
        simp
        cases a;cases b;simp_all
  show (do eqGuard .neq T x y (.agg #[.string a.key,.int .u32 a.val.toNat]) (.agg #[.string b.key,.int .u32 b.val.toNat]);binOp .neq T (.agg #[.string a.key,.int .u32 a.val.toNat]) (.agg #[.string b.key,.int .u32 b.val.toNat]):Sem Value).run P w=_
  rw [Sem.run_bind,run_eqGuard_agg w .neq T x y _ _ hm]
  simp only [Result.andThen_ok]
  rw [run_neq_struct,hE];rfl
end
end Go.SL
namespace Go.SL
open Go
theorem min_swap (m a b:UInt32):(if b < (if a < m then a else m) then b else (if a < m then a else m))=(if a < (if b < m then b else m) then a else (if b < m then b else m)):=by
 simp only [UInt32.lt_iff_toNat_lt]
 apply UInt32.toNat_inj.1
 repeat' split
 all_goals first | rfl | omega
def numsLate (nums:List (ByteArray × UInt32)) (num:UInt32) (p:SpanM):Bool:=nums.any fun x=>decide (num < x.2) && meet (one x.1) p
def setN (l:List (ByteArray × UInt32)) (k:ByteArray) (num:UInt32):List (ByteArray × UInt32):=match l.findIdx? (fun p=>decide (p.1=k)) with
 | some i=>l.set i (k,num)
 | none=>l++[(k,num)]
def keptG (nums:List (ByteArray × UInt32)) (num:UInt32) (cs:List ChgM):List (ByteArray × UInt32):=cs.foldl (fun l c=>setN l c.key num) nums
def numC (x:ByteArray × UInt32):ByteArray × Value:=(x.1,.int .u32 x.2.toNat)
theorem mset_num (l:List (ByteArray × UInt32)) (k:ByteArray) (num:UInt32):mset (l.map numC) k (.int .u32 num.toNat)=(setN l k num).map numC:=by
 have h:midx (l.map numC) k=l.findIdx? (fun p=>decide (p.1=k)):=by
  unfold midx;rw [List.findIdx?_map];rfl
 unfold mset setN
 rw [h]
 cases List.findIdx? (fun p:ByteArray × UInt32=>decide (p.1=k)) l with
 | none=>simp [numC]
 | some i=>simp [numC,List.map_set]
theorem keptG_snoc (nums:List (ByteArray × UInt32)) (num:UInt32) (cs:List ChgM) (c:ChgM):keptG nums num (cs++[c])=setN (keptG nums num cs) c.key num:=by simp [keptG]
def lookC (x:UInt32 × SpanM):List Value:=[.int .u32 x.1.toNat,.string x.2.a,.string x.2.b]
theorem lookE:EncOk 3 lookC:=⟨fun _=>rfl,fun _=>rfl⟩
theorem map_mid {α β:Type} {f:α→β} {l:List α} {a b:List β} {y:β} (h:l.map f=a++y::b):∃ A t B,l=A++t::B∧a=A.map f∧y=f t∧b=B.map f:=by
 obtain ⟨A,C,rfl,h1,h2⟩:=List.map_eq_append_iff.1 h
 obtain ⟨t,B,rfl,h3,h4⟩:=List.map_eq_cons_iff.1 h2
 exact ⟨A,t,B,rfl,h1.symm,h3.symm,h4.symm⟩
theorem mem_mid {α:Type} {l:List α} {x:α} (h:x ∈ l):∃ A B,l=A++x::B:=List.append_of_mem h
theorem numsLate_mid (A B:List (ByteArray × UInt32)) (x:ByteArray × UInt32) (n:UInt32) (p:SpanM):numsLate (A++x::B) n p=((decide (n < x.2) && meet (one x.1) p) || numsLate (A++B) n p):=by
 unfold numsLate
 simp only [List.any_append,List.any_cons]
 cases decide (n < x.2) && meet (one x.1) p <;> simp
def chgOf (x:OpM):ChgM:=if x.kind=2 then ⟨x.key,x.val,false⟩ else ⟨x.key,0,true⟩
theorem chgB_len (c:ChgM):6≤(chgB c).length∧(keyOk c.key=true→(chgB c).length≤22):=by
 simp only [chgB,textB,List.length_append,List.length_cons,List.length_nil,bytesOf_len,numB_len]
 refine ⟨by omega,fun h=>?_⟩
 have:c.key.size≤16:=by
  unfold keyOk at h;simp at h;omega
 omega
theorem chgs_len:∀ (l:List ChgM),6 * l.length≤(l.flatMap chgB).length∧((∀ c ∈ l,chgOk c=true)→(l.flatMap chgB).length≤22 * l.length)
 | []=>⟨by simp,by simp⟩
 | c::l=>by
  have h1:=chgB_len c
  have h2:=chgs_len l
  simp only [List.flatMap_cons,List.length_append,List.length_cons]
  refine ⟨by omega,fun h=>?_⟩
  have h3:=h1.2 (by have:=h c (by simp);unfold chgOk at this;simp at this;exact this.1)
  have h4:=h2.2 fun c hc=>h c (by simp [hc])
  omega
structure Quiet (d:DiskM):Prop where
 ok:d.ok
 len:d.sure.length=4096
 waits:d.waits=[]
theorem Quiet.add {d:DiskM} (h:Quiet d) (i:Nat) (b:List UInt8) (k:Nat):Quiet (addW d i b k).sync:=by
 have h1:=addW_ok k d i b h.ok
 have h2:=addW_len k d i b
 exact ⟨h1.sync,by show (addW d i b k).seen.length=4096;rw [h1.len,h2.1,h.len],rfl⟩
theorem newDisk_quiet:Quiet (newDisk 4096):=⟨newDisk_ok (by decide) (by decide),List.length_replicate,rfl⟩
theorem chgOf_ok {x:OpM} (h:opOk x=true) (hw:writes x=true):chgOk (chgOf x)=true:=by
 unfold opOk at h
 simp only [Bool.and_eq_true] at h
 unfold chgOf
 split <;> simp [chgOk,h.1.1.2]
theorem getF_zero (n:Nat) (h:64≤n):getF (List.replicate n 0)=none:=by
 unfold getF
 rw [if_neg (by simp;omega)]
 have e1:(beN ((List.replicate n (0:UInt8)).take 4)).toNat=0:=by
  rw [List.take_replicate,Nat.min_eq_left (by omega)];rfl
 simp only [e1]
 rw [if_neg (by decide),if_neg (by simp [secs];omega),if_neg]
 rw [List.take_zero,List.take_replicate,show secs 0 * 64=64 from rfl,Nat.min_eq_left h]
 decide
theorem recs_zero (n:Nat) (h:64≤n):recs (List.replicate n 0)=[]:=recs_none (getF_zero n h)
theorem cleanTo_same (all:List UInt8) (d:DiskM) (lo:Nat):∀ k,(∀ j,j < k→(all.drop ((lo+j) * 64)).take 64=List.replicate 64 0)→cleanTo all d lo k=d
 | 0,_=>rfl
 | k+1,h=>by
  rw [cleanTo,if_pos (h k (by omega))]
  exact cleanTo_same all d lo k fun j hj=>h j (by omega)
theorem new_flat (n:Nat):(newDisk n).seen.flatten=List.replicate (n * 64) 0:=by
 show (List.replicate n (List.replicate 64 (0:UInt8))).flatten=_
 rw [List.flatten_replicate_replicate]
theorem new_clean:cleanTo (newDisk 4096).seen.flatten (newDisk 4096) 0 4096=newDisk 4096:=cleanTo_same _ _ _ _ fun j hj=>by
 rw [new_flat,List.drop_replicate,List.take_replicate,Nat.min_eq_left (by omega)]
theorem meet_comm (a b:SpanM):meet a b=meet b a:=by
 rw [Bool.eq_iff_iff,meet_iff,meet_iff]
 exact ⟨fun ⟨k,h1,h2⟩=>⟨k,h2,h1⟩,fun ⟨k,h1,h2⟩=>⟨k,h2,h1⟩⟩
theorem in_one (k:ByteArray):meet (one k) (one k)=true:=meet_iff.2 ⟨k,by simp [inSpan,one,sIn_iff,sLt_irrefl],by simp [inSpan,one,sIn_iff,sLt_irrefl]⟩
abbrev sv0:SV:=⟨none,0,0⟩
def opPut (k:ByteArray) (v:UInt32):OpM:=⟨2,k,.empty,v⟩
def opGet (k:ByteArray):OpM:=⟨1,k,.empty,0⟩
theorem sEq_empty:sEq .empty ⟨#[]⟩=true:=by rw [sEq_iff];rfl
theorem put_ok (k:ByteArray) (v:UInt32):opOk (opPut k v)=keyOk k:=by simp [opOk,opPut,sEq_empty]
theorem get_ok (k:ByteArray):opOk (opGet k)=keyOk k:=by simp [opOk,opGet,sEq_empty]
theorem span_put (k:ByteArray) (v:UInt32):spanOf (opPut k v)=one k:=rfl
theorem span_get (k:ByteArray):spanOf (opGet k)=one k:=rfl
theorem w_put (k:ByteArray) (v:UInt32):writes (opPut k v)=true:=rfl
theorem w_get (k:ByteArray):writes (opGet k)=false:=rfl
theorem chg_put (k:ByteArray) (v:UInt32):chgOf (opPut k v)=⟨k,v,false⟩:=rfl
def kA:ByteArray:=⟨#[97]⟩
def kB:ByteArray:=⟨#[98]⟩
theorem sEq_no {a b:ByteArray} (h:a≠b):sEq a b=false:=by
 cases e:sEq a b with
 | false=>rfl
 | true=>exact absurd (sEq_iff.1 e) h
theorem keyA:keyOk kA=true:=by
 have h1:sEq kA ⟨#[]⟩=false:=sEq_no (by simp [kA])
 have h2:allR keyRune kA=true:=by decide +kernel
 simp only [keyOk,h1,h2];rfl
theorem keyB:keyOk kB=true:=by
 have h1:sEq kB ⟨#[]⟩=false:=sEq_no (by simp [kB])
 have h2:allR keyRune kB=true:=by decide +kernel
 simp only [keyOk,h1,h2];rfl
theorem chgB_kB:(chgB ⟨kB,1,false⟩).length=7:=rfl
def doneO (rows:List RowM) (x:OpM):List RowM × List RowM:=
 if x.kind=1 then (scanR rows (one x.key) 1,rows) else if x.kind=4 then (scanR rows ⟨x.key,x.to⟩ 256,rows) else if x.kind=2 then ([],setR rows x.key x.val) else ([],dropR rows x.key)
def runS (s:List (List RowM) × List RowM) (l:List OpM):List (List RowM) × List RowM:=l.foldl (fun s x=>(s.1++[(doneO s.2 x).1],(doneO s.2 x).2)) s
def runM (rows:List RowM) (l:List OpM):List (List RowM) × List RowM:=runS ([],rows) l
theorem runM_nil (rows:List RowM):runM rows []=([],rows):=rfl
theorem runM_snoc (rows:List RowM) (l:List OpM) (x:OpM):runM rows (l++[x])=((runM rows l).1++[(doneO (runM rows l).2 x).1],(doneO (runM rows l).2 x).2):=by simp [runM,runS]
def KeysOk (l:List RowM):Prop:=∀ r ∈ l,keyOk r.key=true
theorem doneO_rows {rows:List RowM} (h:Rising rows) (x:OpM):Rising (doneO rows x).2∧(doneO rows x).2.length≤rows.length+1:=by
 unfold doneO
 split
 ·exact ⟨h,Nat.le_succ _⟩
 ·split
  ·exact ⟨h,Nat.le_succ _⟩
  ·split
   ·exact ⟨(setR_spec h _ _).1,(setR_spec h _ _).2.2⟩
   ·exact ⟨(dropR_spec h _).1,Nat.le_succ_of_le (dropR_spec h _).2.2⟩
theorem snoc_ind {α:Type} {p:List α→Prop} (h0:p []) (h1:∀ l x,p l→p (l++[x])):∀ l,p l:=fun l=>by
 have:∀ n,p (l.take n):=fun n=>by
  induction n with
  | zero=>simpa using h0
  | succ n ih=>
   rcases Nat.lt_or_ge n l.length with h | h
   ·rw [take_snoc (List.getElem?_eq_getElem h)];exact h1 _ _ ih
   ·rw [List.take_of_length_le (by omega)];rwa [List.take_of_length_le h] at ih
 have h:=this l.length
 rwa [List.take_length] at h
theorem runM_rows {rows:List RowM} (h:Rising rows):∀ l:List OpM,Rising (runM rows l).2∧(runM rows l).2.length≤rows.length+l.length∧(runM rows l).1.length=l.length:=by
 refine snoc_ind ⟨h,by simp [runM_nil],rfl⟩ fun l x ⟨h1,h2,h3⟩=>?_
 rw [runM_snoc]
 have:=doneO_rows h1 x
 exact ⟨this.1,by simp only [List.length_append,List.length_cons,List.length_nil];omega,by simp [h3]⟩
theorem scan_one {l:List RowM} (h:Rising l) (k:ByteArray):scanR l (one k) 256=scanR l (one k) 1:=by
 unfold scanR
 have:(l.filter fun r=>inSpan (one k) r.key).length≤1:=by
  have hk:∀ r:RowM,inSpan (one k) r.key=true→r.key=k:=fun r hr=>by
   unfold inSpan one at hr
   rw [sIn_iff] at hr
   rcases sLt_tri r.key k with h | h | h
   ·rw [hr.1] at h;cases h
   ·exact h
   ·rw [hr.2] at h;cases h
  cases e:l.filter fun r=>inSpan (one k) r.key with
  | nil=>simp
  | cons a m=>
   cases m with
   | nil=>simp
   | cons b m=>
    have hs:Rising (a::b::m):=e ▸ h.sublist List.filter_sublist
    have ha:=hk a (List.mem_filter.1 (e ▸ List.mem_cons_self:a ∈ l.filter fun r=>inSpan (one k) r.key)).2
    have hb:=hk b (List.mem_filter.1 (e ▸ (by simp):b ∈ l.filter fun r=>inSpan (one k) r.key)).2
    have:=(List.pairwise_cons.1 hs).1 b (by simp)
    rw [ha,hb,sLt_irrefl] at this;cases this
 rw [List.take_of_length_le (by omega),List.take_of_length_le this]
theorem kinds {x:OpM} (h:opOk x=true):(writes x=true∧(x.kind=2∨x.kind=3))∨(writes x=false∧(x.kind=1∨x.kind=4)):=by
 unfold opOk at h
 simp only [Bool.and_eq_true,decide_eq_true_eq] at h
 have h1:=h.1.1.1.1;have h2:=h.1.1.1.2
 have h3:x.kind=1∨x.kind=2∨x.kind=3∨x.kind=4:=by
  have:x.kind.toNat=1∨x.kind.toNat=2∨x.kind.toNat=3∨x.kind.toNat=4:=by omega
  rcases this with e | e | e | e
  ·exact .inl (UInt8.toNat_inj.1 e)
  ·exact .inr (.inl (UInt8.toNat_inj.1 e))
  ·exact .inr (.inr (.inl (UInt8.toNat_inj.1 e)))
  ·exact .inr (.inr (.inr (UInt8.toNat_inj.1 e)))
 rcases h3 with e | e | e | e <;> simp [writes,e]
theorem done_write {rows:List RowM} {x:OpM} (h:opOk x=true) (hw:writes x=true):doneO rows x=([],applyC rows (chgOf x)):=by
 rcases kinds h with ⟨_,e | e⟩ | ⟨hn,_⟩
 ·simp [doneO,e,chgOf,applyC]
 ·simp [doneO,e,chgOf,applyC]
 ·rw [hw] at hn;cases hn
theorem done_read {rows:List RowM} (hr:Rising rows) {x:OpM} (h:opOk x=true) (hw:writes x=false):doneO rows x=(scanR rows (spanOf x) 256,rows):=by
 rcases kinds h with ⟨hn,_⟩ | ⟨_,e | e⟩
 ·rw [hw] at hn;cases hn
 ·simp only [doneO,e,if_true,spanOf,if_neg (show ¬ (1:UInt8)=4 by decide)]
  rw [show (⟨x.key,x.key⟩:SpanM)=one x.key from rfl,scan_one hr]
 ·simp only [doneO,e,if_neg (show ¬ (4:UInt8)=1 by decide),if_true,spanOf]
structure Does (rows:List RowM) (own:List ChgM) (done:List OpM) (told:List (List RowM)):Prop where
 left:changeR rows own=(runM rows done).2
 told:told=(runM rows done).1
 ok:∀ x ∈ done,opOk x=true
 own_le:own.length≤done.length
theorem Does.nil (rows:List RowM):Does rows [] [] []:=⟨rfl,rfl,by simp,Nat.le_refl _⟩
theorem Does.write {rows:List RowM} {own:List ChgM} {done:List OpM} {told:List (List RowM)} (h:Does rows own done told) {x:OpM} (hx:opOk x=true) (hw:writes x=true):Does rows (own++[chgOf x]) (done++[x]) (told++[[]]):=
 ⟨by rw [changeR_snoc,runM_snoc,h.left,done_write hx hw],by rw [runM_snoc,done_write hx hw,h.told],fun y hy=>by rcases List.mem_append.1 hy with hy | hy;exact h.ok y hy;simp at hy;subst hy;exact hx,by have:=h.own_le;simp;omega⟩
theorem Does.read {rows:List RowM} (hr:Rising rows) {own:List ChgM} {done:List OpM} {told:List (List RowM)} (h:Does rows own done told) {x:OpM} (hx:opOk x=true) (hw:writes x=false):Does rows own (done++[x]) (told++[scanR (changeR rows own) (spanOf x) 256]):=by
 have h1:=(runM_rows hr done).1
 exact ⟨by rw [runM_snoc,done_read h1 hx hw,h.left],by rw [runM_snoc,done_read h1 hx hw,h.told,h.left],fun y hy=>by rcases List.mem_append.1 hy with hy | hy;exact h.ok y hy;simp at hy;subst hy;exact hx,by have:=h.own_le;simp;omega⟩
theorem changeR_keys {rows:List RowM} (hr:Rising rows) (h:KeysOk rows) {cs:List ChgM} (hc:∀ c ∈ cs,chgOk c=true):KeysOk (changeR rows cs):=by
 revert hc
 refine snoc_ind (p:=fun cs=>(∀ c ∈ cs,chgOk c=true)→KeysOk (changeR rows cs)) (fun _=>h) (fun cs c ih hc=>?_) cs
 rw [changeR_snoc]
 intro r hm
 rcases (mem_applyC (changeR_rising cs hr).1 c r).1 hm with ⟨_,rfl⟩ | ⟨hm,_⟩
 ·have:=hc c (by simp);unfold chgOk at this;simp at this;exact this.1
 ·exact ih (fun c hc'=>hc c (by simp [hc'])) r hm
theorem mem_change {r:RowM}:∀ (cs:List ChgM) {V V':List RowM},Rising V→Rising V'→(r ∈ V↔r ∈ V')→(r ∈ changeR V cs↔r ∈ changeR V' cs)
 | [],_,_,_,_,h=>h
 | c::cs,V,V',h1,h2,h=>by
  refine mem_change cs (applyC_rising h1 c).1 (applyC_rising h2 c).1 ?_
  rw [mem_applyC h1,mem_applyC h2,h]
theorem mem_change_skip {r:RowM} (cs:List ChgM) {V:List RowM} (h:Rising V) (hk:∀ c ∈ cs,c.key≠r.key):r ∈ changeR V cs↔r ∈ V:=by
 induction cs generalizing V with
 | nil=>exact Iff.rfl
 | cons c cs ih=>
  show r ∈ changeR (applyC V c) cs↔_
  rw [ih (applyC_rising h c).1 (fun c' hc'=>hk c' (by simp [hc'])),mem_applyC h]
  have:=hk c (by simp)
  constructor
  ·rintro (⟨_,e⟩ | ⟨h,_⟩)
   ·subst e;exact absurd rfl this
   ·exact h
  ·intro h;exact .inr ⟨h,fun e=>this e.symm⟩
theorem change_app (V:List RowM) (a b:List ChgM):changeR V (a++b)=changeR (changeR V a) b:=by simp [changeR]
theorem change_swap {V:List RowM} (h:Rising V) (a b:List ChgM) (hk:∀ c ∈ a,∀ c' ∈ b,c.key≠c'.key):changeR V (a++b)=changeR V (b++a):=by
 have ha:=(changeR_rising a h).1
 have hb:=(changeR_rising b h).1
 rw [change_app,change_app]
 refine rising_ext (changeR_rising b ha).1 (changeR_rising a hb).1 fun r=>?_
 by_cases hr:∃ c ∈ a,c.key=r.key
 ·obtain ⟨c,hc,e⟩:=hr
  rw [mem_change_skip b ha (fun c' hc' e'=>hk c hc c' hc' (e.trans e'.symm))]
  refine mem_change a h hb ?_
  exact (mem_change_skip b h (fun c' hc' e'=>hk c hc c' hc' (e.trans e'.symm))).symm
 ·have hn:∀ c ∈ a,c.key≠r.key:=fun c hc e=>hr ⟨c,hc,e⟩
  rw [mem_change_skip a hb hn]
  exact mem_change b ha h (mem_change_skip a h hn)
theorem scan_agree {V V':List RowM} (h:Rising V) (h':Rising V') (p:SpanM) (n:Nat) (hm:∀ r:RowM,inSpan p r.key=true→(r ∈ V↔r ∈ V')):scanR V p n=scanR V' p n:=by
 unfold scanR
 congr 1
 refine rising_ext (h.sublist List.filter_sublist) (h'.sublist List.filter_sublist) fun r=>?_
 rw [List.mem_filter,List.mem_filter]
 constructor
 ·rintro ⟨h1,h2⟩;exact ⟨(hm r h2).1 h1,h2⟩
 ·rintro ⟨h1,h2⟩;exact ⟨(hm r h2).2 h1,h2⟩
def chs (ops:List OpM):List ChgM:=(ops.filter writes).map chgOf
theorem chs_snoc_w (ops:List OpM) {x:OpM} (h:writes x=true):chs (ops++[x])=chs ops++[chgOf x]:=by simp [chs,h]
theorem chs_snoc_r (ops:List OpM) {x:OpM} (h:writes x=false):chs (ops++[x])=chs ops:=by simp [chs,h]
theorem run_left {V:List RowM} (hV:Rising V):∀ ops:List OpM,(∀ x ∈ ops,opOk x=true)→(runM V ops).2=changeR V (chs ops):=by
 refine snoc_ind (fun _=>rfl) fun l x ih h=>?_
 have hx:=h x (by simp)
 rw [runM_snoc,ih fun y hy=>h y (by simp [hy])]
 cases hw:writes x with
 | true=>rw [done_write hx hw,chs_snoc_w l hw,changeR_snoc]
 | false=>rw [done_read (changeR_rising _ hV).1 hx hw,chs_snoc_r l hw]
theorem run_agree {V V':List RowM} (h:Rising V) (h':Rising V'):∀ ops:List OpM,(∀ x ∈ ops,opOk x=true)→(∀ x ∈ ops,writes x=false→∀ r:RowM,inSpan (spanOf x) r.key=true→(r ∈ V↔r ∈ V'))→(runM V ops).1=(runM V' ops).1:=by
 refine snoc_ind (fun _ _=>rfl) fun l x ih hok hm=>?_
 have hx:=hok x (by simp)
 have hl:∀ y ∈ l,opOk y=true:=fun y hy=>hok y (by simp [hy])
 rw [runM_snoc,runM_snoc]
 show (runM V l).1++[(doneO (runM V l).2 x).1]=(runM V' l).1++[(doneO (runM V' l).2 x).1]
 rw [ih hl fun y hy=>hm y (by simp [hy])]
 suffices e:(doneO (runM V l).2 x).1=(doneO (runM V' l).2 x).1 by rw [e]
 rw [run_left h l hl,run_left h' l hl]
 cases hw:writes x with
 | true=>rw [done_write hx hw,done_write hx hw]
 | false=>
  rw [done_read (changeR_rising _ h).1 hx hw,done_read (changeR_rising _ h').1 hx hw]
  exact scan_agree (changeR_rising _ h).1 (changeR_rising _ h').1 _ _ fun r hr=>mem_change _ h h' (hm x (by simp) hw r hr)
structure Pty where
 num:UInt32
 ops:List OpM
 res:List (List RowM)
def chsL (l:List Pty):List ChgM:=l.flatMap fun a=>chs a.ops
def rowsOf (l:List Pty):List RowM:=changeR [] (chsL l)
theorem rowsOf_rising (l:List Pty):Rising (rowsOf l):=(changeR_rising _ List.Pairwise.nil).1
def below (l:List Pty) (n:UInt32):List Pty:=l.filter fun a=>decide (a.num < n)
theorem chsL_app (a b:List Pty):chsL (a++b)=chsL a++chsL b:=by simp [chsL]
theorem mem_chsL {l:List Pty} {c:ChgM}:c ∈ chsL l↔∃ a ∈ l,c ∈ chs a.ops:=by simp [chsL]
abbrev Og:=UInt32→List OpM × List (List RowM)
def setO (o:Og) (n:UInt32) (v:List OpM × List (List RowM)):Og:=fun m=>if m=n then v else o m
theorem setO_same (o:Og) (n:UInt32) (v:List OpM × List (List RowM)):setO o n v n=v:=by simp [setO]
theorem setO_other (o:Og) {n m:UInt32} (v:List OpM × List (List RowM)) (h:m≠n):setO o n v m=o m:=by simp [setO,h]
theorem mem_setN {l:List (ByteArray × UInt32)} {k:ByteArray} {n:UInt32}:(k,n) ∈ setN l k n∧∀ y ∈ l,y.1≠k→y ∈ setN l k n:=by
 unfold setN
 cases hf:l.findIdx? (fun p=>decide (p.1=k)) with
 | none=>exact ⟨by simp,fun y hy _=>by simp [hy]⟩
 | some i=>
  obtain ⟨hi,hk,_⟩:=List.findIdx?_eq_some_iff_getElem.1 hf
  refine ⟨List.mem_set hi _,fun y hy hne=>?_⟩
  obtain ⟨j,hj,rfl⟩:=List.getElem_of_mem hy
  have hij:i≠j:=fun e=>by subst e;simp at hk;exact hne hk
  exact List.mem_iff_getElem.2 ⟨j,by simpa using hj,by rw [List.getElem_set_ne hij]⟩
theorem keptG_in {nums:List (ByteArray × UInt32)} {n:UInt32}:∀ cs:List ChgM,∀ c ∈ cs,(c.key,n) ∈ keptG nums n cs:=by
 refine snoc_ind (by simp) fun cs c ih c' hc'=>?_
 rw [keptG_snoc]
 by_cases e:c'.key=c.key
 ·rw [e];exact mem_setN.1
 ·rcases List.mem_append.1 hc' with h | h
  ·exact mem_setN.2 _ (ih c' h) e
  ·simp at h;subst h;exact absurd rfl e
theorem keptG_old {nums:List (ByteArray × UInt32)} {n:UInt32} {y:ByteArray × UInt32} (hy:y ∈ nums):∀ cs:List ChgM,(∀ c ∈ cs,c.key≠y.1)→y ∈ keptG nums n cs:=by
 refine snoc_ind (fun _=>hy) fun cs c ih h=>?_
 rw [keptG_snoc]
 exact mem_setN.2 _ (ih fun c' hc'=>h c' (by simp [hc'])) (fun e=>h c (by simp) e.symm)
theorem chs_ok {ops:List OpM} (h:∀ x ∈ ops,opOk x=true):∀ c ∈ chs ops,chgOk c=true:=fun c hc=>by
 obtain ⟨x,hx,rfl⟩:=List.mem_map.1 hc
 obtain ⟨h1,h2⟩:=List.mem_filter.1 hx
 exact chgOf_ok (h x h1) h2
structure DidV where
 id:UInt32
 p:Nat
 num:UInt32
 os:SV
 ops:List OpM
 ls:SV
 l:List (SV × List RowM)
def DidV.pty (d:DidV):Pty:=⟨d.num,d.ops,d.l.map (·.2)⟩
structure ActM where
 kind:UInt8
 tx:UInt32
 op:OpM
 keep:Int
 torn:Int
def ActM.c (x:ActM):List Value:=[.int .u8 x.kind.toNat,.int .u32 x.tx.toNat,.int .u8 x.op.kind.toNat,.string x.op.key,.string x.op.to,.int .u32 x.op.val.toNat,.int .u64 x.keep,.int .i64 x.torn]
theorem actE:EncOk 8 ActM.c:=⟨fun _=>rfl,fun _=>rfl⟩
section
variable {κ : Type} [DecidableEq κ]
theorem mset_cons (p:κ × Value) (kvs:List (κ × Value)) (k:κ) (v:Value):mset (p::kvs) k v=if p.1=k then (k,v)::kvs else p::mset kvs k v:=by
 unfold mset midx
 rw [List.findIdx?_cons]
 by_cases h:p.1=k
 ·simp [h]
 ·simp only [h,decide_false]
  cases List.findIdx? (fun p:κ × Value=>decide (p.1=k)) kvs <;> simp
theorem mget_mset (kvs:List (κ × Value)) (k n:κ) (v:Value):mget (mset kvs k v) n=if n=k then some v else mget kvs n:=by
 induction kvs with
 | nil=>unfold mset midx mget;by_cases h:k=n <;> simp [h,eq_comm]
 | cons p kvs ih=>
  rw [mset_cons]
  by_cases h:p.1=k
  ·rw [if_pos h]
   unfold mget
   rw [List.find?_cons,List.find?_cons]
   by_cases h2:n=k
   ·subst h2;simp
   ·have h3:k≠n:=fun e=>h2 e.symm
    simp [h,h2,h3]
  ·rw [if_neg h]
   unfold mget at ih ⊢
   rw [List.find?_cons,List.find?_cons]
   by_cases h4:p.1=n
   ·have h2:n≠k:=fun e=>h (h4.trans e)
    simp [h4,h2]
   ·simp only [h4,decide_false];exact ih
end
def findD (F:List DidV) (n:UInt32):Option DidV:=F.find? fun d=>decide (d.id=n)
def delD (F:List DidV) (n:UInt32):List DidV:=F.filter fun d=>!decide (d.id=n)
theorem findD_cons (d:DidV) (F:List DidV) (m:UInt32):findD (d::F) m=if d.id=m then some d else findD F m:=by
 unfold findD;rw [List.find?_cons]
 by_cases h:d.id=m <;> simp [h]
theorem findD_del (F:List DidV) (n m:UInt32):findD (delD F n) m=if m=n then none else findD F m:=by
 induction F with
 | nil=>simp [findD,delD]
 | cons d F ih=>
  unfold delD at ih ⊢
  rw [List.filter_cons]
  by_cases h:d.id=n
  ·simp only [h,decide_true,Bool.not_true,Bool.false_eq_true,if_false]
   rw [ih,findD_cons]
   by_cases h2:m=n
   ·simp [h2]
   ·have:d.id≠m:=fun e=>h2 (e.symm.trans h)
    simp [h2,this]
  ·simp only [h,decide_false,Bool.not_false,if_true]
   rw [findD_cons,findD_cons,ih]
   by_cases h2:d.id=m
   ·have:m≠n:=fun e=>h (h2.trans e)
    simp [h2,this]
   ·simp [h2]
theorem findD_id {F:List DidV} {n:UInt32} {d:DidV} (h:findD F n=some d):d ∈ F∧d.id=n:=by
 unfold findD at h
 exact ⟨List.mem_of_find?_eq_some h,by have:=List.find?_some h;simpa using this⟩
theorem delD_mem {F:List DidV} {n:UInt32} {d:DidV} (h:d ∈ delD F n):d ∈ F:=(List.mem_filter.1 h).1
def OpenOk (kvs:List (UInt32 × Value)) (F:List DidV):Prop:=∀ n,(mget kvs n).getD (.pointer none)=.pointer ((findD F n).map fun d=>⟨d.p,0,none⟩)
theorem OpenOk.nil {kvs:List (UInt32 × Value)} {F:List DidV} (h:OpenOk kvs F) (n:UInt32):OpenOk (mset kvs n (.pointer none)) (delD F n):=fun m=>by
 rw [mget_mset,findD_del]
 by_cases e:m=n
 ·simp [e]
 ·rw [if_neg e,if_neg e];exact h m
theorem OpenOk.new {kvs:List (UInt32 × Value)} {F:List DidV} (h:OpenOk kvs F) (d:DidV):OpenOk (mset kvs d.id (.pointer (some ⟨d.p,0,none⟩))) (d::delD F d.id):=fun m=>by
 rw [mget_mset,findD_cons,findD_del]
 by_cases e:m=d.id
 ·simp [e]
 ·rw [if_neg e,if_neg e,if_neg (fun e2=>e e2.symm)];exact h m
theorem OpenOk.upd {kvs:List (UInt32 × Value)} {F:List DidV} (h:OpenOk kvs F) {n:UInt32} {d d':DidV} (hf:findD F n=some d) (hi:d'.id=n) (hp:d'.p=d.p):OpenOk kvs (d'::delD F n):=fun m=>by
 rw [findD_cons,findD_del,hi]
 by_cases e:n=m
 ·subst e;rw [if_pos rfl,h,hf];simp [hp]
 ·rw [if_neg e,if_neg (fun e2=>e e2.symm)];exact h m
def ogD (F:List DidV):Og:=fun n=>match findD F n with
 | some d=>(d.ops,d.l.map (·.2))
 | none=>([],[])
theorem ogD_some {F:List DidV} {n:UInt32} {d:DidV} (h:findD F n=some d):ogD F n=(d.ops,d.l.map (·.2)):=by unfold ogD;rw [h]
theorem ogD_set (F:List DidV) {n:UInt32} {d:DidV} (h:d.id=n):ogD (d::delD F n)=setO (ogD F) n (d.ops,d.l.map (·.2)):=by
 funext m
 unfold setO ogD
 rw [findD_cons,findD_del,h]
 by_cases e:n=m
 ·simp [e]
 ·have:m≠n:=fun e2=>e e2.symm
  simp [e,this]
theorem be_step (m:UInt32) (c:UInt8) (h:m.toNat < 16777216):((m <<< 8) ||| c.toUInt32).toNat=m.toNat * 256+c.toNat:=by
 have hc:=c.toNat_lt
 have e1:(m <<< 8).toNat=m.toNat <<< 8:=by
  rw [UInt32.toNat_shiftLeft,Nat.mod_eq_of_lt]
  ·rfl
  ·show m.toNat <<< 8 < _
   rw [Nat.shiftLeft_eq];omega
 rw [UInt32.toNat_or,e1,UInt8.toNat_toUInt32,← Nat.shiftLeft_add_eq_or_of_lt (by omega),Nat.shiftLeft_eq]
theorem beN_one (c:UInt8):(beN [c]).toNat=c.toNat:=by
 have:=be_step 0 c (by decide)
 simp [beN]
theorem beN_snoc (l:List UInt8) (c:UInt8):beN (l++[c])=(beN l <<< 8) ||| c.toUInt32:=by simp [beN]
theorem beN_two (a b:UInt8):(beN [a,b]).toNat=a.toNat * 256+b.toNat:=by
 rw [show [a,b]=[a]++[b] from rfl,beN_snoc,be_step _ _ (by rw [beN_one];have:=a.toNat_lt;omega),beN_one]
theorem beN_three (a b c:UInt8):(beN [a,b,c]).toNat=(a.toNat * 256+b.toNat) * 256+c.toNat:=by
 have:=a.toNat_lt;have:=b.toNat_lt
 rw [show [a,b,c]=[a,b]++[c] from rfl,beN_snoc,be_step _ _ (by rw [beN_two];omega),beN_two]
theorem beN_four (a b c d:UInt8):(beN [a,b,c,d]).toNat=((a.toNat * 256+b.toNat) * 256+c.toNat) * 256+d.toNat:=by
 have:=a.toNat_lt;have:=b.toNat_lt;have:=c.toNat_lt
 rw [show [a,b,c,d]=[a,b,c]++[d] from rfl,beN_snoc,be_step _ _ (by rw [beN_three];omega),beN_three]
theorem beN_num1 (n:Nat) (h:n < 256):(beN [UInt8.ofNat n]).toNat=n:=by
 rw [beN_one,UInt8.toNat_ofNat'];exact Nat.mod_eq_of_lt h
theorem beN_num2 (n:UInt32) (h:n.toNat < 65536):beN (numB n 2)=n:=by
 apply UInt32.toNat_inj.1
 show (beN [_,_]).toNat=_
 rw [beN_two,UInt8.toNat_ofNat',UInt8.toNat_ofNat']
 simp only [Nat.reduceMul,Nat.reducePow,Nat.pow_zero,Nat.div_one]
 omega
theorem beN_num4 (n:UInt32):beN (numB n 4)=n:=by
 apply UInt32.toNat_inj.1
 have:=n.toNat_lt
 show (beN [_,_,_,_]).toNat=_
 rw [beN_four,UInt8.toNat_ofNat',UInt8.toNat_ofNat',UInt8.toNat_ofNat',UInt8.toNat_ofNat']
 simp only [Nat.reduceMul,Nat.reducePow,Nat.pow_zero,Nat.div_one]
 omega
theorem textOf_bytes (s:ByteArray):textOf (bytesOf s)=s:=by
 cases s;simp [textOf,bytesOf]
theorem chg_size {c:ChgM} (h:chgOk c=true):c.key.size < 256:=by
 unfold chgOk at h
 simp at h
 have:=h.1
 unfold keyOk at this;simp at this;omega
theorem gone_back (c:ChgM):(beN [if c.gone then (1:UInt8) else 0] == 1)=c.gone:=by cases c.gone <;> rfl
theorem drop_cons {α:Type} {l:List α} {i:Nat} {x:α} (h:l[i]?=some x):l.drop i=x::l.drop (i+1):=by
 have hlt:=idx_lt h
 rw [List.getElem?_eq_getElem hlt] at h;cases h
 exact (List.getElem_cons_drop hlt).symm
theorem w_u32 {x:Int} (h1:0≤x) (h2:x < 4294967296):IntKind.u32.wrap x=x:=by
 simp [IntKind.wrap,IntKind.bits,IntKind.signed];omega
theorem four_back (n:UInt32):((((UInt8.ofNat (n.toNat / 2 ^ 24)).toUInt32 <<< 24 ||| (UInt8.ofNat (n.toNat / 2 ^ 16)).toUInt32 <<< 16) ||| (UInt8.ofNat (n.toNat / 2 ^ 8)).toUInt32 <<< 8) ||| (UInt8.ofNat n.toNat).toUInt32)=n:=by
 have hn:=n.toNat_lt
 have sh:∀ (c:UInt8) (m:UInt32) (k:Nat),m.toNat=k→k≤24→(c.toUInt32 <<< m).toNat=c.toNat <<< k:=fun c m k hm hk=>by
  have hc:=c.toNat_lt
  rw [UInt32.toNat_shiftLeft,UInt8.toNat_toUInt32,hm,Nat.mod_eq_of_lt (show k < 32 by omega)]
  apply Nat.mod_eq_of_lt
  rw [Nat.shiftLeft_eq]
  calc c.toNat * 2 ^ k≤255 * 2 ^ 24:=Nat.mul_le_mul (by omega) (Nat.pow_le_pow_right (by decide) hk)
   _ < _:=by decide
 have h0:=(UInt8.ofNat (n.toNat / 2 ^ 24)).toNat_lt
 have h1:=(UInt8.ofNat (n.toNat / 2 ^ 16)).toNat_lt
 have h2:=(UInt8.ofNat (n.toNat / 2 ^ 8)).toNat_lt
 have h3:=(UInt8.ofNat n.toNat).toNat_lt
 apply UInt32.toNat_inj.1
 rw [UInt32.toNat_or,UInt32.toNat_or,UInt32.toNat_or,sh _ 24 24 rfl (by decide),sh _ 16 16 rfl (by decide),sh _ 8 8 rfl (by decide),UInt8.toNat_toUInt32]
 have e0:(UInt8.ofNat (n.toNat / 2 ^ 24)).toNat=n.toNat / 2 ^ 24:=by rw [UInt8.toNat_ofNat'];omega
 have e1:(UInt8.ofNat (n.toNat / 2 ^ 16)).toNat=n.toNat / 2 ^ 16 % 256:=by rw [UInt8.toNat_ofNat']
 have e2:(UInt8.ofNat (n.toNat / 2 ^ 8)).toNat=n.toNat / 2 ^ 8 % 256:=by rw [UInt8.toNat_ofNat']
 have e3:(UInt8.ofNat n.toNat).toNat=n.toNat % 256:=by rw [UInt8.toNat_ofNat']
 rw [e0,e1,e2,e3]
 have a1:(n.toNat / 2 ^ 24) <<< 24 ||| (n.toNat / 2 ^ 16 % 256) <<< 16=(n.toNat / 2 ^ 16) <<< 16:=by
  rw [← Nat.shiftLeft_add_eq_or_of_lt (by rw [Nat.shiftLeft_eq];omega),Nat.shiftLeft_eq,Nat.shiftLeft_eq,Nat.shiftLeft_eq];omega
 have a2:(n.toNat / 2 ^ 16) <<< 16 ||| (n.toNat / 2 ^ 8 % 256) <<< 8=(n.toNat / 2 ^ 8) <<< 8:=by
  rw [← Nat.shiftLeft_add_eq_or_of_lt (by rw [Nat.shiftLeft_eq];omega),Nat.shiftLeft_eq,Nat.shiftLeft_eq,Nat.shiftLeft_eq];omega
 rw [a1,a2,← Nat.shiftLeft_add_eq_or_of_lt (by omega),Nat.shiftLeft_eq];omega
abbrev RecG:=UInt32 × List ChgM
def recB (y:RecG):List UInt8:=numB y.1 4++chgsB y.2
def recOk (y:RecG):Prop:=y.2.length≤4096∧∀ c ∈ y.2,chgOk c=true
theorem sum_take {l:List Nat} (i:Nat) {x:Nat} (h:l[i]?=some x):(l.take i).sum+x≤l.sum:=by
 have hlt:=idx_lt h
 rw [List.getElem?_eq_getElem hlt] at h;cases h
 have e:l=l.take i++l[i]::l.drop (i+1):=by rw [List.getElem_cons_drop,List.take_append_drop]
 have h2:=congrArg List.sum e
 rw [List.sum_append,List.sum_cons] at h2
 omega
section
variable {P : Program} {g : World} {Γ : Env} {L : List HP}
theorem e_max32 {dst:Option Tmp} {t:TypeId} {pos:String} {aft:Array Edge} {gd:Option (Nat × Bool)} {x y:Operand} {T U:TypeId} {a b:UInt32} (hx:ev Γ x=some (.int .u32 a.toNat):=by rfl) (hy:ev Γ y=some (.int .u32 b.toNat):=by rfl):EO P g ⟨dst,.call ⟨.builtin .max,#[x,y],#[T,U]⟩,t,pos,aft,gd⟩ Γ L (.int .u32 (if a < b then b else a).toNat):=by
 have h:=e_maxI (P:=P) (g:=g) (L:=L) (dst:=dst) (t:=t) (pos:=pos) (aft:=aft) (gd:=gd) (T:=T) (U:=U) hx hy
 have e:(if (a.toNat:Int) < b.toNat then (b.toNat:Int) else a.toNat)=((if a < b then b else a).toNat:Nat):=by
  by_cases h:a < b
  ·rw [if_pos h,if_pos (by have:=UInt32.lt_iff_toNat_lt.1 h;omega)]
  ·rw [if_neg h,if_neg (by intro h';exact h (UInt32.lt_iff_toNat_lt.2 (by omega)))]
 rw [← e];exact h
end
theorem rds_mono {S T:Piece} {z n:Nat} {u:Value} {cs:List Value} (h:RdS S z u n cs) (hl:le S T):RdS T z u n cs:=by
 rcases h with h | ⟨b,o,c,l,t,h1,h2,h3,h4,h5⟩
 ·exact .inl h
 ·exact .inr ⟨b,o,c,l,t,h1,h2,hl _ _ h3,h4,h5⟩
theorem mem_stars {A:HP} {L:List HP} (h:A ∈ L):∀ S,stars L S→∃ T,le T S∧A T:=by
 induction L with
 | nil=>cases h
 | cons B L ih=>
  rintro S ⟨S1,S2,_,h1,h2,h3,h4⟩
  rcases List.mem_cons.1 h with rfl | h
  ·exact ⟨S1,h1,h3⟩
  ·obtain ⟨T,h5,h6⟩:=ih h S2 h4
   exact ⟨T,le_trans h5 h2,h6⟩
section
variable {P : Program} {g : World} {Γ : Env} {L : List HP} {dst : Option Tmp} {t : TypeId} {pos : String} {aft : Array Edge} {gd : Option (Nat × Bool)}
theorem e_idxS {x i:Operand} {T:TypeId} {s:ByteArray} {k:IntKind} {b:UInt8} {n:Nat} (ht:P.underlying T=some .string) (hi:ev Γ i=some (.int k n):=by rfl) (hx:ev Γ x=some (.string s):=by rfl) (hb:s[n]?=some b:=by rfl):EO P g ⟨dst,.index T x i,t,pos,aft,gd⟩ Γ L (.int .u8 b.toNat):=
 .of (by simp) fun ρ hρ w hw=>by
  simp [execOp,hρ x _ (by simp [Op.operands]) hx,hρ i _ (by simp [Op.operands]) hi,Instr.index,asIntOf,run_underlying ht,hb]
end
theorem getF_frame {r:List UInt8} (h:r.length≤16384) (rest:List UInt8):getF (frame r++rest)=some (r,secs r.length):=by
 have hs:=secs_le r.length
 have hl:=frame_len r
 have hn:(UInt32.ofNat r.length).toNat=r.length:=by rw [UInt32.toNat_ofNat'];exact Nat.mod_eq_of_lt (by omega)
 have e4:(frame r++rest).take 4=numB (UInt32.ofNat r.length) 4:=by
  unfold frame
  rw [List.append_assoc,List.append_assoc,List.append_assoc]
  exact List.take_left' (numB_len _ _)
 have e8:(frame r++rest).drop 8=r++(List.replicate (secs r.length * 64 - 8 - r.length) 0++rest):=by
  unfold frame
  rw [List.append_assoc,List.append_assoc]
  exact List.drop_left' (by simp [numB_len])
 have er:((frame r++rest).drop 8).take r.length=r:=by rw [e8];exact List.take_left' rfl
 have ef:(frame r++rest).take (secs r.length * 64)=frame r:=List.take_left' hl
 unfold getF
 rw [if_neg (by rw [List.length_append,hl];omega)]
 simp only [e4,beN_num4,hn,er,ef]
 rw [if_neg (by omega),if_neg (by rw [List.length_append,hl];omega),if_pos trivial]
theorem recs_frames:∀ (ys:List RecG) (rest:List UInt8),(∀ y ∈ ys,(recB y).length≤16384)→recs rest=[]→recs ((ys.flatMap fun y=>frame (recB y))++rest)=ys.map fun y=>(recB y,secs (recB y).length)
 | [],rest,_,h=>by simpa using h
 | y::ys,rest,hy,h=>by
  have ih:=recs_frames ys rest (fun z hz=>hy z (by simp [hz])) h
  rw [List.flatMap_cons,List.append_assoc,recs_some (getF_frame (hy y (by simp)) _),List.drop_left' (frame_len _),ih]
  rfl
theorem flat_take64:∀ (l:List (List UInt8)) (i:Nat),(∀ p ∈ l,p.length=64)→(l.take i).flatten=l.flatten.take (i * 64)
 | l,0,_=>by simp
 | [],i+1,_=>by simp
 | p::l,i+1,h=>by
  have hp:=h p (by simp)
  rw [List.take_succ_cons,List.flatten_cons,List.flatten_cons,flat_take64 l i (fun q hq=>h q (by simp [hq])),List.take_append,hp,show (i+1) * 64 - 64=i * 64 by omega,List.take_of_length_le (l:=p) (by omega)]
theorem flat_drop64:∀ (l:List (List UInt8)) (i:Nat),(∀ p ∈ l,p.length=64)→(l.drop i).flatten=l.flatten.drop (i * 64)
 | l,0,_=>by simp
 | [],i+1,_=>by simp
 | p::l,i+1,h=>by
  have hp:=h p (by simp)
  rw [List.drop_succ_cons,List.flatten_cons,flat_drop64 l i (fun q hq=>h q (by simp [hq])),List.drop_append,hp,show (i+1) * 64 - 64=i * 64 by omega,List.drop_of_length_le (l:=p) (by omega),List.nil_append]
theorem addW_flat:∀ (k:Nat) (d:DiskM) (i:Nat) (b:List UInt8),b.length=k * 64→i+k≤d.seen.length→(addW d i b k).seen.flatten=(d.seen.take i).flatten++b++(d.seen.drop (i+k)).flatten∧(addW d i b k).seen.length=d.seen.length
 | 0,d,i,b,hb,hi=>by
  have:b=[]:=by simpa using hb
  subst this
  refine ⟨?_,rfl⟩
  show d.seen.flatten=_
  rw [List.append_nil,← List.flatten_append,Nat.add_zero,List.take_append_drop]
 | k+1,d,i,b,hb,hi=>by
  have h1:(b.take 64).length=64:=by simp;omega
  have hw:(d.write i (b.take 64)).seen=d.seen.set i (b.take 64):=by simp [DiskM.write,pad_id h1]
  obtain ⟨e1,e2⟩:=addW_flat k (d.write i (b.take 64)) (i+1) (b.drop 64) (by simp;omega) (by rw [hw,List.length_set];omega)
  rw [hw] at e1 e2
  refine ⟨?_,by rw [addW,e2,List.length_set]⟩
  rw [addW,e1,List.drop_set_of_lt (by omega),show i+1+k=i+(k+1) by omega]
  congr 1
  have e3:(d.seen.set i (b.take 64)).take (i+1)=d.seen.take i++[b.take 64]:=by
   rw [take_snoc (List.getElem?_set_self (by omega)),List.take_set_of_le (Nat.le_refl i)]
  rw [e3,List.flatten_append,List.append_assoc]
  congr 1
  simp
theorem recs_zeros (n:Nat):recs (List.replicate (n * 64) 0)=[]:=by
 cases n with
 | zero=>rfl
 | succ n=>exact recs_zero _ (by omega)
structure DiskLog (d:DiskM) (at0:Nat) (ys:List RecG):Prop where
 ok:d.ok
 waits:d.waits=[]
 same:d.sure=d.seen
 len:d.sure.length=4096
 flat:d.seen.flatten=(ys.flatMap fun y=>frame (recB y))++List.replicate ((4096 - at0) * 64) 0
 hat:(ys.map fun y=>secs (recB y).length).sum=at0
 le:at0≤4096
 yok:∀ y ∈ ys,recOk y∧(recB y).length≤16384
theorem frames_len:∀ (ys:List RecG),(ys.flatMap fun y=>frame (recB y)).length=(ys.map fun y=>secs (recB y).length).sum * 64
 | []=>rfl
 | y::ys=>by rw [List.flatMap_cons,List.length_append,frames_len ys,frame_len];simp;omega
theorem clean_id (all:List UInt8) (d:DiskM) (lo:Nat):∀ k,(∀ j,j < k→(all.drop ((lo+j) * 64)).take 64=List.replicate 64 0)→cleanTo all d lo k=d
 | 0,_=>rfl
 | k+1,h=>by rw [cleanTo,if_pos (h k (by omega))];exact clean_id all d lo k fun j hj=>h j (by omega)
theorem DiskLog.recs {d:DiskM} {at0:Nat} {ys:List RecG} (h:DiskLog d at0 ys):(SL.recs d.seen.flatten).map (·.1)=ys.map recB∧((SL.recs d.seen.flatten).map (·.2)).sum=at0∧cleanTo d.seen.flatten d at0 (d.sure.length - at0)=d:=by
 have hr:SL.recs d.seen.flatten=ys.map fun y=>(recB y,secs (recB y).length):=by
  rw [h.flat]
  exact recs_frames ys _ (fun y hy=>(h.yok y hy).2) (recs_zeros _)
 refine ⟨by rw [hr];simp,by rw [hr,← h.hat];simp [Function.comp_def],clean_id _ _ _ _ fun j hj=>?_⟩
 have hl:=h.len
 rw [h.flat,List.drop_append,frames_len,h.hat,List.drop_of_length_le (by rw [frames_len,h.hat];omega),List.nil_append,List.drop_replicate,List.take_replicate]
 congr 1
 omega
theorem DiskLog.fail {d:DiskM} {at0:Nat} {ys:List RecG} (h:DiskLog d at0 ys):(⟨d.sure,d.sure,[]⟩:DiskM)=d:=by
 have h1:=h.same;have h2:=h.waits
 cases d;simp only at h1 h2 ⊢;subst h1 h2;rfl
theorem DiskLog.sync {d:DiskM} {at0:Nat} {ys:List RecG} (h:DiskLog d at0 ys):d.sync=d:=by
 have h1:=h.same;have h2:=h.waits
 cases d;simp only [DiskM.sync] at h1 h2 ⊢;subst h1 h2;rfl
theorem DiskLog.first:DiskLog (newDisk 4096).sync 0 []:=
 ⟨newDisk_quiet.ok.sync,rfl,rfl,List.length_replicate,by show (newDisk 4096).seen.flatten=_;rw [new_flat];rfl,rfl,Nat.zero_le _,by simp⟩
theorem DiskLog.add {d:DiskM} {at0:Nat} {ys:List RecG} (h:DiskLog d at0 ys) {y:RecG} (hy:recOk y) (hl:(recB y).length≤16384) (hfit:at0+secs (recB y).length≤d.sure.length):DiskLog (addW d at0 (frame (recB y)) (secs (recB y).length)).sync (at0+secs (recB y).length) (ys++[y]):=by
 have hlen:=h.len
 have hsl:=h.ok.len
 obtain ⟨e1,e2⟩:=addW_flat (secs (recB y).length) d at0 (frame (recB y)) (frame_len _) (by omega)
 have hfr:(ys.flatMap fun y=>frame (recB y)).length=at0 * 64:=by rw [frames_len,h.hat]
 refine ⟨(addW_ok _ _ _ _ h.ok).sync,rfl,rfl,by show (addW _ _ _ _).seen.length=_;rw [e2];omega,?_,by rw [List.map_append,List.sum_append,h.hat];simp,by omega,fun z hz=>?_⟩
 ·show (addW _ _ _ _).seen.flatten=_
  rw [e1,flat_take64 _ _ h.ok.l2,flat_drop64 _ _ h.ok.l2,h.flat,List.take_left' hfr,List.drop_append,List.drop_of_length_le (by rw [hfr];omega),List.nil_append,hfr,List.drop_replicate,List.flatMap_append]
  simp only [List.flatMap_cons,List.flatMap_nil,List.append_nil]
  congr 2
  omega
 ·rcases List.mem_append.1 hz with hz | hz
  ·exact h.yok z hz
  ·simp at hz;subst hz;exact ⟨hy,hl⟩
end Go.SL
namespace Go.SL
open Go
structure TxV where
  id:UInt32
  num:UInt32
  own:List ChgM
  q:Nat
  sv:SV
structure GamV where
  d:DiskM
  at_:Nat
  rows:List RowM
  nums:List (ByteArray × UInt32)
  last:UInt32
  looks:List (UInt32 × SpanM)
  txs:List TxV
def findT (ts:List TxV) (n:UInt32):Option TxV:=ts.find? fun t=>decide (t.id=n)
def delT (ts:List TxV) (n:UInt32):List TxV:=ts.eraseP fun t=>decide (t.id=n)
def kvT (t:TxV):UInt32 × Value:=(t.id,.pointer (some ⟨t.q,0,none⟩))
theorem mget_kv (ts:List TxV) (n:UInt32):mget (ts.map kvT) n=(findT ts n).map fun t=>.pointer (some ⟨t.q,0,none⟩):=by
  unfold mget findT
  induction ts with
  | nil=>rfl
  | cons t ts ih=>
    simp only [List.map_cons,List.find?_cons,kvT]
    by_cases h:t.id=n
    · simp [h]
    · simp only [h,decide_false];exact ih
theorem mdel_kv (ts:List TxV) (n:UInt32):mdel (ts.map kvT) n=(delT ts n).map kvT:=by
  unfold mdel midx delT
  induction ts with
  | nil=>rfl
  | cons t ts ih=>
    simp only [List.map_cons,List.findIdx?_cons,List.eraseP_cons,kvT]
    by_cases h:t.id=n
    · simp [h]
    · simp only [h,decide_false,Bool.false_eq_true,if_false,cond_false]
      cases hm:List.findIdx? (fun p:UInt32 × Value=>decide (p.1=n)) (ts.map kvT) with
      | none=>rw [hm] at ih;simp [ih,kvT]
      | some j=>rw [hm] at ih;simp only [Option.map_some,List.eraseIdx_cons_succ,List.map_cons];rw [← ih];rfl
theorem mset_kv (ts:List TxV) (t:TxV) (h:findT ts t.id=none):mset (ts.map kvT) t.id (.pointer (some ⟨t.q,0,none⟩))=(ts++[t]).map kvT:=by
  have h1:midx (ts.map kvT) t.id=none:=by rw [midx_none,mget_kv,h];rfl
  simp [mset,h1,kvT]
def minL (ts:List TxV) (m:UInt32):UInt32:=ts.foldl (fun m t=>if t.num < m then t.num else m) m
theorem minL_mid (A B:List TxV) (t:TxV) (m:UInt32):minL (A++t::B) m=minL (A++B) (if t.num < m then t.num else m):=by
  induction A generalizing m with
  | nil=>rfl
  | cons a A ih=>
    show minL (A++t::B) _=minL (A++B) _
    rw [ih];congr 1;exact min_swap m a.num t.num
def endsG (s:GamV) (n:UInt32):GamV:=
  { s with txs:=delT s.txs n,looks:=s.looks.filter fun x=>!decide (x.1 < minL (delT s.txs n) s.last) }
def changes (t:TxV) (p:SpanM):Bool:=t.own.any fun c=>meet (one c.key) p
def underL (ts:List TxV) (n:UInt32) (p:SpanM):List UInt32:=(ts.filter fun o=>!decide (o.id=n) && changes o p).map (·.num)
theorem underL_app (A B:List TxV) (n:UInt32) (p:SpanM):underL (A++B) n p=underL A n p++underL B n p:=by simp [underL]
theorem underL_one (t:TxV) (n:UInt32) (p:SpanM):underL [t] n p=if t.id=n then [] else if changes t p then [t.num] else []:=by
  unfold underL
  by_cases h:t.id=n
  · simp [h]
  · cases h2:changes t p <;> simp [h,h2]
theorem underL_mid (A B:List TxV) (t:TxV) (n:UInt32) (p:SpanM):underL (A++t::B) n p=underL A n p++(underL [t] n p++underL B n p):=by
  rw [show A++t::B=A++([t]++B) by simp,underL_app,underL_app]
def lateG (s:GamV) (t:TxV) (p:SpanM) (w:Bool):Bool:=
  numsLate s.nums t.num p || (w && ((underL s.txs t.id p).any (fun n=>decide (t.num < n)) || s.looks.any fun x=>decide (t.num < x.1) && meet x.2 p))
structure GI where
  lp:Nat
  mp:Nat
  nm:Value
  lm:Value
  sv:SV
theorem kv_cases {ts:List TxV} {a b:List (UInt32 × Value)} {y:UInt32 × Value} {G:Prop} (hx:ts.map kvT=a++y::b) (n:UInt32)
    (h1:∀ A t B,ts=A++t::B→a=A.map kvT→y=kvT t→b=B.map kvT→t.id=n→G) (h2:∀ A t B,ts=A++t::B→a=A.map kvT→y=kvT t→b=B.map kvT→t.id≠n→G):G:=by
  obtain ⟨A,t,B,e1,e2,e3,e4⟩:=map_mid hx
  by_cases h:t.id=n
  · exact h1 A t B e1 e2 e3 e4 h
  · exact h2 A t B e1 e2 e3 e4 h
theorem find_mid {ts:List TxV} {n:UInt32} {t:TxV} (h:findT ts n=some t):t.id=n∧∃ A B,ts=A++t::B∧delT ts n=A++B∧∀ x ∈ A,x.id≠n:=by
  unfold findT at h
  induction ts with
  | nil=>simp at h
  | cons x ts ih=>
    rw [List.find?_cons] at h
    by_cases e:x.id=n
    · simp [e] at h;subst h
      exact ⟨e,[],ts,rfl,by simp [delT,e],by simp⟩
    · simp [e] at h
      obtain ⟨h1,A,B,h2,h3,h4⟩:=ih (by simpa using h)
      refine ⟨h1,x::A,B,by simp [h2],by simp only [delT,List.eraseP_cons,e,decide_false,cond_false,List.cons_append] at h3 ⊢;rw [h3],?_⟩
      intro y hy
      rcases List.mem_cons.1 hy with rfl | hy
      · exact e
      · exact h4 y hy
theorem nodup_mid {A B:List TxV} {t:TxV} (h:((A++t::B).map (·.id)).Nodup):∀ x ∈ A++B,x.id≠t.id:=by
  rw [List.map_append,List.map_cons] at h
  obtain ⟨h1,h2,h3⟩:=List.nodup_append.1 h
  have h4:=(List.nodup_cons.1 h2).1
  intro x hx e
  rcases List.mem_append.1 hx with hx | hx
  · exact h3 x.id (List.mem_map.2 ⟨x,hx,rfl⟩) t.id (by simp) e
  · exact h4 (e ▸ List.mem_map.2 ⟨x,hx,rfl⟩)
structure GamOk (s:GamV) (b:Nat):Prop where
  dok:s.d.ok
  hat:s.at_≤s.d.sure.length
  waits:s.d.waits=[]
  rising:Rising s.rows
  sum:s.rows.length+(s.txs.map fun t=>t.own.length).sum≤b
  looks:s.looks.length≤b
  ids:(s.txs.map (·.id)).Nodup
  own:∀ t ∈ s.txs,∀ c ∈ t.own,chgOk c=true
  bb:b≤1000000000
theorem GamOk.own_le {s:GamV} {b:Nat} (h:GamOk s b) {t:TxV} (ht:t ∈ s.txs):s.rows.length+t.own.length≤b:=by
  have:=h.sum
  obtain ⟨A,B,e⟩:=mem_mid ht
  rw [e] at this
  simp at this;omega
theorem under_other {ts A B:List TxV} {t y:TxV} (h:ts=A++t::B) (hy:y ∈ ts) (hid:y.id≠t.id):y ∈ A++B:=by
  rw [h] at hy
  simp only [List.mem_append,List.mem_cons] at hy ⊢
  rcases hy with h | rfl | h
  · exact .inl h
  · exact absurd rfl hid
  · exact .inr h
theorem under_same {ts A B:List TxV} {t y:TxV} (h:ts=A++t::B) (hnd:(ts.map (·.id)).Nodup) (hy:y ∈ ts) (hid:y.id=t.id):y=t:=by
  rw [h] at hy hnd
  simp only [List.mem_append,List.mem_cons] at hy
  have hn:=nodup_mid hnd
  rcases hy with h | rfl | h
  · exact absurd hid (hn y (by simp [h]))
  · rfl
  · exact absurd hid (hn y (by simp [h]))
section
variable {P : Program} {r : Option Nat} {g : World} {Γ : Env} {L M : List HP} {dst : Option Tmp} {t : TypeId} {pos : String} {aft : Array Edge} {gd : Option (Nat × Bool)}
theorem e_lookT {x i:Operand} {T e kt:TypeId} {d:TypeDesc} {n:UInt32} {ts:List TxV} {m:Value} (ht:P.underlying T=some (.map kt e)) (hk:KeyOk P kt d eU32) (hz:(P.info? e).bind (·.zero)=some (.pointer none)) (hx:ev Γ x=some m:=by rfl) (hi:ev Γ i=some (.int .u32 n.toNat):=by rfl) (hp:Pick L (Mp eU32 m (List.map kvT ts)) M:=by repeat first | exact .z | apply Pick.s) :
    EO P g ⟨dst,.lookup T x i false,t,pos,aft,gd⟩ Γ L (.pointer ((findT ts n).map fun t=>⟨t.q,0,none⟩)):=by
  have h:=e_lookup (g:=g) (L:=L) (dst:=dst) (t:=t) (pos:=pos) (aft:=aft) (gd:=gd) (x:=x) (i:=i) (k:=n) ht hk hz hx hi hp
  rw [mget_kv] at h
  cases hf:findT ts n with
  | none=>rw [hf] at h;exact h
  | some t=>rw [hf] at h;exact h
end
end Go.SL
namespace Go.SL.Fc
open Go Go.Proofs Go.SL
theorem a139:aggOf Tryz.prog 139=some (some 3):=by kernel_rfl
theorem k187:callable Tryz.prog 187=true:=by kernel_rfl
theorem s139:szOf Tryz.prog 139=some 3:=by kernel_rfl
theorem sl91:slOf Tryz.prog 91=some (139,3,40):=by kernel_rfl
theorem z139:zeroOf Tryz.prog 139=some [.int .u32 0,.string .empty,.string .empty]:=by kernel_rfl
end Go.SL.Fc
namespace Go.SL
open Go Go.Proofs Fc
theorem IndexGL_spec {g:World} {A B:HP} {u y:Value} {xs:List (UInt32 × SpanM)} {p:UInt32 × SpanM→Bool} (hA:RL A 3 lookC u xs) (hn:xs.length≤68719476736) (hy:∀ x,CallV Tryz.prog g y [.agg (lookC x).toArray] [B] fun K R=>K (.bool (p x)) (B::R)) :
  Spec Tryz.prog g 187 [u,y] [A,B] fun K R=>K (.int .i64 (if xs.any p then (xs.findIdx p:Nat) else -1)) (A::B::R):=by
 refine Spec.intro Tryz.func187 rfl Tryz.ntmps187 rfl fun R K hK=>?_
 refine WP.seq<|WP.reg<|WL.e e_assign<|WL.next<|WP.seq<|WP.seq<|WP.reg<|WL.e e_move<|WL.e (el_len sl91 hA)<|WL.e e_move<|WL.next<|WP.block<|WP.loopK (fun (i:Nat)=>[(8,.int .i64 i)]) (fun (i:Nat)=>A::B::R) [(0,_),(1,_),(7,_)] (fun (i:Nat)=>i≤xs.length∧(xs.take i).any p=false) (fun (i:Nat)=>xs.length - i) 0 (⟨Nat.zero_le _,by simp⟩) ?_
 rintro i ⟨h1,h2⟩
 refine WP.seq<|WP.reg<|WL.e e_lss<|WL.next<|WP.seq ?_
 refine WP.cond rfl (fun h3=>?_) (fun h3=>?_)
 ·have hlt:i < xs.length:=by rw [decide_eq_true_eq] at h3;omega
  obtain ⟨x,hx⟩:∃ x,xs[i]?=some x:=⟨_,List.getElem?_eq_getElem hlt⟩
  refine WP.skip<|PO.next<|WP.seq<|WP.block<|WP.seq<|WP.reg<|WL.e e_move<|WL.e e_assign<|WL.next<|WP.seq<|WP.reg<|WL.e e_move<|WL.e e_move<|WL.e e_move<|WL.e (el_ia sl91 hA hlt)<|WL.e (el_loadN (vs:=lookC x) a139 lookE hA hx (hv:=ext_of (lookE.len x))) ?_
  refine WL.h (h_cally (hy x) ?_)
  refine WL.next ?_
  refine WP.cond rfl (fun h4=>?_) (fun h4=>?_)
  ·skip
   refine WP.seq<|WP.reg<|WL.e e_move<|WL.e e_assign<|WL.next<|WP.ret<|PO.blockR<|PO.past nofun<|PO.round nofun<|PO.blockR<|PO.past nofun ?_
   exact PO.finE Tryz.results187 (rv_tmp rv_nil) (by rw [index_at h2 hx h4];rfl) hK
  ·skip
   refine WP.skip<|PO.blockN<|PO.next<|WP.reg<|WL.e (e_add rfl rfl (w_i64 (by omega) (by omega)))<|WL.e e_move<|WL.nil ?_
   exact PO.againK (i+1) ⟨by omega,by rw [take_snoc hx,List.any_append,h2];simp [h4]⟩ (by omega)
 ·have hall:xs.any p=false:=by rw [decide_eq_false_iff_not] at h3;rwa [List.take_of_length_le (by omega)] at h2
  refine WP.exit<|PO.past nofun<|PO.round nofun<|PO.blockX<|PO.next<|WP.seq<|WP.reg<|WL.e e_assign<|WL.next<|WP.ret ?_
  exact PO.finE Tryz.results187 (rv_tmp rv_nil) (by rw [hall];rfl) hK
theorem ContainsL_spec {g:World} {A B:HP} {u y:Value} {xs:List (UInt32 × SpanM)} {p:UInt32 × SpanM→Bool} (hA:RL A 3 lookC u xs) (hn:xs.length≤68719476736) (hy:∀ x,CallV Tryz.prog g y [.agg (lookC x).toArray] [B] fun K R=>K (.bool (p x)) (B::R)) :
  Spec Tryz.prog g 137 [u,y] [A,B] fun K R=>K (.bool (xs.any p)) (A::B::R):=by
 refine Spec.intro Tryz.func137 rfl Tryz.ntmps137 rfl fun R K hK=>?_
 refine WP.seq<|WP.reg<|WL.e e_assign<|WL.next<|WP.seq<|WP.reg<|WL.e e_move<|WL.e e_move ?_
 refine WL.h (h_call (IndexGL_spec hA hn hy) k187 ?_)
 refine WL.e e_geq<|WL.e e_assign<|WL.next<|WP.ret ?_
 exact PO.finE Tryz.results137 (rv_tmp rv_nil) (by cases h:xs.any p <;> simp) hK
theorem DelL_spec {g:World} {B:HP} {u y:Value} {xs:List (UInt32 × SpanM)} {p:(UInt32 × SpanM)→Bool} (hn:xs.length≤68719476736) (hy:∀ x,CallV Tryz.prog g y [.agg (lookC x).toArray] [B] fun K R=>K (.bool (p x)) (B::R)) :
  Spec Tryz.prog g 122 [u,y] [Sl 139 3 lookC (u) (xs),B] fun K R=>∀ a m c,K (.slice a m c) (Sl 139 3 lookC (.slice a m c) (xs.filter fun x=>!p x)::B::R):=by
 refine Spec.intro Tryz.func122 rfl Tryz.ntmps122 rfl fun R K hK=>?_
 refine WP.seq<|WP.reg<|WL.e e_assign<|WL.next<|WP.seq<|WP.reg<|WL.e e_move<|WL.e e_move ?_
 refine WL.h (h_call (IndexGL_spec (sl_rl (xs:=xs)) hn hy) k187 ?_)
 refine WL.e e_assign<|WL.next<|WP.seq<|WP.seq<|WP.reg<|WL.e e_move<|WL.e e_eql<|WL.next ?_
 refine WP.cond rfl (fun h1=>?_) (fun h1=>?_)
 ·have hall:xs.any p=false:=by cases e:xs.any p with
   | false=>rfl
   | true=>rw [e] at h1;simp at h1
  have hf:(xs.filter fun x=>!p x)=xs:=by rw [List.filter_eq_self];intro x hx;rw [List.any_eq_false] at hall;simpa using hall x hx
  refine WP.seq<|WP.reg<|WL.e e_move<|WL.e e_assign<|WL.next<|WP.ret<|PO.past nofun<|PO.sh (u:=u) ?_
  rintro a m c rfl
  rw [hf] at hK
  exact PO.fin Tryz.results122 (rv_tmp rv_nil) (hK a m c)
 ·have hany:xs.any p=true:=by cases e:xs.any p with
   | true=>rfl
   | false=>rw [e] at h1;simp at h1
  rw [hany,if_pos rfl]
  have hi0:xs.findIdx p < xs.length:=List.findIdx_lt_length.2 (by simpa using hany)
  have h00:(xs.take (xs.findIdx p)).filter (fun x=>!p x)=xs.take (xs.findIdx p):=by rw [List.filter_eq_self];intro x hx;obtain ⟨i,hi,rfl⟩:=List.getElem_of_mem hx;simp at hi;have:=List.not_of_lt_findIdx (p:=p) (xs:=xs) (i:=i) (by omega);simpa using this
  have h01:(xs.take (xs.findIdx p+1)).filter (fun x=>!p x)=xs.take (xs.findIdx p):=by rw [take_snoc (List.getElem?_eq_getElem hi0),List.filter_append,h00];simp [List.findIdx_getElem]
  refine WP.skip<|PO.next<|WP.seq<|WP.seq<|WP.reg<|WL.e e_move<|WL.e (e_add (c:=((xs.findIdx p+1:Nat):Int)) rfl rfl (by rw [w_i64 (by omega) (by omega)];omega))<|WL.e e_assign<|WL.next<|WP.block<|WP.loopK (fun (x:Nat × Nat × List (UInt32 × SpanM))=>[(5,.int .i64 x.1),(6,.int .i64 x.2.1)]) (fun (x:Nat × Nat × List (UInt32 × SpanM))=>Sl 139 3 lookC (u) (x.2.2)::B::R) [(0,_),(1,_),(4,_)] (fun (x:Nat × Nat × List (UInt32 × SpanM))=>x.1≤x.2.1∧x.2.1≤xs.length∧x.2.2.length=xs.length∧x.2.2.drop x.2.1=xs.drop x.2.1∧x.2.2.take x.1=(xs.take x.2.1).filter (fun x=>!p x)) (fun (x:Nat × Nat × List (UInt32 × SpanM))=>xs.length - x.2.1) (xs.findIdx p,xs.findIdx p+1,xs) (⟨Nat.le_succ _,hi0,rfl,rfl,h01.symm⟩) ?_
  rintro ⟨i,j,ys⟩ ⟨hij,hj,hl,hd,ht⟩
  simp only at hij hj hl hd ht
  dsimp only
  refine WP.seq<|WP.seq<|WP.reg<|WL.e e_move<|WL.e e_move<|WL.e (el_len (xs:=ys) sl91 sl_rl)<|WL.e e_lss<|WL.next ?_
  refine WP.cond rfl (fun h3=>?_) (fun h3=>?_)
  ·have hlt:j < xs.length:=by rw [decide_eq_true_eq,hl] at h3;omega
   obtain ⟨x,hx⟩:∃ x,xs[j]?=some x:=⟨_,List.getElem?_eq_getElem hlt⟩
   have hyx:ys[j]?=some x:=by have:=congrArg (·[0]?) hd;simp only [List.getElem?_drop,Nat.add_zero] at this;rw [this,hx]
   refine WP.skip<|PO.next<|WP.seq<|WP.block<|WP.seq<|WP.reg<|WL.e e_move<|WL.e e_move<|WL.e (el_ia (j:=j) (xs:=ys) sl91 sl_rl (by omega))<|WL.e (el_loadN (vs:=lookC x) a139 lookE (sl_rl (xs:=ys)) hyx (hv:=ext_of (lookE.len x))) ?_
   refine WL.h (h_alloc z139 fun b1=>?_)
   refine WL.h' (h_store s139 ?_)
   refine WL.next<|WP.seq<|WP.reg<|WL.e e_move<|WL.e (e_loadN a139) ?_
   refine WL.h (h_cally (hy x) ?_)
   refine WL.e e_not<|WL.next ?_
   refine WP.cond rfl (fun h4=>?_) (fun h4=>?_)
   ·skip
    refine WP.seq<|WP.reg<|WL.e e_move<|WL.e e_move<|WL.e (e_loadN a139)<|WL.e (el_ia (j:=i) (xs:=ys) sl91 sl_rl (by omega)) ?_
    refine WL.h' (hl_store (xs:=ys) (j:=i) x s139 lookE (by omega) ?_)
    refine WL.next<|WP.reg<|WL.e e_move<|WL.e (e_add (c:=((i+1:Nat):Int)) rfl rfl (by rw [w_i64 (by omega) (by omega)];omega))<|WL.e e_assign<|WL.nil<|PO.blockN<|PO.next<|WP.reg<|WL.e e_move<|WL.e (e_add (c:=((j+1:Nat):Int)) rfl rfl (by rw [w_i64 (by omega) (by omega)];omega))<|WL.e e_assign<|WL.nil ?_
    exact PO.againK (i+1,j+1,ys.set i x) ⟨by simp only;omega,by simp only;omega,by simp [hl],by simp only;rw [List.drop_set_of_lt (by omega),← List.drop_drop,hd,List.drop_drop],by simp only;rw [take_snoc (show (ys.set i x)[i]?=some x by rw [List.getElem?_set_self (by omega)]),List.take_set_of_le (Nat.le_refl i),ht,take_snoc hx,List.filter_append];simp at h4;simp [h4]⟩ (by simp only;omega)
   ·skip
    refine WP.skip<|PO.blockN<|PO.next<|WP.reg<|WL.e e_move<|WL.e (e_add (c:=((j+1:Nat):Int)) rfl rfl (by rw [w_i64 (by omega) (by omega)];omega))<|WL.e e_assign<|WL.nil ?_
    exact PO.againK (i,j+1,ys) ⟨by simp only;omega,by simp only;omega,hl,by simp only;rw [← List.drop_drop,hd,List.drop_drop],by simp only;rw [ht,take_snoc hx,List.filter_append];simp at h4;simp [h4]⟩ (by simp only;omega)
  ·obtain rfl:j=xs.length:=by rw [decide_eq_false_iff_not,hl] at h3;omega
   rw [List.take_length] at ht
   refine WP.exit<|PO.past nofun<|PO.round nofun<|PO.blockX<|PO.next<|WP.seq<|WP.reg<|WL.e e_move<|WL.e e_move<|WL.e (el_from (lo:=i) (xs:=ys) sl91 sl_rl (by omega)) ?_
   refine WL.h' (hl_clear (lo:=i) (xs:=ys) (0,⟨.empty,.empty⟩) sl91 z139 lookE rfl (by omega) (by omega) ?_)
   refine WL.next<|WP.seq<|WP.reg<|WL.e e_move<|WL.e e_move<|WL.e (el_to (hi:=i) (xs:=ys.take i++List.replicate (ys.length - i) (0,⟨.empty,.empty⟩)) sl91 sl_rl (by simp;omega))<|WL.e e_assign<|WL.next<|WP.ret ?_
   refine PO.conv (conv1 (B:=Sl 139 3 lookC (subV u 0 i none 3) (xs.filter fun x=>!p x)) (A:=Sl 139 3 lookC (u) (ys.take i++List.replicate (ys.length - i) (0,⟨.empty,.empty⟩))) (fun S h=>?_) (by repeat first | exact .z | apply Put.s)) ?_
   ·have h:=sl_to (i:=i) lookE h (by simp;omega)
    rwa [List.take_left' (by simp;omega),ht] at h
   refine PO.sh (u:=subV u 0 i none 3) ?_
   intro a m c he
   rw [he]
   exact PO.fin Tryz.results122 (rv_tmp rv_nil) (hK a m c)
end Go.SL
