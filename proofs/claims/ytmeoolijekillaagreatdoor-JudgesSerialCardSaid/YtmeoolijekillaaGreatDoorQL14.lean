import Derived.Test.YtmeoolijekillaaGreatDoorQL13
set_option linter.unusedSimpArgs false
set_option linter.unusedVariables false
set_option linter.unusedSectionVars false
namespace Go.SL
open Go
def numsLate (nums:List (ByteArray × UInt32)) (num:UInt32) (p:SpanM):Bool:=nums.any fun x=>decide (num < x.2) && meet (one x.1) p
def setN (l:List (ByteArray × UInt32)) (k:ByteArray) (num:UInt32):List (ByteArray × UInt32):=match l.findIdx? (fun p=>decide (p.1=k)) with
 | some i=>l.set i (k,num)
 | none=>l++[(k,num)]
def keptG (nums:List (ByteArray × UInt32)) (num:UInt32) (cs:List ChgM):List (ByteArray × UInt32):=cs.foldl (fun l c=>setN l c.key num) nums
def numC (x:ByteArray × UInt32):ByteArray × Value:=(x.1,.int .u32 x.2.toNat)
def lookC (x:UInt32 × SpanM):List Value:=[.int .u32 x.1.toNat,.string x.2.a,.string x.2.b]
theorem map_mid {α β:Type} {f:α→β} {l:List α} {a b:List β} {y:β} (h:l.map f=a++y::b):∃ A t B,l=A++t::B∧a=A.map f∧y=f t∧b=B.map f:=by
 obtain ⟨A,C,rfl,h1,h2⟩:=List.map_eq_append_iff.1 h
 obtain ⟨t,B,rfl,h3,h4⟩:=List.map_eq_cons_iff.1 h2
 exact ⟨A,t,B,rfl,h1.symm,h3.symm,h4.symm⟩
theorem mem_mid {α:Type} {l:List α} {x:α} (h:x ∈ l):∃ A B,l=A++x::B:=List.append_of_mem h
def chgOf (x:OpM):ChgM:=if x.kind=2 then ⟨x.key,x.val,false⟩ else ⟨x.key,0,true⟩
theorem chgB_len (c:ChgM):6≤(chgB c).length∧(keyOk c.key=true→(chgB c).length≤22):=by
 simp only [chgB,textB,List.length_append,List.length_cons,List.length_nil,bytesOf_len,numB_len]
 refine ⟨by omega,fun h=>?_⟩
 have:c.key.size≤16:=by
  unfold keyOk at h;simp at h;omega
 omega
theorem chgs_len:∀ (l:List ChgM),6 * l.length≤(l.flatMap chgB).length∧((∀ c ∈ l,chgOk c=true)→(l.flatMap chgB).length≤22 * l.length)
 | []=>⟨by simp,by simp⟩
 | c::l=>by
  have h1:=chgB_len c
  have h2:=chgs_len l
  simp only [List.flatMap_cons,List.length_append,List.length_cons]
  refine ⟨by omega,fun h=>?_⟩
  have h3:=h1.2 (by have:=h c (by simp);unfold chgOk at this;simp at this;exact this.1)
  have h4:=h2.2 fun c hc=>h c (by simp [hc])
  omega
structure Quiet (d:DiskM):Prop where
 ok:d.ok
 len:d.sure.length=4096
 waits:d.waits=[]
theorem Quiet.add {d:DiskM} (h:Quiet d) (i:Nat) (b:List UInt8) (k:Nat):Quiet (addW d i b k).sync:=by
 have h1:=addW_ok k d i b h.ok
 have h2:=addW_len k d i b
 exact ⟨h1.sync,by show (addW d i b k).seen.length=4096;rw [h1.len,h2.1,h.len],rfl⟩
theorem newDisk_quiet:Quiet (newDisk 4096):=⟨newDisk_ok (by decide) (by decide),List.length_replicate,rfl⟩
theorem chgOf_ok {x:OpM} (h:opOk x=true) (hw:writes x=true):chgOk (chgOf x)=true:=by
 unfold opOk at h
 simp only [Bool.and_eq_true] at h
 unfold chgOf
 split <;> simp [chgOk,h.1.1.2]
theorem getF_zero (n:Nat) (h:64≤n):getF (List.replicate n 0)=none:=by
 unfold getF
 rw [if_neg (by simp;omega)]
 have e1:(beN ((List.replicate n (0:UInt8)).take 4)).toNat=0:=by
  rw [List.take_replicate,Nat.min_eq_left (by omega)];rfl
 simp only [e1]
 rw [if_neg (by decide),if_neg (by simp [secs];omega),if_neg]
 rw [List.take_zero,List.take_replicate,show secs 0 * 64=64 from rfl,Nat.min_eq_left h]
 decide
theorem recs_zero (n:Nat) (h:64≤n):recs (List.replicate n 0)=[]:=recs_none (getF_zero n h)
theorem cleanTo_same (all:List UInt8) (d:DiskM) (lo:Nat):∀ k,(∀ j,j < k→(all.drop ((lo+j) * 64)).take 64=List.replicate 64 0)→cleanTo all d lo k=d
 | 0,_=>rfl
 | k+1,h=>by
  rw [cleanTo,if_pos (h k (by omega))]
  exact cleanTo_same all d lo k fun j hj=>h j (by omega)
theorem new_flat (n:Nat):(newDisk n).seen.flatten=List.replicate (n * 64) 0:=by
 show (List.replicate n (List.replicate 64 (0:UInt8))).flatten=_
 rw [List.flatten_replicate_replicate]
theorem new_clean:cleanTo (newDisk 4096).seen.flatten (newDisk 4096) 0 4096=newDisk 4096:=cleanTo_same _ _ _ _ fun j hj=>by
 rw [new_flat,List.drop_replicate,List.take_replicate,Nat.min_eq_left (by omega)]
theorem meet_comm (a b:SpanM):meet a b=meet b a:=by
 rw [Bool.eq_iff_iff,meet_iff,meet_iff]
 exact ⟨fun ⟨k,h1,h2⟩=>⟨k,h2,h1⟩,fun ⟨k,h1,h2⟩=>⟨k,h2,h1⟩⟩
abbrev sv0:SV:=⟨none,0,0⟩
def opPut (k:ByteArray) (v:UInt32):OpM:=⟨2,k,.empty,v⟩
def opGet (k:ByteArray):OpM:=⟨1,k,.empty,0⟩
theorem sEq_empty:sEq .empty ⟨#[]⟩=true:=by rw [sEq_iff];rfl
theorem put_ok (k:ByteArray) (v:UInt32):opOk (opPut k v)=keyOk k:=by simp [opOk,opPut,sEq_empty]
theorem get_ok (k:ByteArray):opOk (opGet k)=keyOk k:=by simp [opOk,opGet,sEq_empty]
theorem span_get (k:ByteArray):spanOf (opGet k)=one k:=rfl
theorem w_put (k:ByteArray) (v:UInt32):writes (opPut k v)=true:=rfl
theorem w_get (k:ByteArray):writes (opGet k)=false:=rfl
def doneO (rows:List RowM) (x:OpM):List RowM × List RowM:=
 if x.kind=1 then (scanR rows (one x.key) 1,rows) else if x.kind=4 then (scanR rows ⟨x.key,x.to⟩ 256,rows) else if x.kind=2 then ([],setR rows x.key x.val) else ([],dropR rows x.key)
def runS (s:List (List RowM) × List RowM) (l:List OpM):List (List RowM) × List RowM:=l.foldl (fun s x=>(s.1++[(doneO s.2 x).1],(doneO s.2 x).2)) s
def runM (rows:List RowM) (l:List OpM):List (List RowM) × List RowM:=runS ([],rows) l
theorem runM_nil (rows:List RowM):runM rows []=([],rows):=rfl
theorem runM_snoc (rows:List RowM) (l:List OpM) (x:OpM):runM rows (l++[x])=((runM rows l).1++[(doneO (runM rows l).2 x).1],(doneO (runM rows l).2 x).2):=by simp [runM,runS]
def KeysOk (l:List RowM):Prop:=∀ r ∈ l,keyOk r.key=true
theorem doneO_rows {rows:List RowM} (h:Rising rows) (x:OpM):Rising (doneO rows x).2∧(doneO rows x).2.length≤rows.length+1:=by
 unfold doneO
 split
 ·exact ⟨h,Nat.le_succ _⟩
 ·split
  ·exact ⟨h,Nat.le_succ _⟩
  ·split
   ·exact ⟨(setR_spec h _ _).1,(setR_spec h _ _).2.2⟩
   ·exact ⟨(dropR_spec h _).1,Nat.le_succ_of_le (dropR_spec h _).2.2⟩
theorem doneO_keys {rows:List RowM} (hr:Rising rows) (h:KeysOk rows) {x:OpM} (hx:opOk x=true):KeysOk (doneO rows x).2:=by
 have hk:keyOk x.key=true:=by unfold opOk at hx;simp only [Bool.and_eq_true] at hx;exact hx.1.1.2
 unfold doneO
 split
 ·exact h
 ·split
  ·exact h
  ·split
   ·intro r hm;rcases ((setR_spec hr _ _).2.1 r).1 hm with rfl | ⟨hm,_⟩
    ·exact hk
    ·exact h r hm
   ·intro r hm;exact h r (((dropR_spec hr _).2.1 r).1 hm).1
theorem runM_take (rows:List RowM) {l:List OpM} {i:Nat} {x:OpM} (hx:l[i]?=some x):runM rows (l.take (i+1))=((runM rows (l.take i)).1++[(doneO (runM rows (l.take i)).2 x).1],(doneO (runM rows (l.take i)).2 x).2):=by rw [take_snoc hx,runM_snoc]
theorem snoc_ind {α:Type} {p:List α→Prop} (h0:p []) (h1:∀ l x,p l→p (l++[x])):∀ l,p l:=fun l=>by
 have:∀ n,p (l.take n):=fun n=>by
  induction n with
  | zero=>simpa using h0
  | succ n ih=>
   rcases Nat.lt_or_ge n l.length with h | h
   ·rw [take_snoc (List.getElem?_eq_getElem h)];exact h1 _ _ ih
   ·rw [List.take_of_length_le (by omega)];rwa [List.take_of_length_le h] at ih
 have h:=this l.length
 rwa [List.take_length] at h
theorem runM_rows {rows:List RowM} (h:Rising rows):∀ l:List OpM,Rising (runM rows l).2∧(runM rows l).2.length≤rows.length+l.length∧(runM rows l).1.length=l.length:=by
 refine snoc_ind ⟨h,by simp [runM_nil],rfl⟩ fun l x ⟨h1,h2,h3⟩=>?_
 rw [runM_snoc]
 have:=doneO_rows h1 x
 exact ⟨this.1,by simp only [List.length_append,List.length_cons,List.length_nil];omega,by simp [h3]⟩
theorem runM_keys {rows:List RowM} (hr:Rising rows) (h:KeysOk rows):∀ l:List OpM,(∀ x ∈ l,opOk x=true)→KeysOk (runM rows l).2:=by
 refine snoc_ind (fun _=>h) fun l x ih hl=>?_
 rw [runM_snoc]
 exact doneO_keys (runM_rows hr l).1 (ih fun y hy=>hl y (by simp [hy])) (hl x (by simp))
theorem setR_app {l:List RowM} {k:ByteArray} {v:UInt32} (h:∀ r ∈ l,sLt r.key k=true):setR l k v=l++[⟨k,v⟩]:=by
 have h1:lowI l k=l.length:=by
  unfold lowI;congr 1
  exact tw_all h
 have h2:hasI l k=false:=by unfold hasI;rw [h1];simp
 unfold setR;rw [if_neg (by simp [h2]),h1];simp
theorem rising_take {l:List RowM} (h:Rising l) {i:Nat} {x:RowM} (hx:l[i]?=some x):∀ r ∈ l.take i,sLt r.key x.key=true:=by
 have hlt:=idx_lt hx
 have e:l=l.take i++x::l.drop (i+1):=by
  rw [List.getElem?_eq_getElem hlt] at hx;cases hx
  rw [List.getElem_cons_drop,List.take_append_drop]
 rw [e] at h
 intro r hr
 exact (List.pairwise_append.1 h).2.2 r hr x (by simp)
theorem scan_one {l:List RowM} (h:Rising l) (k:ByteArray):scanR l (one k) 256=scanR l (one k) 1:=by
 unfold scanR
 have:(l.filter fun r=>inSpan (one k) r.key).length≤1:=by
  have hk:∀ r:RowM,inSpan (one k) r.key=true→r.key=k:=fun r hr=>by
   unfold inSpan one at hr
   rw [sIn_iff] at hr
   rcases sLt_tri r.key k with h | h | h
   ·rw [hr.1] at h;cases h
   ·exact h
   ·rw [hr.2] at h;cases h
  cases e:l.filter fun r=>inSpan (one k) r.key with
  | nil=>simp
  | cons a m=>
   cases m with
   | nil=>simp
   | cons b m=>
    have hs:Rising (a::b::m):=e ▸ h.sublist List.filter_sublist
    have ha:=hk a (List.mem_filter.1 (e ▸ List.mem_cons_self:a ∈ l.filter fun r=>inSpan (one k) r.key)).2
    have hb:=hk b (List.mem_filter.1 (e ▸ (by simp):b ∈ l.filter fun r=>inSpan (one k) r.key)).2
    have:=(List.pairwise_cons.1 hs).1 b (by simp)
    rw [ha,hb,sLt_irrefl] at this;cases this
 rw [List.take_of_length_le (by omega),List.take_of_length_le this]
theorem kinds {x:OpM} (h:opOk x=true):(writes x=true∧(x.kind=2∨x.kind=3))∨(writes x=false∧(x.kind=1∨x.kind=4)):=by
 unfold opOk at h
 simp only [Bool.and_eq_true,decide_eq_true_eq] at h
 have h1:=h.1.1.1.1;have h2:=h.1.1.1.2
 have h3:x.kind=1∨x.kind=2∨x.kind=3∨x.kind=4:=by
  have:x.kind.toNat=1∨x.kind.toNat=2∨x.kind.toNat=3∨x.kind.toNat=4:=by omega
  rcases this with e | e | e | e
  ·exact .inl (UInt8.toNat_inj.1 e)
  ·exact .inr (.inl (UInt8.toNat_inj.1 e))
  ·exact .inr (.inr (.inl (UInt8.toNat_inj.1 e)))
  ·exact .inr (.inr (.inr (UInt8.toNat_inj.1 e)))
 rcases h3 with e | e | e | e <;> simp [writes,e]
theorem done_write {rows:List RowM} {x:OpM} (h:opOk x=true) (hw:writes x=true):doneO rows x=([],applyC rows (chgOf x)):=by
 rcases kinds h with ⟨_,e | e⟩ | ⟨hn,_⟩
 ·simp [doneO,e,chgOf,applyC]
 ·simp [doneO,e,chgOf,applyC]
 ·rw [hw] at hn;cases hn
theorem done_read {rows:List RowM} (hr:Rising rows) {x:OpM} (h:opOk x=true) (hw:writes x=false):doneO rows x=(scanR rows (spanOf x) 256,rows):=by
 rcases kinds h with ⟨hn,_⟩ | ⟨_,e | e⟩
 ·rw [hw] at hn;cases hn
 ·simp only [doneO,e,if_true,spanOf,if_neg (show ¬ (1:UInt8)=4 by decide)]
  rw [show (⟨x.key,x.key⟩:SpanM)=one x.key from rfl,scan_one hr]
 ·simp only [doneO,e,if_neg (show ¬ (4:UInt8)=1 by decide),if_true,spanOf]
structure Does (rows:List RowM) (own:List ChgM) (done:List OpM) (told:List (List RowM)):Prop where
 left:changeR rows own=(runM rows done).2
 told:told=(runM rows done).1
 ok:∀ x ∈ done,opOk x=true
 own_le:own.length≤done.length
theorem Does.nil (rows:List RowM):Does rows [] [] []:=⟨rfl,rfl,by simp,Nat.le_refl _⟩
theorem Does.write {rows:List RowM} {own:List ChgM} {done:List OpM} {told:List (List RowM)} (h:Does rows own done told) {x:OpM} (hx:opOk x=true) (hw:writes x=true):Does rows (own++[chgOf x]) (done++[x]) (told++[[]]):=
 ⟨by rw [changeR_snoc,runM_snoc,h.left,done_write hx hw],by rw [runM_snoc,done_write hx hw,h.told],fun y hy=>by rcases List.mem_append.1 hy with hy | hy;exact h.ok y hy;simp at hy;subst hy;exact hx,by have:=h.own_le;simp;omega⟩
theorem Does.read {rows:List RowM} (hr:Rising rows) {own:List ChgM} {done:List OpM} {told:List (List RowM)} (h:Does rows own done told) {x:OpM} (hx:opOk x=true) (hw:writes x=false):Does rows own (done++[x]) (told++[scanR (changeR rows own) (spanOf x) 256]):=by
 have h1:=(runM_rows hr done).1
 exact ⟨by rw [runM_snoc,done_read h1 hx hw,h.left],by rw [runM_snoc,done_read h1 hx hw,h.told,h.left],fun y hy=>by rcases List.mem_append.1 hy with hy | hy;exact h.ok y hy;simp at hy;subst hy;exact hx,by have:=h.own_le;simp;omega⟩
theorem changeR_keys {rows:List RowM} (hr:Rising rows) (h:KeysOk rows) {cs:List ChgM} (hc:∀ c ∈ cs,chgOk c=true):KeysOk (changeR rows cs):=by
 revert hc
 refine snoc_ind (p:=fun cs=>(∀ c ∈ cs,chgOk c=true)→KeysOk (changeR rows cs)) (fun _=>h) (fun cs c ih hc=>?_) cs
 rw [changeR_snoc]
 intro r hm
 rcases (mem_applyC (changeR_rising cs hr).1 c r).1 hm with ⟨_,rfl⟩ | ⟨hm,_⟩
 ·have:=hc c (by simp);unfold chgOk at this;simp at this;exact this.1
 ·exact ih (fun c hc'=>hc c (by simp [hc'])) r hm
theorem key_of {x:OpM} (h:opOk x=true):keyOk x.key=true:=by unfold opOk at h;simp only [Bool.and_eq_true] at h;exact h.1.1.2
theorem mem_change {r:RowM}:∀ (cs:List ChgM) {V V':List RowM},Rising V→Rising V'→(r ∈ V↔r ∈ V')→(r ∈ changeR V cs↔r ∈ changeR V' cs)
 | [],_,_,_,_,h=>h
 | c::cs,V,V',h1,h2,h=>by
  refine mem_change cs (applyC_rising h1 c).1 (applyC_rising h2 c).1 ?_
  rw [mem_applyC h1,mem_applyC h2,h]
theorem mem_change_skip {r:RowM} (cs:List ChgM) {V:List RowM} (h:Rising V) (hk:∀ c ∈ cs,c.key≠r.key):r ∈ changeR V cs↔r ∈ V:=by
 induction cs generalizing V with
 | nil=>exact Iff.rfl
 | cons c cs ih=>
  show r ∈ changeR (applyC V c) cs↔_
  rw [ih (applyC_rising h c).1 (fun c' hc'=>hk c' (by simp [hc'])),mem_applyC h]
  have:=hk c (by simp)
  constructor
  ·rintro (⟨_,e⟩ | ⟨h,_⟩)
   ·subst e;exact absurd rfl this
   ·exact h
  ·intro h;exact .inr ⟨h,fun e=>this e.symm⟩
theorem scan_agree {V V':List RowM} (h:Rising V) (h':Rising V') (p:SpanM) (n:Nat) (hm:∀ r:RowM,inSpan p r.key=true→(r ∈ V↔r ∈ V')):scanR V p n=scanR V' p n:=by
 unfold scanR
 congr 1
 refine rising_ext (h.sublist List.filter_sublist) (h'.sublist List.filter_sublist) fun r=>?_
 rw [List.mem_filter,List.mem_filter]
 constructor
 ·rintro ⟨h1,h2⟩;exact ⟨(hm r h2).1 h1,h2⟩
 ·rintro ⟨h1,h2⟩;exact ⟨(hm r h2).2 h1,h2⟩
def chs (ops:List OpM):List ChgM:=(ops.filter writes).map chgOf
theorem chs_snoc_w (ops:List OpM) {x:OpM} (h:writes x=true):chs (ops++[x])=chs ops++[chgOf x]:=by simp [chs,h]
theorem chs_snoc_r (ops:List OpM) {x:OpM} (h:writes x=false):chs (ops++[x])=chs ops:=by simp [chs,h]
theorem run_left {V:List RowM} (hV:Rising V):∀ ops:List OpM,(∀ x ∈ ops,opOk x=true)→(runM V ops).2=changeR V (chs ops):=by
 refine snoc_ind (fun _=>rfl) fun l x ih h=>?_
 have hx:=h x (by simp)
 rw [runM_snoc,ih fun y hy=>h y (by simp [hy])]
 cases hw:writes x with
 | true=>rw [done_write hx hw,chs_snoc_w l hw,changeR_snoc]
 | false=>rw [done_read (changeR_rising _ hV).1 hx hw,chs_snoc_r l hw]
theorem run_agree {V V':List RowM} (h:Rising V) (h':Rising V'):∀ ops:List OpM,(∀ x ∈ ops,opOk x=true)→(∀ x ∈ ops,writes x=false→∀ r:RowM,inSpan (spanOf x) r.key=true→(r ∈ V↔r ∈ V'))→(runM V ops).1=(runM V' ops).1:=by
 refine snoc_ind (fun _ _=>rfl) fun l x ih hok hm=>?_
 have hx:=hok x (by simp)
 have hl:∀ y ∈ l,opOk y=true:=fun y hy=>hok y (by simp [hy])
 rw [runM_snoc,runM_snoc]
 show (runM V l).1++[(doneO (runM V l).2 x).1]=(runM V' l).1++[(doneO (runM V' l).2 x).1]
 rw [ih hl fun y hy=>hm y (by simp [hy])]
 suffices e:(doneO (runM V l).2 x).1=(doneO (runM V' l).2 x).1 by rw [e]
 rw [run_left h l hl,run_left h' l hl]
 cases hw:writes x with
 | true=>rw [done_write hx hw,done_write hx hw]
 | false=>
  rw [done_read (changeR_rising _ h).1 hx hw,done_read (changeR_rising _ h').1 hx hw]
  exact scan_agree (changeR_rising _ h).1 (changeR_rising _ h').1 _ _ fun r hr=>mem_change _ h h' (hm x (by simp) hw r hr)
abbrev Og:=UInt32→List OpM × List (List RowM)
def setO (o:Og) (n:UInt32) (v:List OpM × List (List RowM)):Og:=fun m=>if m=n then v else o m
theorem setO_same (o:Og) (n:UInt32) (v:List OpM × List (List RowM)):setO o n v n=v:=by simp [setO]
theorem setO_other (o:Og) {n m:UInt32} (v:List OpM × List (List RowM)) (h:m≠n):setO o n v m=o m:=by simp [setO,h]
structure DidV where
 id:UInt32
 p:Nat
 num:UInt32
 os:SV
 ops:List OpM
 ls:SV
 l:List (SV × List RowM)
structure ActM where
 kind:UInt8
 tx:UInt32
 op:OpM
 keep:Int
 torn:Int
def ActM.c (x:ActM):List Value:=[.int .u8 x.kind.toNat,.int .u32 x.tx.toNat,.int .u8 x.op.kind.toNat,.string x.op.key,.string x.op.to,.int .u32 x.op.val.toNat,.int .u64 x.keep,.int .i64 x.torn]
section
variable {κ : Type} [DecidableEq κ]
theorem mset_cons (p:κ × Value) (kvs:List (κ × Value)) (k:κ) (v:Value):mset (p::kvs) k v=if p.1=k then (k,v)::kvs else p::mset kvs k v:=by
 unfold mset midx
 rw [List.findIdx?_cons]
 by_cases h:p.1=k
 ·simp [h]
 ·simp only [h,decide_false]
  cases List.findIdx? (fun p:κ × Value=>decide (p.1=k)) kvs <;> simp
theorem mget_mset (kvs:List (κ × Value)) (k n:κ) (v:Value):mget (mset kvs k v) n=if n=k then some v else mget kvs n:=by
 induction kvs with
 | nil=>unfold mset midx mget;by_cases h:k=n <;> simp [h,eq_comm]
 | cons p kvs ih=>
  rw [mset_cons]
  by_cases h:p.1=k
  ·rw [if_pos h]
   unfold mget
   rw [List.find?_cons,List.find?_cons]
   by_cases h2:n=k
   ·subst h2;simp
   ·have h3:k≠n:=fun e=>h2 e.symm
    simp [h,h2,h3]
  ·rw [if_neg h]
   unfold mget at ih ⊢
   rw [List.find?_cons,List.find?_cons]
   by_cases h4:p.1=n
   ·have h2:n≠k:=fun e=>h (h4.trans e)
    simp [h4,h2]
   ·simp only [h4,decide_false];exact ih
end
def findD (F:List DidV) (n:UInt32):Option DidV:=F.find? fun d=>decide (d.id=n)
def delD (F:List DidV) (n:UInt32):List DidV:=F.filter fun d=>!decide (d.id=n)
theorem findD_cons (d:DidV) (F:List DidV) (m:UInt32):findD (d::F) m=if d.id=m then some d else findD F m:=by
 unfold findD;rw [List.find?_cons]
 by_cases h:d.id=m <;> simp [h]
theorem findD_del (F:List DidV) (n m:UInt32):findD (delD F n) m=if m=n then none else findD F m:=by
 induction F with
 | nil=>simp [findD,delD]
 | cons d F ih=>
  unfold delD at ih ⊢
  rw [List.filter_cons]
  by_cases h:d.id=n
  ·simp only [h,decide_true,Bool.not_true,Bool.false_eq_true,if_false]
   rw [ih,findD_cons]
   by_cases h2:m=n
   ·simp [h2]
   ·have:d.id≠m:=fun e=>h2 (e.symm.trans h)
    simp [h2,this]
  ·simp only [h,decide_false,Bool.not_false,if_true]
   rw [findD_cons,findD_cons,ih]
   by_cases h2:d.id=m
   ·have:m≠n:=fun e=>h (h2.trans e)
    simp [h2,this]
   ·simp [h2]
theorem findD_id {F:List DidV} {n:UInt32} {d:DidV} (h:findD F n=some d):d ∈ F∧d.id=n:=by
 unfold findD at h
 exact ⟨List.mem_of_find?_eq_some h,by have:=List.find?_some h;simpa using this⟩
theorem delD_mem {F:List DidV} {n:UInt32} {d:DidV} (h:d ∈ delD F n):d ∈ F:=(List.mem_filter.1 h).1
def OpenOk (kvs:List (UInt32 × Value)) (F:List DidV):Prop:=∀ n,(mget kvs n).getD (.pointer none)=.pointer ((findD F n).map fun d=>⟨d.p,0,none⟩)
theorem OpenOk.nil {kvs:List (UInt32 × Value)} {F:List DidV} (h:OpenOk kvs F) (n:UInt32):OpenOk (mset kvs n (.pointer none)) (delD F n):=fun m=>by
 rw [mget_mset,findD_del]
 by_cases e:m=n
 ·simp [e]
 ·rw [if_neg e,if_neg e];exact h m
theorem OpenOk.new {kvs:List (UInt32 × Value)} {F:List DidV} (h:OpenOk kvs F) (d:DidV):OpenOk (mset kvs d.id (.pointer (some ⟨d.p,0,none⟩))) (d::delD F d.id):=fun m=>by
 rw [mget_mset,findD_cons,findD_del]
 by_cases e:m=d.id
 ·simp [e]
 ·rw [if_neg e,if_neg e,if_neg (fun e2=>e e2.symm)];exact h m
theorem OpenOk.upd {kvs:List (UInt32 × Value)} {F:List DidV} (h:OpenOk kvs F) {n:UInt32} {d d':DidV} (hf:findD F n=some d) (hi:d'.id=n) (hp:d'.p=d.p):OpenOk kvs (d'::delD F n):=fun m=>by
 rw [findD_cons,findD_del,hi]
 by_cases e:n=m
 ·subst e;rw [if_pos rfl,h,hf];simp [hp]
 ·rw [if_neg e,if_neg (fun e2=>e e2.symm)];exact h m
def ogD (F:List DidV):Og:=fun n=>match findD F n with
 | some d=>(d.ops,d.l.map (·.2))
 | none=>([],[])
theorem ogD_some {F:List DidV} {n:UInt32} {d:DidV} (h:findD F n=some d):ogD F n=(d.ops,d.l.map (·.2)):=by unfold ogD;rw [h]
theorem ogD_set (F:List DidV) {n:UInt32} {d:DidV} (h:d.id=n):ogD (d::delD F n)=setO (ogD F) n (d.ops,d.l.map (·.2)):=by
 funext m
 unfold setO ogD
 rw [findD_cons,findD_del,h]
 by_cases e:n=m
 ·simp [e]
 ·have:m≠n:=fun e2=>e e2.symm
  simp [e,this]
theorem be_step (m:UInt32) (c:UInt8) (h:m.toNat < 16777216):((m <<< 8) ||| c.toUInt32).toNat=m.toNat * 256+c.toNat:=by
 have hc:=c.toNat_lt
 have e1:(m <<< 8).toNat=m.toNat <<< 8:=by
  rw [UInt32.toNat_shiftLeft,Nat.mod_eq_of_lt]
  ·rfl
  ·show m.toNat <<< 8 < _
   rw [Nat.shiftLeft_eq];omega
 rw [UInt32.toNat_or,e1,UInt8.toNat_toUInt32,← Nat.shiftLeft_add_eq_or_of_lt (by omega),Nat.shiftLeft_eq]
theorem beN_one (c:UInt8):(beN [c]).toNat=c.toNat:=by
 have:=be_step 0 c (by decide)
 simp [beN]
theorem beN_snoc (l:List UInt8) (c:UInt8):beN (l++[c])=(beN l <<< 8) ||| c.toUInt32:=by simp [beN]
theorem beN_two (a b:UInt8):(beN [a,b]).toNat=a.toNat * 256+b.toNat:=by
 rw [show [a,b]=[a]++[b] from rfl,beN_snoc,be_step _ _ (by rw [beN_one];have:=a.toNat_lt;omega),beN_one]
theorem beN_three (a b c:UInt8):(beN [a,b,c]).toNat=(a.toNat * 256+b.toNat) * 256+c.toNat:=by
 have:=a.toNat_lt;have:=b.toNat_lt
 rw [show [a,b,c]=[a,b]++[c] from rfl,beN_snoc,be_step _ _ (by rw [beN_two];omega),beN_two]
theorem beN_four (a b c d:UInt8):(beN [a,b,c,d]).toNat=((a.toNat * 256+b.toNat) * 256+c.toNat) * 256+d.toNat:=by
 have:=a.toNat_lt;have:=b.toNat_lt;have:=c.toNat_lt
 rw [show [a,b,c,d]=[a,b,c]++[d] from rfl,beN_snoc,be_step _ _ (by rw [beN_three];omega),beN_three]
theorem beN_num4 (n:UInt32):beN (numB n 4)=n:=by
 apply UInt32.toNat_inj.1
 have:=n.toNat_lt
 show (beN [_,_,_,_]).toNat=_
 rw [beN_four,UInt8.toNat_ofNat',UInt8.toNat_ofNat',UInt8.toNat_ofNat',UInt8.toNat_ofNat']
 simp only [Nat.reduceMul,Nat.reducePow,Nat.pow_zero,Nat.div_one]
 omega
abbrev RecG:=UInt32 × List ChgM
def recB (y:RecG):List UInt8:=numB y.1 4++chgsB y.2
def recOk (y:RecG):Prop:=y.2.length≤4096∧∀ c ∈ y.2,chgOk c=true
section
variable {P : Program} {g : World} {Γ : Env} {L : List HP}
theorem e_max32 {dst:Option Tmp} {t:TypeId} {pos:String} {aft:Array Edge} {gd:Option (Nat × Bool)} {x y:Operand} {T U:TypeId} {a b:UInt32} (hx:ev Γ x=some (.int .u32 a.toNat):=by rfl) (hy:ev Γ y=some (.int .u32 b.toNat):=by rfl):EO P g ⟨dst,.call ⟨.builtin .max,#[x,y],#[T,U]⟩,t,pos,aft,gd⟩ Γ L (.int .u32 (if a < b then b else a).toNat):=by
 have h:=e_maxI (P:=P) (g:=g) (L:=L) (dst:=dst) (t:=t) (pos:=pos) (aft:=aft) (gd:=gd) (T:=T) (U:=U) hx hy
 have e:(if (a.toNat:Int) < b.toNat then (b.toNat:Int) else a.toNat)=((if a < b then b else a).toNat:Nat):=by
  by_cases h:a < b
  ·rw [if_pos h,if_pos (by have:=UInt32.lt_iff_toNat_lt.1 h;omega)]
  ·rw [if_neg h,if_neg (by intro h';exact h (UInt32.lt_iff_toNat_lt.2 (by omega)))]
 rw [← e];exact h
end
section
variable {P : Program} {g : World} {Γ : Env} {L : List HP} {dst : Option Tmp} {t : TypeId} {pos : String} {aft : Array Edge} {gd : Option (Nat × Bool)}
theorem e_idxS {x i:Operand} {T:TypeId} {s:ByteArray} {k:IntKind} {b:UInt8} {n:Nat} (ht:P.underlying T=some .string) (hi:ev Γ i=some (.int k n):=by rfl) (hx:ev Γ x=some (.string s):=by rfl) (hb:s[n]?=some b:=by rfl):EO P g ⟨dst,.index T x i,t,pos,aft,gd⟩ Γ L (.int .u8 b.toNat):=
 .of (by simp) fun ρ hρ w hw=>by
  simp [execOp,hρ x _ (by simp [Op.operands]) hx,hρ i _ (by simp [Op.operands]) hi,Instr.index,asIntOf,run_underlying ht,hb]
end
theorem getF_frame {r:List UInt8} (h:r.length≤16384) (rest:List UInt8):getF (frame r++rest)=some (r,secs r.length):=by
 have hs:=secs_le r.length
 have hl:=frame_len r
 have hn:(UInt32.ofNat r.length).toNat=r.length:=by rw [UInt32.toNat_ofNat'];exact Nat.mod_eq_of_lt (by omega)
 have e4:(frame r++rest).take 4=numB (UInt32.ofNat r.length) 4:=by
  unfold frame
  rw [List.append_assoc,List.append_assoc,List.append_assoc]
  exact List.take_left' (numB_len _ _)
 have e8:(frame r++rest).drop 8=r++(List.replicate (secs r.length * 64 - 8 - r.length) 0++rest):=by
  unfold frame
  rw [List.append_assoc,List.append_assoc]
  exact List.drop_left' (by simp [numB_len])
 have er:((frame r++rest).drop 8).take r.length=r:=by rw [e8];exact List.take_left' rfl
 have ef:(frame r++rest).take (secs r.length * 64)=frame r:=List.take_left' hl
 unfold getF
 rw [if_neg (by rw [List.length_append,hl];omega)]
 simp only [e4,beN_num4,hn,er,ef]
 rw [if_neg (by omega),if_neg (by rw [List.length_append,hl];omega),if_pos trivial]
theorem recs_frames:∀ (ys:List RecG) (rest:List UInt8),(∀ y ∈ ys,(recB y).length≤16384)→recs rest=[]→recs ((ys.flatMap fun y=>frame (recB y))++rest)=ys.map fun y=>(recB y,secs (recB y).length)
 | [],rest,_,h=>by simpa using h
 | y::ys,rest,hy,h=>by
  have ih:=recs_frames ys rest (fun z hz=>hy z (by simp [hz])) h
  rw [List.flatMap_cons,List.append_assoc,recs_some (getF_frame (hy y (by simp)) _),List.drop_left' (frame_len _),ih]
  rfl
theorem flat_take64:∀ (l:List (List UInt8)) (i:Nat),(∀ p ∈ l,p.length=64)→(l.take i).flatten=l.flatten.take (i * 64)
 | l,0,_=>by simp
 | [],i+1,_=>by simp
 | p::l,i+1,h=>by
  have hp:=h p (by simp)
  rw [List.take_succ_cons,List.flatten_cons,List.flatten_cons,flat_take64 l i (fun q hq=>h q (by simp [hq])),List.take_append,hp,show (i+1) * 64 - 64=i * 64 by omega,List.take_of_length_le (l:=p) (by omega)]
theorem flat_drop64:∀ (l:List (List UInt8)) (i:Nat),(∀ p ∈ l,p.length=64)→(l.drop i).flatten=l.flatten.drop (i * 64)
 | l,0,_=>by simp
 | [],i+1,_=>by simp
 | p::l,i+1,h=>by
  have hp:=h p (by simp)
  rw [List.drop_succ_cons,List.flatten_cons,flat_drop64 l i (fun q hq=>h q (by simp [hq])),List.drop_append,hp,show (i+1) * 64 - 64=i * 64 by omega,List.drop_of_length_le (l:=p) (by omega),List.nil_append]
theorem addW_flat:∀ (k:Nat) (d:DiskM) (i:Nat) (b:List UInt8),b.length=k * 64→i+k≤d.seen.length→(addW d i b k).seen.flatten=(d.seen.take i).flatten++b++(d.seen.drop (i+k)).flatten∧(addW d i b k).seen.length=d.seen.length
 | 0,d,i,b,hb,hi=>by
  have:b=[]:=by simpa using hb
  subst this
  refine ⟨?_,rfl⟩
  show d.seen.flatten=_
  rw [List.append_nil,← List.flatten_append,Nat.add_zero,List.take_append_drop]
 | k+1,d,i,b,hb,hi=>by
  have h1:(b.take 64).length=64:=by simp;omega
  have hw:(d.write i (b.take 64)).seen=d.seen.set i (b.take 64):=by simp [DiskM.write,pad_id h1]
  obtain ⟨e1,e2⟩:=addW_flat k (d.write i (b.take 64)) (i+1) (b.drop 64) (by simp;omega) (by rw [hw,List.length_set];omega)
  rw [hw] at e1 e2
  refine ⟨?_,by rw [addW,e2,List.length_set]⟩
  rw [addW,e1,List.drop_set_of_lt (by omega),show i+1+k=i+(k+1) by omega]
  congr 1
  have e3:(d.seen.set i (b.take 64)).take (i+1)=d.seen.take i++[b.take 64]:=by
   rw [take_snoc (List.getElem?_set_self (by omega)),List.take_set_of_le (Nat.le_refl i)]
  rw [e3,List.flatten_append,List.append_assoc]
  congr 1
  simp
theorem recs_zeros (n:Nat):recs (List.replicate (n * 64) 0)=[]:=by
 cases n with
 | zero=>rfl
 | succ n=>exact recs_zero _ (by omega)
structure DiskLog (d:DiskM) (at0:Nat) (ys:List RecG):Prop where
 ok:d.ok
 waits:d.waits=[]
 same:d.sure=d.seen
 len:d.sure.length=4096
 flat:d.seen.flatten=(ys.flatMap fun y=>frame (recB y))++List.replicate ((4096 - at0) * 64) 0
 hat:(ys.map fun y=>secs (recB y).length).sum=at0
 le:at0≤4096
 yok:∀ y ∈ ys,recOk y∧(recB y).length≤16384
theorem frames_len:∀ (ys:List RecG),(ys.flatMap fun y=>frame (recB y)).length=(ys.map fun y=>secs (recB y).length).sum * 64
 | []=>rfl
 | y::ys=>by rw [List.flatMap_cons,List.length_append,frames_len ys,frame_len];simp;omega
theorem clean_id (all:List UInt8) (d:DiskM) (lo:Nat):∀ k,(∀ j,j < k→(all.drop ((lo+j) * 64)).take 64=List.replicate 64 0)→cleanTo all d lo k=d
 | 0,_=>rfl
 | k+1,h=>by rw [cleanTo,if_pos (h k (by omega))];exact clean_id all d lo k fun j hj=>h j (by omega)
theorem DiskLog.recs {d:DiskM} {at0:Nat} {ys:List RecG} (h:DiskLog d at0 ys):(SL.recs d.seen.flatten).map (·.1)=ys.map recB∧((SL.recs d.seen.flatten).map (·.2)).sum=at0∧cleanTo d.seen.flatten d at0 (d.sure.length - at0)=d:=by
 have hr:SL.recs d.seen.flatten=ys.map fun y=>(recB y,secs (recB y).length):=by
  rw [h.flat]
  exact recs_frames ys _ (fun y hy=>(h.yok y hy).2) (recs_zeros _)
 refine ⟨by rw [hr];simp,by rw [hr,← h.hat];simp [Function.comp_def],clean_id _ _ _ _ fun j hj=>?_⟩
 have hl:=h.len
 rw [h.flat,List.drop_append,frames_len,h.hat,List.drop_of_length_le (by rw [frames_len,h.hat];omega),List.nil_append,List.drop_replicate,List.take_replicate]
 congr 1
 omega
theorem DiskLog.sync {d:DiskM} {at0:Nat} {ys:List RecG} (h:DiskLog d at0 ys):d.sync=d:=by
 have h1:=h.same;have h2:=h.waits
 cases d;simp only [DiskM.sync] at h1 h2 ⊢;subst h1 h2;rfl
theorem DiskLog.first:DiskLog (newDisk 4096).sync 0 []:=
 ⟨newDisk_quiet.ok.sync,rfl,rfl,List.length_replicate,by show (newDisk 4096).seen.flatten=_;rw [new_flat];rfl,rfl,Nat.zero_le _,by simp⟩
theorem DiskLog.add {d:DiskM} {at0:Nat} {ys:List RecG} (h:DiskLog d at0 ys) {y:RecG} (hy:recOk y) (hl:(recB y).length≤16384) (hfit:at0+secs (recB y).length≤d.sure.length):DiskLog (addW d at0 (frame (recB y)) (secs (recB y).length)).sync (at0+secs (recB y).length) (ys++[y]):=by
 have hlen:=h.len
 have hsl:=h.ok.len
 obtain ⟨e1,e2⟩:=addW_flat (secs (recB y).length) d at0 (frame (recB y)) (frame_len _) (by omega)
 have hfr:(ys.flatMap fun y=>frame (recB y)).length=at0 * 64:=by rw [frames_len,h.hat]
 refine ⟨(addW_ok _ _ _ _ h.ok).sync,rfl,rfl,by show (addW _ _ _ _).seen.length=_;rw [e2];omega,?_,by rw [List.map_append,List.sum_append,h.hat];simp,by omega,fun z hz=>?_⟩
 ·show (addW _ _ _ _).seen.flatten=_
  rw [e1,flat_take64 _ _ h.ok.l2,flat_drop64 _ _ h.ok.l2,h.flat,List.take_left' hfr,List.drop_append,List.drop_of_length_le (by rw [hfr];omega),List.nil_append,hfr,List.drop_replicate,List.flatMap_append]
  simp only [List.flatMap_cons,List.flatMap_nil,List.append_nil]
  congr 2
  omega
 ·rcases List.mem_append.1 hz with hz | hz
  ·exact h.yok z hz
  ·simp at hz;subst hz;exact ⟨hy,hl⟩
end Go.SL
namespace Go.SL
open Go
theorem recs_framesB:∀ (ys:List (List UInt8)) (rest:List UInt8),(∀ y ∈ ys,(y).length≤16384)→recs rest=[]→recs ((ys.flatMap frame)++rest)=ys.map fun y=>(y,secs (y).length)
  | [],rest,_,h=>by simpa using h
  | y::ys,rest,hy,h=>by
    have ih:=recs_framesB ys rest (fun z hz=>hy z (by simp [hz])) h
    rw [List.flatMap_cons,List.append_assoc,recs_some (getF_frame (hy y (by simp)) _),List.drop_left' (frame_len _),ih]
    rfl
structure DiskLogB (d:DiskM) (at0:Nat) (ys:List (List UInt8)):Prop where
  ok:d.ok
  waits:d.waits=[]
  same:d.sure=d.seen
  len:d.sure.length=4096
  flat:d.seen.flatten=(ys.flatMap frame)++List.replicate ((4096 - at0) * 64) 0
  hat:(ys.map fun y=>secs (y).length).sum=at0
  le:at0≤4096
  yok:∀ y ∈ ys,(y).length≤16384
theorem frames_lenB:∀ (ys:List (List UInt8)),(ys.flatMap frame).length=(ys.map fun y=>secs (y).length).sum * 64
  | []=>rfl
  | y::ys=>by rw [List.flatMap_cons,List.length_append,frames_lenB ys,frame_len];simp;omega
theorem DiskLogB.recs {d:DiskM} {at0:Nat} {ys:List (List UInt8)} (h:DiskLogB d at0 ys):(SL.recs d.seen.flatten).map (·.1)=ys∧((SL.recs d.seen.flatten).map (·.2)).sum=at0∧cleanTo d.seen.flatten d at0 (d.sure.length - at0)=d:=by
  have hr:SL.recs d.seen.flatten=ys.map fun y=>(y,secs (y).length):=by
    rw [h.flat]
    exact recs_framesB ys _ (fun y hy=>h.yok y hy) (recs_zeros _)
  refine ⟨by rw [hr,List.map_map];exact List.map_id' ys,by rw [hr,← h.hat];simp [Function.comp_def],clean_id _ _ _ _ fun j hj=>?_⟩
  have hl:=h.len
  rw [h.flat,List.drop_append,frames_lenB,h.hat,List.drop_of_length_le (by rw [frames_lenB,h.hat];omega),List.nil_append,List.drop_replicate,List.take_replicate]
  congr 1
  omega
theorem DiskLogB.sync {d:DiskM} {at0:Nat} {ys:List (List UInt8)} (h:DiskLogB d at0 ys):d.sync=d:=by
  have h1:=h.same;have h2:=h.waits
  cases d;simp only [DiskM.sync] at h1 h2 ⊢;subst h1 h2;rfl
theorem DiskLogB.first:DiskLogB (newDisk 4096).sync 0 []:=
  ⟨newDisk_quiet.ok.sync,rfl,rfl,List.length_replicate,by show (newDisk 4096).seen.flatten=_;rw [new_flat];rfl,rfl,Nat.zero_le _,by simp⟩
theorem DiskLogB.add {d:DiskM} {at0:Nat} {ys:List (List UInt8)} (h:DiskLogB d at0 ys) {y:List UInt8} (hl:(y).length≤16384) (hfit:at0+secs (y).length≤d.sure.length):DiskLogB (addW d at0 (frame (y)) (secs (y).length)).sync (at0+secs (y).length) (ys++[y]):=by
  have hlen:=h.len
  have hsl:=h.ok.len
  obtain ⟨e1,e2⟩:=addW_flat (secs (y).length) d at0 (frame (y)) (frame_len _) (by omega)
  have hfr:(ys.flatMap frame).length=at0 * 64:=by rw [frames_lenB,h.hat]
  refine ⟨(addW_ok _ _ _ _ h.ok).sync,rfl,rfl,by show (addW _ _ _ _).seen.length=_;rw [e2];omega,?_,by rw [List.map_append,List.sum_append,h.hat];simp,by omega,fun z hz=>?_⟩
  · show (addW _ _ _ _).seen.flatten=_
    rw [e1,flat_take64 _ _ h.ok.l2,flat_drop64 _ _ h.ok.l2,h.flat,List.take_left' hfr,List.drop_append,List.drop_of_length_le (by rw [hfr];omega),List.nil_append,hfr,List.drop_replicate,List.flatMap_append]
    simp only [List.flatMap_cons,List.flatMap_nil,List.append_nil]
    congr 2
    omega
  · rcases List.mem_append.1 hz with hz | hz
    · exact h.yok z hz
    · simp at hz;subst hz;exact hl
end Go.SL
namespace Go.SL
open Go
structure TX where
  at_:UInt32
  looked:List SpanM
  own:List ChgM
  waits:List UInt32
structure LockM where
  s:SpanM
  alone:Bool
abbrev TxT:=TxU UInt32 TX
structure StV where
  d:DiskM
  at_:Nat
  H:List (List ChgM)
  trim:UInt32
  locks:List (UInt32 × List LockM)
  txs:List TxT
inductive DoS
  | err (s:StV) (e:Nat)
  | put (s:StV)
  | look (s:StV) (rows:List RowM)
def StV.rows (s:StV):List RowM:=rowsN s.H s.H.length
theorem StV.rising (s:StV):Rising s.rows:=rowsN_rising _ _
theorem rowsN_all (H:List (List ChgM)):rowsN H H.length=changeR [] H.flatten:=by unfold rowsN;rw [List.take_length]
structure StOk (s:StV) (b:Nat):Prop where
  log:DiskLogB s.d s.at_ (s.H.map chgsB)
  recs:∀ cs ∈ s.H,cs.length≤4096∧∀ c ∈ cs,chgOk c=true
  sum:s.H.flatten.length+(s.txs.map fun t=>t.x.own.length).sum≤b
  hl:s.H.length≤b
  ids:(s.txs.map (·.id)).Nodup
  own:∀ t ∈ s.txs,∀ c ∈ t.x.own,chgOk c=true
  lks:∀ t ∈ s.txs,t.x.looked.length≤b
  tl:s.txs.length≤32
  bb:b≤1000000000
theorem StOk.mono {s:StV} {b c:Nat} (h:StOk s b) (hb:b≤c) (hc:c≤1000000000):StOk s c:=
  ⟨h.log,h.recs,Nat.le_trans h.sum hb,Nat.le_trans h.hl hb,h.ids,h.own,fun t ht=>Nat.le_trans (h.lks t ht) hb,h.tl,hc⟩
theorem own_sum {ts:List TxT} {t:TxT} (ht:t ∈ ts):t.x.own.length≤(ts.map fun t=>t.x.own.length).sum:=by
  obtain ⟨A,B,rfl⟩:=List.append_of_mem ht
  simp;omega
theorem StOk.own_le {s:StV} {b:Nat} (h:StOk s b) {t:TxT} (ht:t ∈ s.txs):s.H.flatten.length+t.x.own.length≤b:=by
  have:=own_sum ht;have:=h.sum;omega
theorem StOk.rows_le {s:StV} {b:Nat} (h:StOk s b):s.rows.length≤b:=by
  have:=rowsN_len s.H s.H.length;have:=h.sum;unfold StV.rows;omega
theorem sum_subU {a b:List TxT} (h:a.Sublist b):(a.map fun t=>t.x.own.length).sum≤(b.map fun t=>t.x.own.length).sum:=by
  induction h with
  | slnil=>simp
  | cons x _ ih=>simp;omega
  | cons_cons x _ ih=>simp;omega
def begE (s:StV) (n:UInt32):Nat:=if n=0 then 1 else if (findU s.txs n).isSome then 7 else if 32≤s.txs.length then 5 else 0
def begT (s:StV) (n:UInt32) (q:Nat):TxT:=⟨n,q,⟨UInt32.ofNat s.H.length,[],[],[]⟩⟩
def begS (s:StV) (n:UInt32) (q:Nat):StV:=if begE s n=0 then { s with txs:=s.txs++[begT s n q] } else s
theorem begE_zero {s:StV} {n:UInt32} (h:begE s n=0):n≠0∧findU s.txs n=none:=by
  unfold begE at h
  split at h
  · cases h
  · rename_i h0
    cases e:findU s.txs n with
    | none=>exact ⟨h0,rfl⟩
    | some t=>rw [e] at h;simp at h
theorem StOk.beg {s:StV} {b:Nat} (h:StOk s b) (n:UInt32) (q:Nat):StOk (begS s n q) b:=by
  unfold begS
  split
  · rename_i hE
    have hf:=(begE_zero hE).2
    refine ⟨h.log,h.recs,?_,h.hl,?_,?_,?_,?_,h.bb⟩
    · have:=h.sum;simpa [begT] using this
    · simp only [List.map_append,List.map_cons,List.map_nil]
      refine List.nodup_append.2 ⟨h.ids,by simp,?_⟩
      intro a ha c hc e
      simp at hc;subst hc;subst e
      exact findU_none hf ha
    · intro t ht
      rcases List.mem_append.1 ht with ht | ht
      · exact h.own t ht
      · simp at ht;subst ht;simp [begT]
    · intro t ht
      rcases List.mem_append.1 ht with ht | ht
      · exact h.lks t ht
      · simp at ht;subst ht;simp [begT]
    · unfold begE at hE
      split at hE
      · cases hE
      · split at hE
        · cases hE
        · split at hE
          · cases hE
          · simp;omega
  · exact h
theorem StOk.sub {s s':StV} {b:Nat} (h:StOk s b) (hd:s'.d=s.d) (ha:s'.at_=s.at_) (hH:s'.H=s.H) (ht:s'.txs.Sublist s.txs):StOk s' b:=
  ⟨by rw [hd,ha,hH];exact h.log,by rw [hH];exact h.recs,by rw [hH];have:=sum_subU ht;have:=h.sum;omega,by rw [hH];exact h.hl,h.ids.sublist (ht.map _),fun t htt=>h.own t (ht.mem htt),fun t htt=>h.lks t (ht.mem htt),Nat.le_trans ht.length_le h.tl,h.bb⟩
def fitsS (s:StV) (t:TX):Prop:=(chgsB t.own).length≤16384∧s.at_+secs (chgsB t.own).length≤s.d.sure.length
instance (s:StV) (t:TX):Decidable (fitsS s t):=by unfold fitsS;infer_instance
theorem chgsB_len (l:List ChgM):(chgsB l).length=2+(l.flatMap chgB).length:=by simp only [chgsB,List.length_append,numB_len]
theorem not_fitsS {s:StV} {t:TX} (h:¬ t.own.length≤4096):¬ fitsS s t:=fun hf=>by
  have h1:=hf.1
  rw [chgsB_len] at h1
  have:=(chgs_len t.own).1
  omega
def addS (e:StV) (own:List ChgM):StV:={ e with d:=(addW e.d e.at_ (frame (chgsB own)) (secs (chgsB own).length)).sync,at_:=e.at_+secs (chgsB own).length,H:=e.H++[own] }
theorem addS_rows (e:StV) (own:List ChgM):(addS e own).rows=changeR e.rows own:=by
  show rowsN (e.H++[own]) (e.H++[own]).length=_
  rw [List.length_append,List.length_singleton,rowsN_new];rfl
theorem StOk.add {s e:StV} {b:Nat} (h:StOk s b) {n:UInt32} {t:TxT} (hf:findU s.txs n=some t) (he:StOk e b) (hd:e.d=s.d) (ha:e.at_=s.at_) (hH:e.H=s.H) (ht:e.txs=delU s.txs n) (hb:s.H.length+1≤b) (hfit:fitsS s t.x):StOk (addS e t.x.own) b:=by
  obtain ⟨_,A,B,hts,hdel,_⟩:=findU_mid hf
  have hmem:=findU_mem hf
  have hle:t.x.own.length≤4096:=by
    rcases Nat.lt_or_ge 4096 t.x.own.length with h5 | h5
    · exact absurd hfit (not_fitsS (by omega))
    · exact h5
  have hl:=he.log.add (y:=chgsB t.x.own) hfit.1 (by rw [ha,hd];exact hfit.2)
  refine ⟨?_,?_,?_,?_,he.ids,he.own,he.lks,he.tl,h.bb⟩
  · show DiskLogB _ _ ((e.H++[t.x.own]).map chgsB)
    rw [List.map_append];exact hl
  · intro cs hcs
    rcases List.mem_append.1 hcs with hcs | hcs
    · exact he.recs cs hcs
    · simp at hcs;subst hcs;exact ⟨hle,h.own t hmem⟩
  · have h1:=h.sum
    show (e.H++[t.x.own]).flatten.length+(e.txs.map _).sum≤b
    rw [ht,hdel,hH]
    rw [hts] at h1
    simp only [List.map_append,List.map_cons,List.sum_append,List.sum_cons,List.flatten_append,List.length_append,List.flatten_singleton] at h1 ⊢
    omega
  · show (e.H++[t.x.own]).length≤b
    rw [hH,List.length_append];exact hb
theorem StOk.upd {s s':StV} {b:Nat} (h:StOk s b) (hb:b+1≤1000000000) {t:TxT} (hm:t ∈ s.txs) {x:TX} (hd:s'.d=s.d) (ha:s'.at_=s.at_) (hH:s'.H=s.H) (ht:s'.txs=setU s.txs t.id x)
    (ho:x.own=t.x.own∨∃ c,chgOk c=true∧x.own=t.x.own++[c]) (hl:x.looked.length≤b+1):StOk s' (b+1):=by
  obtain ⟨A,B,e⟩:=List.append_of_mem hm
  have hp:s'.txs=A++{ t with x:=x }::B:=by rw [ht,e];exact setU_mid (e ▸ h.ids) x
  refine ⟨by rw [hd,ha,hH];exact h.log,by rw [hH];exact h.recs,?_,by rw [hH];have:=h.hl;omega,by rw [ht,setU_ids];exact h.ids,?_,?_,by rw [ht];simp only [setU,List.length_map];exact h.tl,hb⟩
  · rw [hH,hp]
    have h1:=h.sum
    rw [e] at h1
    have h2:x.own.length≤t.x.own.length+1:=by rcases ho with h | ⟨c,_,h⟩ <;> rw [h] <;> simp
    simp only [List.map_append,List.map_cons,List.sum_append,List.sum_cons] at h1 ⊢
    omega
  · rw [hp]
    intro y hy c' hc'
    rcases List.mem_append.1 hy with hy | hy
    · exact h.own y (by rw [e];simp [hy]) c' hc'
    · rcases List.mem_cons.1 hy with rfl | hy
      · rcases ho with h3 | ⟨c,hc,h3⟩
        · exact h.own t hm c' (by simpa [h3] using hc')
        · simp only [h3] at hc'
          rcases List.mem_append.1 hc' with hc' | hc'
          · exact h.own t hm c' hc'
          · simp at hc';subst hc';exact hc
      · exact h.own y (by rw [e];simp [hy]) c' hc'
  · rw [hp]
    intro y hy
    rcases List.mem_append.1 hy with hy | hy
    · exact Nat.le_succ_of_le (h.lks y (by rw [e];simp [hy]))
    · rcases List.mem_cons.1 hy with rfl | hy
      · exact hl
      · exact Nat.le_succ_of_le (h.lks y (by rw [e];simp [hy]))
structure Kind where
  ends:StV→UInt32→StV
  doS:StV→UInt32→OpM→DoS
  chk:StV→TX→Bool
section
variable (I : Kind)
def aboE (s:StV) (n:UInt32):Nat:=if (findU s.txs n).isSome then 0 else 6
def aboS (s:StV) (n:UInt32):StV:=if (findU s.txs n).isSome then I.ends s n else s
def comE (s:StV) (n:UInt32):Nat:=match findU s.txs n with
  | none=>6
  | some t=>if I.chk s t.x then 9 else if fitsS s t.x then 0 else 5
def comN (s:StV) (n:UInt32):UInt32:=if comE I s n=0 then UInt32.ofNat s.H.length+1 else 0
def comS (s:StV) (n:UInt32):StV:=match findU s.txs n with
  | none=>s
  | some t=>if I.chk s t.x then I.ends s n else if fitsS s t.x then addS (I.ends s n) t.x.own else I.ends s n
end
structure Good (I:Kind) where
  Ok:StV→Nat→Prop
  V:StV→Og→Prop
  ok:∀ {s b},Ok s b→StOk s b
  mono:∀ {s b c},Ok s b→b≤c→c≤1000000000→Ok s c
  beg:∀ {s b},Ok s b→∀ n q,Ok (begS s n q) b
  endsE:∀ {s b},Ok s b→∀ n,(I.ends s n).d=s.d∧(I.ends s n).at_=s.at_∧(I.ends s n).H=s.H∧(I.ends s n).txs=delU s.txs n
  ends:∀ {s b},Ok s b→∀ n,Ok (I.ends s n) b
  com:∀ {s b},Ok s b→b+1≤1000000000→∀ n,Ok (comS I s n) (b+1)
  err:∀ {s b n x s' e},Ok s b→I.doS s n x=.err s' e→e≠0∧s'.d=s.d∧s'.at_=s.at_∧s'.H=s.H∧(∀ t ∈ s'.txs,∃ u ∈ s.txs,t.id=u.id)∧Ok s' b∧∀ o,V s o→V s' o
  put:∀ {s b n x s'},Ok s b→b+1≤1000000000→I.doS s n x=.put s'→∃ t ∈ s.txs,t.id=n∧opOk x=true∧writes x=true∧s'.d=s.d∧s'.at_=s.at_∧s'.H=s.H∧(∀ t ∈ s'.txs,∃ u ∈ s.txs,t.id=u.id)∧Ok s' (b+1) ∧
    ∀ o,V s o→V s' (setO o n ((o n).1++[x],(o n).2++[[]]))
  look:∀ {s b n x s' rows},Ok s b→b+1≤1000000000→I.doS s n x=.look s' rows→∃ t ∈ s.txs,t.id=n∧opOk x=true∧writes x=false∧s'.d=s.d∧s'.at_=s.at_∧s'.H=s.H∧(∀ t ∈ s'.txs,∃ u ∈ s.txs,t.id=u.id)∧Ok s' (b+1)∧rows.length≤256 ∧
    ∀ o,V s o→V s' (setO o n ((o n).1++[x],(o n).2++[rows]))
  vbeg:∀ {s b o},Ok s b→V s o→∀ n q,begE s n=0→V (begS s n q) (setO o n ([],[]))
  vends:∀ {s b o},Ok s b→V s o→∀ n,V (I.ends s n) o
  vcongr:∀ {s o o'},V s o→(∀ t ∈ s.txs,o t.id=o' t.id)→V s o'
  vown:∀ {s o},V s o→∀ t ∈ s.txs,t.x.own=chs (o t.id).1∧(∀ x ∈ (o t.id).1,opOk x=true)
  vcom:∀ {s b o n t},Ok s b→V s o→findU s.txs n=some t→I.chk s t.x=false→fitsS s t.x→(runM s.rows (o n).1).1=(o n).2∧V (addS (I.ends s n) t.x.own) o
structure SerC {I:Kind} (G:Good I) (i:Nat) (s:StV) (F all:List DidV) (kvs:List (UInt32 × Value)):Prop where
  ok:G.Ok s i
  v:G.V s (ogD F)
  hist:s.H=all.map fun a=>chs a.ops
  nums:∀ k a,all[k]?=some a→a.num.toNat=k+1
  opsok:∀ a ∈ all,∀ x ∈ a.ops,opOk x=true
  expl:∀ k a,all[k]?=some a→(runM (rowsN s.H k) a.ops).1=a.l.map (·.2)
  has:∀ t ∈ s.txs,(findD F t.id).isSome=true
  opn:OpenOk kvs F
  lenF:∀ d ∈ F,d.ops.length≤i∧d.l.length≤i
  lenA:∀ d ∈ all,d.ops.length≤i∧d.l.length≤i
section
variable {I : Kind} {G : Good I} {i : Nat} {s : StV} {F all : List DidV} {kvs : List (UInt32 × Value)}
theorem SerC.len (h:SerC G i s F all kvs):all.length≤i:=by
  have:=(G.ok h.ok).hl;rw [h.hist,List.length_map] at this;exact this
theorem SerC.mono (h:SerC G i s F all kvs) (hi:i < 1000):SerC G (i+1) s F all kvs:=
  ⟨G.mono h.ok (Nat.le_succ _) (by omega),h.v,h.hist,h.nums,h.opsok,h.expl,h.has,h.opn,fun d hd=>by have:=h.lenF d hd;omega,fun d hd=>by have:=h.lenA d hd;omega⟩
theorem SerC.beg (h:SerC G i s F all kvs) (hi:i < 1000) {n:UInt32} (hE:begE s n=0) (q b:Nat) :
    SerC G (i+1) (begS s n q) (⟨n,b,0,⟨none,0,0⟩,[],⟨none,0,0⟩,[]⟩::delD F n) all (mset kvs n (.pointer (some ⟨b,0,none⟩))):=by
  have h2:=h.mono hi
  have hB:begS s n q={ s with txs:=s.txs++[begT s n q] }:=by rw [begS,if_pos hE]
  have hH:(begS s n q).H=s.H:=by rw [hB]
  refine ⟨G.beg h2.ok n q,?_,by rw [hH];exact h.hist,h.nums,h.opsok,by rw [hH];exact h.expl,fun t ht=>?_,h.opn.new ⟨n,b,0,⟨none,0,0⟩,[],⟨none,0,0⟩,[]⟩,fun d hd=>?_,h2.lenA⟩
  · rw [ogD_set F (d:=⟨n,b,0,⟨none,0,0⟩,[],⟨none,0,0⟩,[]⟩) rfl]
    exact G.vbeg h.ok h.v n q hE
  · rw [findD_cons,findD_del]
    by_cases e:n=t.id
    · simp [e]
    · rw [if_neg e,if_neg (fun e2=>e e2.symm)]
      rw [hB] at ht
      rcases List.mem_append.1 ht with ht | ht
      · exact h.has t ht
      · simp at ht;subst ht;exact absurd rfl e
  · rcases List.mem_cons.1 hd with rfl | hd
    · exact ⟨Nat.zero_le _,Nat.zero_le _⟩
    · exact h2.lenF d (delD_mem hd)
theorem SerC.ends (h:SerC G i s F all kvs) (n:UInt32):SerC G i (I.ends s n) F all kvs:=by
  obtain ⟨_,_,hH,ht⟩:=G.endsE h.ok n
  exact ⟨G.ends h.ok n,G.vends h.ok h.v n,by rw [hH];exact h.hist,h.nums,h.opsok,by rw [hH];exact h.expl,fun t htt=>h.has t (delU_sub.mem (ht ▸ htt)),h.opn,h.lenF,h.lenA⟩
theorem delU_no {ts:List TxT} (h:(ts.map (·.id)).Nodup) (n:UInt32):∀ t ∈ delU ts n,t.id≠n:=by
  cases hf:findU ts n with
  | none=>exact fun t ht e=>findU_none hf (List.mem_map.2 ⟨t,delU_sub.mem ht,e⟩)
  | some t=>
    obtain ⟨hid,A,B,hts,hdel,_⟩:=findU_mid hf
    intro u hu
    rw [← hid]
    exact nodupU_mid (hts ▸ h) u (hdel ▸ hu)
theorem SerC.gone (h:SerC G i s F all kvs) (hi:i < 1000) {n:UInt32} (hn:∀ t ∈ s.txs,t.id≠n):SerC G (i+1) s (delD F n) all (mset kvs n (.pointer none)):=by
  have h2:=h.mono hi
  refine ⟨h2.ok,G.vcongr h.v fun t ht=>?_,h.hist,h.nums,h.opsok,h.expl,fun t ht=>?_,h.opn.nil n,fun d hd=>h2.lenF d (delD_mem hd),h2.lenA⟩
  · unfold ogD;rw [findD_del,if_neg (hn t ht)]
  · rw [findD_del,if_neg (hn t ht)];exact h.has t ht
theorem findU_no {ts:List TxT} {n:UInt32} (h:findU ts n=none):∀ t ∈ ts,t.id≠n:=fun t ht e=>findU_none h (List.mem_map.2 ⟨t,ht,e⟩)
theorem comE_zero {n:UInt32} (hE:comE I s n=0):∃ t,findU s.txs n=some t∧I.chk s t.x=false∧fitsS s t.x∧comS I s n=addS (I.ends s n) t.x.own∧comN I s n=UInt32.ofNat s.H.length+1:=by
  have hN:comN I s n=UInt32.ofNat s.H.length+1:=by rw [comN,if_pos hE]
  unfold comE at hE
  cases hf:findU s.txs n with
  | none=>rw [hf] at hE;simp at hE
  | some t=>
    rw [hf] at hE
    simp only at hE
    cases hc:I.chk s t.x with
    | true=>rw [hc] at hE;simp at hE
    | false=>
      rw [hc] at hE
      by_cases hfit:fitsS s t.x
      · exact ⟨t,rfl,hc,hfit,by simp [comS,hf,hc,hfit],hN⟩
      · simp [hfit] at hE
theorem SerC.com (h:SerC G i s F all kvs) (hi:i < 1000) {n:UInt32} (hE:comE I s n=0):∃ d,findD F n=some d∧(∀ a ∈ all,a.num < comN I s n) ∧
    SerC G (i+1) (comS I s n) (delD F n) (all++[{ d with num:=comN I s n }]) (mset kvs n (.pointer none)):=by
  obtain ⟨t,hf,hc,hfit,hS,hN⟩:=comE_zero hE
  obtain ⟨hid,_⟩:=findU_mid hf
  have hst:=G.ok h.ok
  have hHl:s.H.length=all.length:=by rw [h.hist,List.length_map]
  have hal:=h.len
  have hnum:(comN I s n).toNat=all.length+1:=by
    rw [hN,UInt32.toNat_add,UInt32.toNat_ofNat',hHl];simp;omega
  obtain ⟨d,hd⟩:=Option.isSome_iff_exists.1 (h.has t (findU_mem hf))
  rw [hid] at hd
  have hog:ogD F n=(d.ops,d.l.map (·.2)):=ogD_some hd
  obtain ⟨hown,hopk⟩:=G.vown h.v t (findU_mem hf)
  rw [hid,hog] at hown hopk
  obtain ⟨hv1,hv2⟩:=G.vcom h.ok h.v hf hc hfit
  rw [hog] at hv1
  obtain ⟨eD,eA,eH,eT⟩:=G.endsE h.ok n
  have hH:(comS I s n).H=s.H++[t.x.own]:=by rw [hS];show (I.ends s n).H++_=_;rw [eH]
  have hT:(comS I s n).txs=delU s.txs n:=by rw [hS];exact eT
  have hno:∀ u ∈ (comS I s n).txs,u.id≠n:=fun u hu=>delU_no hst.ids n u (hT ▸ hu)
  refine ⟨d,hd,fun a ha=>?_,G.com h.ok (by omega) n,?_,?_,?_,?_,?_,fun u hu=>?_,h.opn.nil n,fun a ha=>?_,fun a ha=>?_⟩
  · obtain ⟨k,hk⟩:=List.mem_iff_getElem?.1 ha
    have:=h.nums k a hk
    have:=idx_lt hk
    rw [UInt32.lt_iff_toNat_lt];omega
  · rw [hS]
    refine G.vcongr hv2 fun u hu=>?_
    have:=hno u (by rw [hS];exact hu)
    unfold ogD;rw [findD_del,if_neg this]
  · rw [hH,List.map_append,h.hist,hown];rfl
  · intro k a hk
    rcases Nat.lt_or_ge k all.length with hlt | hge
    · rw [List.getElem?_append_left hlt] at hk;exact h.nums k a hk
    · rw [List.getElem?_append_right hge] at hk
      have:k=all.length:=by
        have:=idx_lt hk;simp at this;omega
      subst this
      simp at hk;subst hk;exact hnum
  · intro a ha
    rcases List.mem_append.1 ha with ha | ha
    · exact h.opsok a ha
    · simp at ha;subst ha;exact hopk
  · intro k a hk
    rcases Nat.lt_or_ge k all.length with hlt | hge
    · rw [List.getElem?_append_left hlt] at hk
      rw [hH,rowsN_old (by omega)];exact h.expl k a hk
    · rw [List.getElem?_append_right hge] at hk
      have:k=all.length:=by
        have:=idx_lt hk;simp at this;omega
      subst this
      simp at hk;subst hk
      rw [hH,rowsN_old (by omega),← hHl];exact hv1
  · rw [findD_del,if_neg (hno u hu)];exact h.has u (delU_sub.mem (hT ▸ hu))
  · have:=h.lenF a (delD_mem ha);omega
  · rcases List.mem_append.1 ha with ha | ha
    · have:=h.lenA a ha;omega
    · simp at ha;subst ha;have:=h.lenF d (findD_id hd).1;simp;omega
theorem SerC.err (h:SerC G i s F all kvs) (hi:i < 1000) {n:UInt32} {x:OpM} {s':StV} {e:Nat} (he:I.doS s n x=.err s' e):e≠0∧SerC G (i+1) s' F all kvs:=by
  obtain ⟨h0,_,_,hH,ht,hok,hv⟩:=G.err h.ok he
  have hm:=h.mono hi
  refine ⟨h0,G.mono hok (Nat.le_succ _) (by omega),hv _ h.v,by rw [hH];exact h.hist,h.nums,h.opsok,by rw [hH];exact h.expl,fun t htt=>?_,h.opn,hm.lenF,hm.lenA⟩
  obtain ⟨u,hu,e⟩:=ht t htt
  rw [e];exact h.has u hu
theorem SerC.upd (h:SerC G i s F all kvs) (hi:i < 1000) {n:UInt32} {x:OpM} {s':StV} {d:DidV} {r:SV × List RowM} (hd:findD F n=some d) (hok:G.Ok s' (i+1)) (hH:s'.H=s.H) (ht:∀ t ∈ s'.txs,∃ u ∈ s.txs,t.id=u.id)
    (hs:G.V s' (setO (ogD F) n ((ogD F n).1++[x],(ogD F n).2++[r.2]))) (os ls:SV):SerC G (i+1) s' ({ d with os:=os,ops:=d.ops++[x],ls:=ls,l:=d.l++[r] }::delD F n) all kvs:=by
  have hm:=h.mono hi
  obtain ⟨hdm,hid⟩:=findD_id hd
  refine ⟨hok,?_,by rw [hH];exact h.hist,h.nums,h.opsok,by rw [hH];exact h.expl,fun t htt=>?_,h.opn.upd hd hid rfl,fun a ha=>?_,hm.lenA⟩
  · rw [ogD_set F (n:=n) (by exact hid)]
    rw [ogD_some hd] at hs
    simpa using hs
  · rw [findD_cons,findD_del]
    by_cases e:d.id=t.id
    · rw [if_pos e];rfl
    · rw [if_neg e,if_neg (fun e2=>e (hid.trans e2.symm))]
      obtain ⟨u,hu,e3⟩:=ht t htt
      rw [e3];exact h.has u hu
  · rcases List.mem_cons.1 ha with rfl | ha
    · have:=h.lenF d hdm;simp;omega
    · exact hm.lenF a (delD_mem ha)
theorem SerC.put (h:SerC G i s F all kvs) (hi:i < 1000) {n:UInt32} {x:OpM} {s':StV} (hd:I.doS s n x=.put s'):∃ d,findD F n=some d∧∀ os ls,SerC G (i+1) s' ({ d with os:=os,ops:=d.ops++[x],ls:=ls,l:=d.l++[((⟨none,0,0⟩:SV),([]:List RowM))] }::delD F n) all kvs:=by
  obtain ⟨t,htm,hid,hx,hw,_,_,hH,ht,hok,hv⟩:=G.put h.ok (by omega) hd
  obtain ⟨d,he⟩:=Option.isSome_iff_exists.1 (h.has t htm)
  rw [hid] at he
  exact ⟨d,he,h.upd hi (x:=x) (r:=(⟨none,0,0⟩,[])) he hok hH ht (hv _ h.v)⟩
theorem SerC.look (h:SerC G i s F all kvs) (hi:i < 1000) {n:UInt32} {x:OpM} {s':StV} {rows:List RowM} (hd:I.doS s n x=.look s' rows) (sv:SV):∃ d,findD F n=some d∧∀ os ls,SerC G (i+1) s' ({ d with os:=os,ops:=d.ops++[x],ls:=ls,l:=d.l++[(sv,rows)] }::delD F n) all kvs:=by
  obtain ⟨t,htm,hid,hx,hw,_,_,hH,ht,hok,_,hv⟩:=G.look h.ok (by omega) hd
  obtain ⟨d,he⟩:=Option.isSome_iff_exists.1 (h.has t htm)
  rw [hid] at he
  exact ⟨d,he,h.upd hi (x:=x) (r:=(sv,rows)) he hok hH ht (hv _ h.v)⟩
def rowsC (all:List DidV) (k:Nat):List RowM:=rowsN (all.map fun a=>chs a.ops) k
theorem keys_rowsN {H:List (List ChgM)} (h:∀ cs ∈ H,∀ c ∈ cs,chgOk c=true) (k:Nat):KeysOk (rowsN H k):=
  changeR_keys List.Pairwise.nil (by simp [KeysOk]) fun c hc=>by
    obtain ⟨cs,h1,h2⟩:=List.mem_flatten.1 hc
    exact h cs (List.mem_of_mem_take h1) c h2
theorem SerC.run (h:SerC G i s F all kvs) {k:Nat} {a:DidV} (ha:all[k]?=some a) :
    (runM (rowsC all k) a.ops).1=a.l.map (·.2)∧(runM (rowsC all k) a.ops).2=rowsC all (k+1)∧(∀ x ∈ a.ops,opOk x=true)∧Rising (rowsC all k)∧KeysOk (rowsC all k)∧(rowsC all (k+1)).length≤(rowsC all k).length+i∧a.ops.length≤i∧a.l.length≤i:=by
  have hop:=h.opsok a (List.mem_of_getElem? ha)
  have h5:=h.lenA a (List.mem_of_getElem? ha)
  have hr:Rising (rowsC all k):=rowsN_rising _ _
  have h1:=h.expl k a ha
  have h2:(runM (rowsC all k) a.ops).2=rowsC all (k+1):=by
    rw [run_left hr a.ops hop]
    unfold rowsC rowsN
    rw [take_snoc (show (all.map fun a=>chs a.ops)[k]?=some (chs a.ops) by rw [List.getElem?_map,ha];rfl),List.flatten_append,changeR_app]
    simp
  have h6:=(runM_rows hr a.ops).2.1
  refine ⟨by unfold rowsC;rw [← h.hist];exact h1,h2,hop,hr,?_,?_,h5⟩
  · unfold rowsC
    rw [← h.hist]
    exact keys_rowsN (fun cs hcs=>((G.ok h.ok).recs cs hcs).2) k
  · rw [← h2];omega
theorem SerC.done (h:SerC G i s F all kvs):s.rows=rowsC all all.length:=by
  unfold StV.rows rowsC;rw [h.hist,List.length_map]
end
end Go.SL
namespace Go.SL
open Go
structure Solo {I:Kind} (G:Good I) where
  S:StV→UInt32→List RowM→List ChgM→Prop
  txs:∀ {s n rows own},S s n rows own→∃ t,s.txs=[t]∧t.id=n∧t.x.own=own∧s.rows=rows
  chk:∀ {s n rows own b},S s n rows own→G.Ok s b→∀ t ∈ s.txs,I.chk s t.x=false
  bad:∀ {s n x},opOk x=false→I.doS s n x=.err s 1
  put:∀ {s n rows own b x},S s n rows own→G.Ok s b→opOk x=true→writes x=true→∃ s',I.doS s n x=.put s'∧S s' n rows (own++[chgOf x])
  look:∀ {s n rows own b x},S s n rows own→G.Ok s b→opOk x=true→writes x=false→∃ s',I.doS s n x=.look s' (scanR (changeR rows own) (spanOf x) 256)∧S s' n rows own
  beg:∀ {s b n},G.Ok s b→s.txs=[]→n≠0→∀ q,S (begS s n q) n s.rows []
structure AloneC {I:Kind} {G:Good I} (Z:Solo G) (n:UInt32) (rows:List RowM) (at0:Nat) (s:StV) (b:Nat) (done:List OpM) (told:List (List RowM)):Prop where
  ok:G.Ok s b
  does:∃ own,Z.S s n rows own∧Does rows own done told
  at_:s.at_≤at0
section
variable {I : Kind} {G : Good I} {Z : Solo G} {n : UInt32} {rows : List RowM} {at0 : Nat} {s : StV} {b : Nat} {done : List OpM} {told : List (List RowM)}
theorem AloneC.mono (h:AloneC Z n rows at0 s b done told) {c:Nat} (hb:b≤c) (hc:c≤1000000000):AloneC Z n rows at0 s c done told:=⟨G.mono h.ok hb hc,h.does,h.at_⟩
theorem AloneC.step (h:AloneC Z n rows at0 s b done told) (hb:b+1≤1000000000) (x:OpM) :
    (opOk x=false∧I.doS s n x=.err s 1)∨(opOk x=true∧∃ s',I.doS s n x=.put s'∧AloneC Z n rows at0 s' (b+1) (done++[x]) (told++[[]])) ∨
    (opOk x=true∧∃ s' r,I.doS s n x=.look s' r∧r.length≤256∧AloneC Z n rows at0 s' (b+1) (done++[x]) (told++[r])):=by
  obtain ⟨own,hS,hD⟩:=h.does
  cases hx:opOk x with
  | false=>exact .inl ⟨rfl,Z.bad hx⟩
  | true=>
    right
    cases hw:writes x with
    | true=>
      left
      obtain ⟨s',h1,h2⟩:=Z.put hS h.ok hx hw
      obtain ⟨_,_,_,_,_,_,hat,_,_,hok,_⟩:=G.put h.ok hb h1
      exact ⟨rfl,s',h1,hok,⟨_,h2,hD.write hx hw⟩,by rw [hat];exact h.at_⟩
    | false=>
      right
      obtain ⟨s',h1,h2⟩:=Z.look hS h.ok hx hw
      obtain ⟨_,_,_,_,_,_,hat,_,_,hok,hl,_⟩:=G.look h.ok hb h1
      refine ⟨rfl,s',_,h1,hl,hok,⟨_,h2,hD.read ?_ hx hw⟩,by rw [hat];exact h.at_⟩
      obtain ⟨_,_,_,_,hr⟩:=Z.txs hS
      rw [← hr];exact s.rising
theorem AloneC.com (h:AloneC Z n rows at0 s b done told) (hb:b≤90) (ha:at0≤1000) :
    comE I s n=0∧(comS I s n).rows=(runM rows done).2∧(comS I s n).txs=[]∧(comS I s n).at_≤at0+82∧G.Ok (comS I s n) (b+1)∧comN I s n=UInt32.ofNat s.H.length+1∧∃ own,(comS I s n).H=s.H++[own]:=by
  obtain ⟨own,hS,hD⟩:=h.does
  obtain ⟨t,ht,hid,ho,hr⟩:=Z.txs hS
  have hck:=Z.chk hS h.ok t (by rw [ht];simp)
  have hok:=G.ok h.ok
  have hf:findU s.txs n=some t:=by rw [ht];simp [findU,hid]
  have hl:t.x.own.length≤90:=by have:=hok.own_le (t:=t) (by rw [ht];simp);omega
  have hc:=(chgs_len t.x.own).2 (hok.own t (by rw [ht];simp))
  have hlen:=chgsB_len t.x.own
  have hat:=h.at_
  have hfit:fitsS s t.x:=⟨by omega,by rw [hok.log.len];unfold secs;omega⟩
  have hE:comE I s n=0:=by simp [comE,hf,hck,hfit]
  have hS2:comS I s n=addS (I.ends s n) t.x.own:=by simp [comS,hf,hck,hfit]
  obtain ⟨e1,e2,e3,e4⟩:=G.endsE h.ok n
  refine ⟨hE,?_,?_,?_,G.com h.ok (by omega) n,by rw [comN,if_pos hE],t.x.own,?_⟩
  · rw [hS2,addS_rows]
    unfold StV.rows at hr ⊢
    rw [e3,hr,ho,hD.left]
  · rw [hS2];show (I.ends s n).txs=[];rw [e4,ht];simp [delU,hid]
  · rw [hS2];show (I.ends s n).at_+_≤_;rw [e2];unfold secs;omega
  · rw [hS2];show (I.ends s n).H++_=_;rw [e3]
theorem AloneC.start (hs:G.Ok s b) (ht:s.txs=[]) (hn:n≠0) (hat:s.at_≤at0) (q:Nat):begE s n=0∧AloneC Z n s.rows at0 (begS s n q) b [] []:=by
  have hE:begE s n=0:=by simp [begE,hn,ht,findU]
  refine ⟨hE,G.beg hs n q,⟨[],Z.beg hs ht hn q,Does.nil _⟩,?_⟩
  rw [begS,if_pos hE];exact hat
end
def st0 (d:DiskM) (at0:Nat) (H:List (List ChgM)):StV:=⟨d,at0,H,0,[],[]⟩
theorem st0_first:StOk (st0 (newDisk 4096).sync 0 []) 0:=⟨DiskLogB.first,by simp [st0],by simp [st0],by simp [st0],by simp [st0],by simp [st0],by simp [st0],by simp [st0],by decide⟩
def stF:StV:=st0 (newDisk 4096).sync 0 []
theorem SerC.first {I:Kind} {G:Good I} (h:G.Ok stF 0) (hv:G.V stF (ogD [])):SerC G 0 stF [] [] []:=
  ⟨h,hv,rfl,by simp,by simp,by simp,by simp [stF,st0],fun n=>rfl,by simp,by simp⟩
end Go.SL
namespace Go.SL
open Go
def leastB (ts:List TxT) (m:UInt32):UInt32:=ts.foldl (fun m t=>if t.x.at_ < m then t.x.at_ else m) m
theorem leastB_spec:∀ (ts:List TxT) (m:UInt32),leastB ts m≤m∧(∀ t ∈ ts,leastB ts m≤t.x.at_)∧(leastB ts m=m∨∃ t ∈ ts,leastB ts m=t.x.at_)
  | [],m=>⟨UInt32.le_refl _,by simp,.inl rfl⟩
  | t::ts,m=>by
    obtain ⟨h1,h2,h3⟩:=leastB_spec ts (if t.x.at_ < m then t.x.at_ else m)
    have e1:(if t.x.at_ < m then t.x.at_ else m)≤m∧(if t.x.at_ < m then t.x.at_ else m)≤t.x.at_:=by
      split
      · rename_i h;exact ⟨UInt32.le_of_lt h,UInt32.le_refl _⟩
      · rename_i h;exact ⟨UInt32.le_refl _,UInt32.not_lt.1 h⟩
    refine ⟨UInt32.le_trans h1 e1.1,fun u hu=>?_,?_⟩
    · rcases List.mem_cons.1 hu with rfl | hu
      · exact UInt32.le_trans h1 e1.2
      · exact h2 u hu
    · show leastB ts _=m∨_
      rcases h3 with h3 | ⟨u,hu,h3⟩
      · by_cases h:t.x.at_ < m
        · right;exact ⟨t,by simp,by show leastB ts _=_;rw [h3,if_pos h]⟩
        · left;rw [h3,if_neg h]
      · right;exact ⟨u,by simp [hu],h3⟩
def endsB (s:StV) (n:UInt32):StV:={ s with txs:=delU s.txs n,trim:=leastB (delU s.txs n) (UInt32.ofNat s.H.length) }
def doB (s:StV) (n:UInt32) (x:OpM):DoS:=
  if opOk x then match findU s.txs n with
    | none=>.err s 6
    | some t=>if writes x then .put { s with txs:=setU s.txs n { t.x with own:=t.x.own++[chgOf x] } }
      else .look { s with txs:=setU s.txs n { t.x with looked:=t.x.looked++[spanOf x] } } (scanR (changeR (rowsN s.H t.x.at_.toNat) t.x.own) (spanOf x) 256)
  else .err s 1
def chkB (s:StV) (t:TX):Bool:=t.looked.any fun p=>sinceH s.H t.at_.toNat p
def betaI:Kind:=⟨endsB,doB,chkB⟩
structure BetOk (s:StV) (b:Nat):Prop where
  st:StOk s b
  trim:s.trim.toNat≤s.H.length
  ats:∀ t ∈ s.txs,s.trim≤t.x.at_∧t.x.at_.toNat≤s.H.length
def VB (s:StV) (o:Og):Prop:=∀ t ∈ s.txs,t.x.own=chs (o t.id).1∧(∀ x ∈ (o t.id).1,opOk x=true)∧(runM (rowsN s.H t.x.at_.toNat) (o t.id).1).1=(o t.id).2∧∀ x ∈ (o t.id).1,writes x=false→spanOf x ∈ t.x.looked
theorem len32 {s:StV} {b:Nat} (h:StOk s b):(UInt32.ofNat s.H.length).toNat=s.H.length:=by
  have:=h.hl;have:=h.bb
  rw [UInt32.toNat_ofNat'];exact Nat.mod_eq_of_lt (by omega)
theorem ends_trim {s:StV} {b:Nat} (h:BetOk s b) (n:UInt32):s.trim≤(endsB s n).trim∧(endsB s n).trim≤UInt32.ofNat s.H.length∧∀ t ∈ delU s.txs n,(endsB s n).trim≤t.x.at_:=by
  obtain ⟨k1,k2,k3⟩:=leastB_spec (delU s.txs n) (UInt32.ofNat s.H.length)
  refine ⟨?_,k1,k2⟩
  show s.trim≤leastB _ _
  rcases k3 with e | ⟨t,ht,e⟩
  · rw [e,UInt32.le_iff_toNat_le,len32 h.st];exact h.trim
  · rw [e];exact (h.ats t (delU_sub.mem ht)).1
theorem BetOk.ends {s:StV} {b:Nat} (h:BetOk s b) (n:UInt32):BetOk (endsB s n) b:=by
  obtain ⟨h1,h2,h3⟩:=ends_trim h n
  refine ⟨h.st.sub rfl rfl rfl delU_sub,?_,fun t ht=>⟨h3 t ht,(h.ats t (delU_sub.mem ht)).2⟩⟩
  rw [UInt32.le_iff_toNat_le,len32 h.st] at h2;exact h2
theorem BetOk.mono {s:StV} {b c:Nat} (h:BetOk s b) (hb:b≤c) (hc:c≤1000000000):BetOk s c:=⟨h.st.mono hb hc,h.trim,h.ats⟩
theorem BetOk.beg {s:StV} {b:Nat} (h:BetOk s b) (n:UInt32) (q:Nat):BetOk (begS s n q) b:=by
  have hs:=h.st.beg n q
  refine ⟨hs,?_,?_⟩
  · unfold begS;split <;> exact h.trim
  · unfold begS
    split
    · intro t ht
      rcases List.mem_append.1 ht with ht | ht
      · exact h.ats t ht
      · simp at ht;subst ht
        have:=len32 h.st
        exact ⟨by rw [UInt32.le_iff_toNat_le];show _≤(UInt32.ofNat s.H.length).toNat;rw [this];exact h.trim,by show (UInt32.ofNat s.H.length).toNat≤s.H.length;omega⟩
    · exact h.ats
theorem BetOk.com {s:StV} {b:Nat} (h:BetOk s b) (hb:b+1≤1000000000) (n:UInt32):BetOk (comS betaI s n) (b+1):=by
  have hm:=h.mono (Nat.le_succ b) hb
  unfold comS
  cases hf:findU s.txs n with
  | none=>exact hm
  | some t=>
    simp only
    split
    · exact hm.ends n
    · split
      · rename_i hfit
        have he:=hm.ends n
        refine ⟨hm.st.add hf he.st rfl rfl rfl rfl (by have:=h.st.hl;omega) hfit,?_,fun u hu=>⟨(he.ats u hu).1,?_⟩⟩
        · show _≤(s.H++[_]).length
          have:=he.trim;rw [List.length_append];exact Nat.le_trans this (Nat.le_add_right _ _)
        · show _≤(s.H++[_]).length
          have:=(he.ats u hu).2;rw [List.length_append];exact Nat.le_trans this (Nat.le_add_right _ _)
      · exact hm.ends n
theorem doB_inv {s:StV} {n:UInt32} {x:OpM}:(∃ e,doB s n x=.err s e∧e≠0)∨∃ t,findU s.txs n=some t∧opOk x=true ∧
    ((writes x=true∧doB s n x=.put { s with txs:=setU s.txs n { t.x with own:=t.x.own++[chgOf x] } }) ∨
     (writes x=false∧doB s n x=.look { s with txs:=setU s.txs n { t.x with looked:=t.x.looked++[spanOf x] } } (scanR (changeR (rowsN s.H t.x.at_.toNat) t.x.own) (spanOf x) 256))):=by
  unfold doB
  cases hx:opOk x with
  | false=>left;exact ⟨1,by simp,by decide⟩
  | true=>
    cases hf:findU s.txs n with
    | none=>left;exact ⟨6,by simp,by decide⟩
    | some t=>
      right
      refine ⟨t,rfl,rfl,?_⟩
      cases hw:writes x <;> simp
theorem setU_ex {ts:List TxT} {n:UInt32} {x:TX}:∀ t ∈ setU ts n x,∃ u ∈ ts,t.id=u.id:=fun t ht=>by
  rcases setU_mem ht with ⟨u,hu,_,rfl⟩ | ⟨hu,_⟩
  · exact ⟨u,hu,rfl⟩
  · exact ⟨t,hu,rfl⟩
theorem BetOk.upd {s:StV} {b:Nat} (h:BetOk s b) (hb:b+1≤1000000000) {n:UInt32} {t:TxT} (hf:findU s.txs n=some t) {x:TX} (ha:x.at_=t.x.at_) (ho:x.own=t.x.own∨∃ c,chgOk c=true∧x.own=t.x.own++[c]) (hl:x.looked.length≤b+1) :
    BetOk { s with txs:=setU s.txs n x } (b+1):=by
  obtain ⟨hid,_⟩:=findU_mid hf
  have hm:=findU_mem hf
  refine ⟨h.st.upd hb hm rfl rfl rfl (by rw [hid]) ho hl,h.trim,fun u hu=>?_⟩
  rcases setU_mem hu with ⟨v,hv,hvi,rfl⟩ | ⟨hu,_⟩
  · have:=h.ats t hm;rw [← ha] at this;exact this
  · exact h.ats u hu
theorem uniqU {ts:List TxT} (hn:(ts.map (·.id)).Nodup) {n:UInt32} {t u:TxT} (hf:findU ts n=some t) (hu:u ∈ ts) (hi:u.id=n):u=t:=by
  have h1:=findU_of hn hu
  rw [hi,hf] at h1;exact (Option.some.inj h1).symm
theorem rows_since {H:List (List ChgM)} {a:Nat} {p:SpanM} (h:sinceH H a p=false) (r:RowM) (hr:inSpan p r.key=true):r ∈ rowsN H a↔r ∈ rowsN H H.length:=by
  have e:rowsN H H.length=changeR (rowsN H a) (H.drop a).flatten:=by
    rw [rowsN_all];unfold rowsN
    rw [← changeR_app,← List.flatten_append,List.take_append_drop]
  rw [e]
  refine (mem_change_skip _ (rowsN_rising H a) fun c hc e=>?_).symm
  obtain ⟨cs,h1,h2⟩:=List.mem_flatten.1 hc
  unfold sinceH at h
  have h3:=List.any_eq_false.1 h cs h1
  rw [List.any_eq_true] at h3
  exact h3 ⟨c,h2,by rw [e];exact hr⟩
def betaG:Good betaI where
  Ok:=BetOk
  V:=VB
  ok:=fun h=>h.st
  mono:=fun h hb hc=>h.mono hb hc
  beg:=fun h n q=>h.beg n q
  endsE:=fun _ _=>⟨rfl,rfl,rfl,rfl⟩
  ends:=fun h n=>h.ends n
  com:=fun h hb n=>h.com hb n
  err:=fun {s b n x s' e} h he=>by
    have he:doB s n x=.err s' e:=he
    rcases doB_inv (s:=s) (n:=n) (x:=x) with ⟨e',h1,h2⟩ | ⟨t,_,_,⟨_,h1⟩ | ⟨_,h1⟩⟩ <;> rw [h1] at he
    · cases he;exact ⟨h2,rfl,rfl,rfl,fun t ht=>⟨t,ht,rfl⟩,h,fun _ h=>h⟩
    · cases he
    · cases he
  put:=fun {s b n x s'} h hb he=>by
    have he:doB s n x=.put s':=he
    rcases doB_inv (s:=s) (n:=n) (x:=x) with ⟨e',h1,h2⟩ | ⟨t,hf,hx,⟨hw,h1⟩ | ⟨_,h1⟩⟩ <;> rw [h1] at he
    · cases he
    · cases he
      obtain ⟨hid,_⟩:=findU_mid hf
      refine ⟨t,findU_mem hf,hid,hx,hw,rfl,rfl,rfl,setU_ex,h.upd hb hf rfl (.inr ⟨_,chgOf_ok hx hw,rfl⟩) (Nat.le_succ_of_le (h.st.lks t (findU_mem hf))),fun o hv u hu=>?_⟩
      rcases setU_mem hu with ⟨v,hv',hvi,rfl⟩ | ⟨hu,hne⟩
      · obtain rfl:=uniqU h.st.ids hf hv' hvi
        obtain ⟨k1,k2,k3,k4⟩:=hv v hv'
        simp only
        rw [hvi] at k1 k2 k3 k4 ⊢
        rw [setO_same]
        refine ⟨by rw [chs_snoc_w _ hw,k1],fun y hy=>?_,?_,fun y hy hwy=>?_⟩
        · rcases List.mem_append.1 hy with hy | hy
          · exact k2 y hy
          · simp at hy;subst hy;exact hx
        · rw [runM_snoc,done_write hx hw];simp only;rw [k3]
        · rcases List.mem_append.1 hy with hy | hy
          · exact k4 y hy hwy
          · simp at hy;subst hy;rw [hw] at hwy;cases hwy
      · rw [setO_other _ _ hne];exact hv u hu
    · cases he
  look:=fun {s b n x s' rows} h hb he=>by
    have he:doB s n x=.look s' rows:=he
    rcases doB_inv (s:=s) (n:=n) (x:=x) with ⟨e',h1,h2⟩ | ⟨t,hf,hx,⟨hw,h1⟩ | ⟨hw,h1⟩⟩ <;> rw [h1] at he
    · cases he
    · cases he
    · cases he
      obtain ⟨hid,_⟩:=findU_mid hf
      refine ⟨t,findU_mem hf,hid,hx,hw,rfl,rfl,rfl,setU_ex,h.upd hb hf rfl (.inl rfl) (by have:=h.st.lks t (findU_mem hf);simp;omega),by unfold scanR;simp;omega,fun o hv u hu=>?_⟩
      rcases setU_mem hu with ⟨v,hv',hvi,rfl⟩ | ⟨hu,hne⟩
      · obtain rfl:=uniqU h.st.ids hf hv' hvi
        obtain ⟨k1,k2,k3,k4⟩:=hv v hv'
        simp only
        rw [hvi] at k1 k2 k3 k4 ⊢
        rw [setO_same]
        refine ⟨by rw [chs_snoc_r _ hw,k1],fun y hy=>?_,?_,fun y hy hwy=>?_⟩
        · rcases List.mem_append.1 hy with hy | hy
          · exact k2 y hy
          · simp at hy;subst hy;exact hx
        · rw [runM_snoc,run_left (rowsN_rising _ _) _ k2,done_read (changeR_rising _ (rowsN_rising _ _)).1 hx hw];simp only;rw [k3,k1]
        · rcases List.mem_append.1 hy with hy | hy
          · exact List.mem_append_left _ (k4 y hy hwy)
          · simp at hy;subst hy;simp
      · rw [setO_other _ _ hne];exact hv u hu
  vbeg:=fun {s b o} h hv n q hE=>by
    have hf:=(begE_zero hE).2
    intro t ht
    rw [begS,if_pos hE] at ht ⊢
    rcases List.mem_append.1 ht with ht | ht
    · rw [setO_other _ _ (fun e=>findU_none hf (List.mem_map.2 ⟨t,ht,e⟩))];exact hv t ht
    · simp at ht;subst ht
      show []=chs (setO o n ([],[]) n).1∧(∀ x ∈ (setO o n ([],[]) n).1,_)∧(runM _ (setO o n ([],[]) n).1).1=(setO o n ([],[]) n).2∧∀ x ∈ (setO o n ([],[]) n).1,_
      rw [setO_same];simp [chs,runM_nil]
  vends:=fun h hv n t ht=>hv t (delU_sub.mem ht)
  vcongr:=fun hv ho t ht=>by rw [← ho t ht];exact hv t ht
  vown:=fun hv t ht=>⟨(hv t ht).1,(hv t ht).2.1⟩
  vcom:=fun {s b o n t} h hv hf hc hfit=>by
    obtain ⟨hid,_⟩:=findU_mid hf
    obtain ⟨k1,k2,k3,k4⟩:=hv t (findU_mem hf)
    rw [hid] at k1 k2 k3 k4
    refine ⟨?_,fun u hu=>?_⟩
    · rw [← k3]
      refine run_agree s.rising (rowsN_rising _ _) _ k2 fun x hx hw r hr=>?_
      have:sinceH s.H t.x.at_.toNat (spanOf x)=false:=by
        have hc:chkB s t.x=false:=hc
        unfold chkB at hc
        have:=List.any_eq_false.1 hc _ (k4 x hx hw)
        simpa using this
      exact (rows_since this r hr).symm
    · have hu':u ∈ s.txs:=delU_sub.mem hu
      obtain ⟨j1,j2,j3,j4⟩:=hv u hu'
      refine ⟨j1,j2,?_,j4⟩
      show (runM (rowsN (s.H++[t.x.own]) _) _).1=_
      rw [rowsN_old (h.ats u hu').2];exact j3
end Go.SL
