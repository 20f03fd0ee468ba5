import Derived.Test.YtdfomffmfnpfoaaGreatDoorQA22
import Derived.Deep.Slices
import Derived.ChangeSame
import Derived.SizedLaws
set_option linter.unusedSimpArgs false
set_option linter.unusedVariables false
set_option linter.unusedSectionVars false
namespace Go.SL
open Go
def maxY (ys:List RecG):UInt32:=ys.foldl (fun l y=>if l < y.1 then y.1 else l) 0
def numY (ys:List RecG):List (ByteArray × UInt32):=ys.foldl (fun l y=>keptG l y.1 y.2) []
theorem maxY_snoc (ys:List RecG) (y:RecG):maxY (ys++[y])=if maxY ys < y.1 then y.1 else maxY ys:=by unfold maxY;rw [List.foldl_append];rfl
theorem numY_snoc (ys:List RecG) (y:RecG):numY (ys++[y])=keptG (numY ys) y.1 y.2:=by simp [numY]
theorem reAll_more:∀ (ys:List RecG) (s:GamV),(reAll s ys).last=ys.foldl (fun l y=>if l < y.1 then y.1 else l) s.last∧(reAll s ys).nums=ys.foldl (fun l y=>keptG l y.1 y.2) s.nums∧(reAll s ys).looks=s.looks
  | [],s=>⟨rfl,rfl,rfl⟩
  | y::ys,s=>by
    obtain ⟨h1,h2,h3⟩:=reAll_more ys (reOne s y)
    exact ⟨h1,h2,h3⟩
structure RelG (i:Nat) (s:GamV) (ys:List RecG) (m:RefV):Prop where
  sure:SureI i s ys
  cnt:(ys.map fun y=>y.2.length).sum+(s.txs.map fun t=>t.own.length).sum≤i
  ysn:ys.length≤i
  ref:RefOk m i
  rows:m.rows=s.rows
  last:m.last=s.last
  lastn:s.last.toNat≤i
  kept:m.kept=maxY ys
  keptle:m.kept≤s.last
  tnum:∀ t ∈ s.txs,t.num≤s.last
  txs:∀ n,(findU m.txs n).map (fun t=>(t.x.num,t.x.own))=(findT s.txs n).map (fun t=>(t.num,t.own))
  numsR:Rising m.nums
  nums:∀ k n,(k,n) ∈ s.nums↔(⟨k,n⟩:RowM) ∈ m.nums
  numsk:(s.nums.map (·.1)).Nodup
  numsY:s.nums=numY ys
  looks1:∀ x ∈ s.looks,(x.2,x.1) ∈ m.looks
  looks2:∀ x ∈ m.looks,x.2≤s.last∧((x.2,x.1) ∈ s.looks∨∀ t ∈ s.txs,x.2≤t.num)
theorem RelG.first:RelG 0 (gam0 (newDisk 4096).sync) [] ref0:=
  ⟨SureI.first,Nat.le_refl _,Nat.le_refl _,RefOk.zero,rfl,rfl,Nat.le_refl _,rfl,UInt32.le_refl _,by simp [gam0],fun n=>rfl,List.Pairwise.nil,by simp [gam0,ref0],by simp [gam0],rfl,by simp [gam0],by simp [ref0]⟩
theorem findT_of {ts:List TxV} (hn:(ts.map (·.id)).Nodup) {t:TxV} (ht:t ∈ ts):findT ts t.id=some t:=by
  obtain ⟨A,B,rfl⟩:=List.append_of_mem ht
  unfold findT
  rw [List.find?_append,List.find?_eq_none.2 (fun x hx=>by have:=nodup_mid hn x (by simp [hx]);simpa using this)]
  simp
theorem findT_id {ts:List TxV} {n:UInt32} {t:TxV} (h:findT ts n=some t):t.id=n:=(find_mid h).1
section
variable {i : Nat} {s : GamV} {ys : List RecG} {m : RefV}
theorem RelG.some_iff (h:RelG i s ys m) (n:UInt32):(findU m.txs n).isSome=(findT s.txs n).isSome:=by
  have:=congrArg Option.isSome (h.txs n)
  simpa using this
theorem RelG.to (h:RelG i s ys m) {n:UInt32} {t:TxV} (hf:findT s.txs n=some t):∃ u:TxU UInt32 RtD,findU m.txs n=some u∧u.id=n∧u.x.num=t.num∧u.x.own=t.own:=by
  have h1:=h.txs n
  rw [hf] at h1
  cases hu:findU m.txs n with
  | none=>rw [hu] at h1;cases h1
  | some u=>
    rw [hu] at h1
    simp only [Option.map_some,Option.some.injEq,Prod.mk.injEq] at h1
    exact ⟨u,rfl,(findU_mid hu).1,h1.1,h1.2⟩
theorem RelG.back (h:RelG i s ys m) {n:UInt32} {u:TxU UInt32 RtD} (hf:findU m.txs n=some u):∃ t:TxV,findT s.txs n=some t∧t.id=n∧u.x.num=t.num∧u.x.own=t.own:=by
  have h1:=h.txs n
  rw [hf] at h1
  cases hu:findT s.txs n with
  | none=>rw [hu] at h1;cases h1
  | some t=>
    rw [hu] at h1
    simp only [Option.map_some,Option.some.injEq,Prod.mk.injEq] at h1
    exact ⟨t,rfl,findT_id hu,h1.1,h1.2⟩
theorem RelG.noneT (h:RelG i s ys m) {n:UInt32} (hf:findT s.txs n=none):findU m.txs n=none:=by
  have h1:=h.some_iff n
  rw [hf] at h1
  cases hu:findU m.txs n with
  | none=>rfl
  | some u=>rw [hu] at h1;cases h1
theorem RelG.ids (h:RelG i s ys m):(m.txs.map (·.id)).Perm (s.txs.map (·.id)):=by
  refine (List.perm_ext_iff_of_nodup h.ref.ids.nodup h.sure.ok.ids).2 fun n=>?_
  constructor
  · intro hm
    obtain ⟨u,hu,rfl⟩:=List.mem_map.1 hm
    obtain ⟨t,h1,h2,_⟩:=h.back (findU_of h.ref.ids.nodup hu)
    exact List.mem_map.2 ⟨t,find_mem h1,h2⟩
  · intro hm
    obtain ⟨t,ht,rfl⟩:=List.mem_map.1 hm
    obtain ⟨u,h1,h2,_⟩:=h.to (findT_of h.sure.ok.ids ht)
    exact List.mem_map.2 ⟨u,findU_mem h1,h2⟩
theorem RelG.tlen (h:RelG i s ys m):m.txs.length=s.txs.length:=by
  have:=h.ids.length_eq
  simpa using this
theorem RelG.open_ (h:RelG i s ys m) {zs:List UInt32} (hp:zs.Perm (s.txs.map (·.id))) (hs:zs.Pairwise (·≤·)):zs=m.txs.map (·.id):=by
  refine List.Perm.eq_of_pairwise (le:=(·≤·)) ?_ hs ?_ (hp.trans h.ids.symm)
  · intro a b _ _ h1 h2
    rw [UInt32.le_iff_toNat_le] at h1 h2
    exact UInt32.toNat_inj.1 (by omega)
  · rw [List.pairwise_map]
    exact h.ref.ids.imp fun {a b} hab=>by rw [UInt32.lt_iff_toNat_lt] at hab;rw [UInt32.le_iff_toNat_le];omega
theorem RelG.oth (h:RelG i s ys m) (n:UInt32) (p:SpanM) (f:UInt32→Bool):rOth m.txs n p f=(underL s.txs n p).any f:=by
  rw [Bool.eq_iff_iff]
  unfold rOth underL
  simp only [List.any_eq_true,List.mem_map,List.mem_filter,Bool.and_eq_true,Bool.not_eq_true',decide_eq_false_iff_not]
  constructor
  · rintro ⟨u,hu,⟨h1,h2⟩,h3⟩
    obtain ⟨t,e1,e2,e3,e4⟩:=h.back (findU_of h.ref.ids.nodup hu)
    exact ⟨u.x.num,⟨t,⟨find_mem e1,by rw [e2];exact h1,by rw [changes,← e4];exact h2⟩,e3.symm⟩,h3⟩
  · rintro ⟨_,⟨t,⟨ht,h1,h2⟩,rfl⟩,h3⟩
    obtain ⟨u,e1,e2,e3,e4⟩:=h.to (findT_of h.sure.ok.ids ht)
    exact ⟨u,findU_mem e1,⟨by rw [e2];exact h1,by rw [rUnder,e4];exact h2⟩,by rw [e3];exact h3⟩
theorem RelG.late (h:RelG i s ys m) (num:UInt32) (p:SpanM):rLate m num p=numsLate s.nums num p:=by
  rw [Bool.eq_iff_iff]
  unfold rLate numsLate scanR
  rw [List.take_of_length_le (List.length_filter_le _ _)]
  simp only [List.any_eq_true,List.mem_filter,Bool.and_eq_true,decide_eq_true_eq]
  constructor
  · rintro ⟨r,⟨h1,h2⟩,h3⟩
    exact ⟨(r.key,r.val),(h.nums _ _).2 h1,h3,by rw [meet_one];exact h2⟩
  · rintro ⟨x,h1,h2,h3⟩
    exact ⟨⟨x.1,x.2⟩,⟨(h.nums _ _).1 h1,by rw [meet_one] at h3;exact h3⟩,h2⟩
theorem RelG.looked (h:RelG i s ys m) {t:TxV} (ht:t ∈ s.txs) (p:SpanM):rLooks m.looks t.num p=s.looks.any fun x=>decide (t.num < x.1) && meet x.2 p:=by
  rw [Bool.eq_iff_iff]
  unfold rLooks
  simp only [List.any_eq_true,Bool.and_eq_true,decide_eq_true_eq]
  constructor
  · rintro ⟨x,h1,h2,h3⟩
    rcases (h.looks2 x h1).2 with h4 | h4
    · exact ⟨_,h4,h2,h3⟩
    · have:=h4 t ht
      rw [UInt32.le_iff_toNat_le] at this
      rw [UInt32.lt_iff_toNat_lt] at h2
      omega
  · rintro ⟨x,h1,h2,h3⟩
    exact ⟨_,h.looks1 x h1,h2,h3⟩
theorem minG_le:∀ (ts:List TxV) (a:UInt32),minL ts a≤a∧∀ t ∈ ts,minL ts a≤t.num
  | [],a=>⟨UInt32.le_refl _,by simp⟩
  | x::ts,a=>by
    obtain ⟨h1,h2⟩:=minG_le ts (if x.num < a then x.num else a)
    have e:minL (x::ts) a=minL ts (if x.num < a then x.num else a):=rfl
    rw [e]
    have hm:(if x.num < a then x.num else a)≤a∧(if x.num < a then x.num else a)≤x.num:=by
      by_cases hx:x.num < a
      · rw [if_pos hx];refine ⟨?_,UInt32.le_refl _⟩;rw [UInt32.lt_iff_toNat_lt] at hx;rw [UInt32.le_iff_toNat_le];omega
      · rw [if_neg hx];refine ⟨UInt32.le_refl _,?_⟩;rw [UInt32.lt_iff_toNat_lt] at hx;rw [UInt32.le_iff_toNat_le];omega
    refine ⟨UInt32.le_trans h1 hm.1,fun t ht=>?_⟩
    rcases List.mem_cons.1 ht with rfl | ht
    · exact UInt32.le_trans h1 hm.2
    · exact h2 t ht
theorem findT_del {ts:List TxV} (hn:(ts.map (·.id)).Nodup) (n k:UInt32):findT (delT ts n) k=if k=n then none else findT ts k:=by
  cases hf:findT ts n with
  | none=>
    have e:delT ts n=ts:=by
      unfold delT
      refine List.eraseP_of_forall_not fun t ht=>?_
      have:=List.find?_eq_none.1 hf t ht
      simpa using this
    rw [e]
    split
    · rename_i e2;rw [e2,hf]
    · rfl
  | some t=>
    obtain ⟨rfl,A,B,e1,e2,_⟩:=find_mid hf
    rw [e2]
    subst e1
    have hm:=nodup_mid hn
    by_cases hk:k=t.id
    · rw [if_pos hk]
      refine List.find?_eq_none.2 fun x hx=>?_
      have:=hm x hx
      simp [hk,this]
    · rw [if_neg hk]
      unfold findT
      rw [List.find?_append,List.find?_append,List.find?_cons,show decide (t.id=k)=false by simp [Ne.symm hk]]
theorem findU_filt (ts:List (TxU UInt32 RtD)) (n k:UInt32):findU (ts.filter fun o=>!decide (o.id=n)) k=if k=n then none else findU ts k:=by
  unfold findU
  induction ts with
  | nil=>simp
  | cons t ts ih=>
    rw [List.filter_cons]
    by_cases e:t.id=n
    · rw [if_neg (by simp [e]),ih]
      by_cases hk:k=n
      · rw [if_pos hk,if_pos hk]
      · rw [if_neg hk,if_neg hk,List.find?_cons,show decide (t.id=k)=false by simp [e,Ne.symm hk]]
    · rw [if_pos (by simp [e]),List.find?_cons,List.find?_cons,ih]
      by_cases hk:t.id=k
      · subst hk;simp [e]
      · simp [hk]
theorem sumT_sub {l m:List TxV} (h:l.Sublist m):(l.map fun t=>t.own.length).sum≤(m.map fun t=>t.own.length).sum:=by
  induction h with
  | slnil=>exact Nat.le_refl _
  | cons a _ ih=>simp only [List.map_cons,List.sum_cons];omega
  | cons_cons a _ ih=>simp only [List.map_cons,List.sum_cons];omega
theorem RelG.ends_ (h:RelG i s ys m) (hi:i≤150) (n:UInt32) (hs:SureI (i+1) (endsG s n) ys):RelG (i+1) (endsG s n) ys (rEnds m n):=by
  have hd:(delT s.txs n).Sublist s.txs:=List.eraseP_sublist
  have hm:=minG_le (delT s.txs n) s.last
  refine ⟨hs,?_,by have:=h.ysn;omega,(h.ref.ends n).mono (Nat.le_succ i) (by omega),h.rows,h.last,by have:=h.lastn;show s.last.toNat≤_;omega,h.kept,h.keptle,fun t ht=>h.tnum t (hd.mem ht),?_,h.numsR,h.nums,h.numsk,h.numsY,?_,?_⟩
  · have h1:=h.cnt
    have h2:=sumT_sub hd
    show _+((delT s.txs n).map fun t=>t.own.length).sum≤_
    omega
  · intro k
    show (findU (m.txs.filter fun o=>!decide (o.id=n)) k).map _=(findT (delT s.txs n) k).map _
    rw [findU_filt,findT_del h.sure.ok.ids]
    split
    · rfl
    · exact h.txs k
  · intro x hx
    exact h.looks1 x (List.mem_filter.1 hx).1
  · intro x hx
    refine ⟨(h.looks2 x hx).1,?_⟩
    by_cases hlt:x.2 < minL (delT s.txs n) s.last
    · right
      intro t ht
      have:=hm.2 t ht
      rw [UInt32.lt_iff_toNat_lt] at hlt
      rw [UInt32.le_iff_toNat_le] at this ⊢
      omega
    · rcases (h.looks2 x hx).2 with h4 | h4
      · left
        exact List.mem_filter.2 ⟨h4,by simp [hlt]⟩
      · right
        exact fun t ht=>h4 t (hd.mem ht)
theorem RelG.step (h:RelG i s ys m) (hi:i≤150) (hs:SureI (i+1) s ys):RelG (i+1) s ys m:=
  ⟨hs,by have:=h.cnt;omega,by have:=h.ysn;omega,h.ref.mono (Nat.le_succ i) (by omega),h.rows,h.last,by have:=h.lastn;omega,h.kept,h.keptle,h.tnum,h.txs,h.numsR,h.nums,h.numsk,h.numsY,h.looks1,h.looks2⟩
theorem RelG.begE (h:RelG i s ys m) (n:UInt32):rBegE m n=begEg s n:=by
  unfold rBegE begEg
  rw [h.some_iff,h.tlen]
theorem findU_ins {ts:List (TxU UInt32 RtD)} {t:TxU UInt32 RtD} (hn:findU ts t.id=none) (k:UInt32):findU (rIns ts t) k=if k=t.id then some t else findU ts k:=by
  have hne:=findU_none hn
  have hts:=tw_drop (p:=fun o:TxU UInt32 RtD=>decide (o.id < t.id)) ts
  unfold rIns findU
  by_cases hk:k=t.id
  · rw [if_pos hk,List.append_assoc,List.find?_append,List.find?_eq_none.2 (fun x hx=>?_)]
    · simp [hk]
    · have hx0:x ∈ ts:=(List.takeWhile_sublist _).mem hx
      simp only [decide_eq_true_eq]
      intro e
      exact hne (hk ▸ e ▸ List.mem_map.2 ⟨x,hx0,rfl⟩)
  · rw [if_neg hk,List.append_assoc,List.find?_append,List.find?_append]
    conv=>rhs;rw [← hts,List.find?_append]
    simp [Ne.symm hk]
theorem RelG.beg (h:RelG i s ys m) (hi:i≤150) (n:UInt32) (q q':Nat):RelG (i+1) (begG s n q) ys (rBeg m n q'):=by
  have hs:=h.sure.beg hi n q
  have hr:=h.ref.beg n q'
  have he:=h.begE n
  unfold begG at hs ⊢
  unfold rBeg at hr ⊢
  rw [he] at hr ⊢
  split at hs
  case isFalse e=>rw [if_neg e,if_neg e];exact h.step hi hs
  case isTrue e=>
    rw [if_pos e] at hr
    rw [if_pos e,if_pos e]
    have hf:findT s.txs n=none:=by
      unfold begEg at e
      split at e
      · cases e
      · split at e
        · cases e
        · cases hf:findT s.txs n with
          | none=>rfl
          | some t=>simp_all
    have hl:=h.lastn
    have hl1:(s.last+1).toNat=s.last.toNat+1:=by rw [UInt32.toNat_add];simp;omega
    have hle:∀ x:UInt32,x≤s.last→x≤s.last+1:=fun x hx=>by rw [UInt32.le_iff_toNat_le] at hx ⊢;omega
    refine ⟨hs,?_,by have:=h.ysn;omega,hr.mono (Nat.le_succ i) (by omega),h.rows,by show m.last+1=s.last+1;rw [h.last],by show (s.last+1).toNat≤_;omega,h.kept,hle _ h.keptle,?_,?_,h.numsR,h.nums,h.numsk,h.numsY,h.looks1,?_⟩
    · have:=h.cnt
      show _+((s.txs++[_]).map _).sum≤_
      simp only [List.map_append,List.sum_append,List.map_cons,List.map_nil,List.sum_cons,List.sum_nil,List.length_nil]
      omega
    · intro t ht
      rcases List.mem_append.1 ht with ht | ht
      · exact hle _ (h.tnum t ht)
      · simp only [List.mem_singleton] at ht
        subst ht
        exact UInt32.le_refl _
    · intro k
      show (findU (rIns m.txs _) k).map _=(findT (s.txs++[_]) k).map _
      rw [findU_ins (h.noneT hf)]
      by_cases hk:k=n
      · rw [if_pos hk]
        subst hk
        unfold findT at hf ⊢
        rw [List.find?_append,hf]
        simp [h.last]
      · rw [if_neg hk,h.txs k]
        unfold findT
        rw [List.find?_append]
        simp [Ne.symm hk]
    · intro x hx
      obtain ⟨h1,h2⟩:=h.looks2 x hx
      refine ⟨hle _ h1,?_⟩
      rcases h2 with h2 | h2
      · exact .inl h2
      · right
        intro t ht
        rcases List.mem_append.1 ht with ht | ht
        · exact h2 t ht
        · simp only [List.mem_singleton] at ht
          subst ht
          exact hle _ h1
theorem RelG.abo (h:RelG i s ys m) (hi:i≤150) (n:UInt32):RelG (i+1) (aboG s n) ys (rAbo m n):=by
  have hs:=h.sure.abo hi n
  unfold aboG at hs ⊢
  unfold rAbo
  rw [h.some_iff]
  split at hs
  case isTrue e=>rw [if_pos e,if_pos e];exact h.ends_ hi n hs
  case isFalse e=>rw [if_neg e,if_neg e];exact h.step hi hs
theorem RelG.aboE (h:RelG i s ys m) (n:UInt32):(if (findU m.txs n).isSome then 0 else 6)=aboEg s n:=by
  unfold aboEg;rw [h.some_iff]
theorem secs_own (t:TxV) (h:∀ c ∈ t.own,chgOk c=true):(recG t).length≤6+22 * t.own.length∧secs (recG t).length≤2+t.own.length:=by
  have h1:=(chgs_len t.own).2 h
  have h2:=recG_len t
  refine ⟨by omega,?_⟩
  unfold secs
  omega
theorem secs_ys:∀ ys:List RecG,(∀ y ∈ ys,recOk y)→(ys.map fun y=>secs (recB y).length).sum≤2 * ys.length+(ys.map fun y=>y.2.length).sum
  | [],_=>Nat.le_refl _
  | y::ys,h=>by
    have h1:=secs_ys ys fun z hz=>h z (by simp [hz])
    have h2:=(chgs_len y.2).2 (h y (by simp)).2
    have h3:(recB y).length=6+(y.2.flatMap chgB).length:=by
      simp only [recB,chgsB,List.length_append,numB_len];omega
    simp only [List.map_cons,List.sum_cons,List.length_cons]
    have h4:secs (recB y).length≤2+y.2.length:=by unfold secs;omega
    omega
theorem ownT_sum {ts:List TxV} {t:TxV} (ht:t ∈ ts):t.own.length≤(ts.map fun t=>t.own.length).sum:=by
  obtain ⟨A,B,rfl⟩:=List.append_of_mem ht
  simp
  omega
theorem RelG.fits (h:RelG i s ys m) (hi:i≤150) {t:TxV} (ht:t ∈ s.txs):fitsG s t:=by
  have h1:=secs_own t (h.sure.ok.own t ht)
  have h2:=ownT_sum ht
  have h3:=h.cnt
  have h4:=secs_ys ys fun y hy=>(h.sure.log.yok y hy).1
  have h5:=h.sure.log.hat
  have h6:=h.sure.log.len
  have h7:=h.ysn
  refine ⟨by omega,?_⟩
  rw [h6]
  omega
theorem setN_mem {l:List (ByteArray × UInt32)} (hn:(l.map (·.1)).Nodup) (k:ByteArray) (n:UInt32) (j:ByteArray) (v:UInt32):((j,v) ∈ setN l k n↔(j=k∧v=n)∨((j,v) ∈ l∧j≠k))∧((setN l k n).map (·.1)).Nodup:=by
  unfold setN
  cases hf:l.findIdx? (fun p=>decide (p.1=k)) with
  | none=>
    have hk:∀ y ∈ l,y.1≠k:=fun y hy=>by
      have:=List.findIdx?_eq_none_iff.1 hf y hy
      simpa using this
    refine ⟨?_,?_⟩
    · simp only [List.mem_append,List.mem_singleton,Prod.mk.injEq]
      constructor
      · rintro (h | h)
        · exact .inr ⟨h,hk _ h⟩
        · exact .inl h
      · rintro (h | h)
        · exact .inr h
        · exact .inl h.1
    · simp only [List.map_append,List.map_cons,List.map_nil]
      refine List.nodup_append.2 ⟨hn,by simp,?_⟩
      intro a ha b hb
      simp only [List.mem_singleton] at hb
      subst hb
      obtain ⟨y,hy,rfl⟩:=List.mem_map.1 ha
      exact hk y hy
  | some x=>
    obtain ⟨hi,hk,_⟩:=List.findIdx?_eq_some_iff_getElem.1 hf
    simp only [decide_eq_true_eq] at hk
    refine ⟨?_,?_⟩
    · constructor
      · intro h
        obtain ⟨p,hp,e⟩:=List.getElem_of_mem h
        rw [List.getElem_set] at e
        by_cases hpx:x=p
        · rw [if_pos hpx] at e
          simp only [Prod.mk.injEq] at e
          exact .inl ⟨e.1.symm,e.2.symm⟩
        · rw [if_neg hpx] at e
          right
          have hp':p < l.length:=by simpa using hp
          refine ⟨e ▸ List.getElem_mem hp',fun ej=>?_⟩
          have e1:(l.map (·.1))[p]'(by simpa using hp')=(l.map (·.1))[x]'(by simpa using hi):=by
            simp only [List.getElem_map];rw [e,hk];exact ej
          have hp2:=List.pairwise_iff_getElem.1 hn
          rcases Nat.lt_or_gt_of_ne hpx with h9 | h9
          · exact hp2 x p (by simpa using hi) (by simpa using hp') h9 e1.symm
          · exact hp2 p x (by simpa using hp') (by simpa using hi) h9 e1
      · rintro (⟨rfl,rfl⟩ | ⟨h,hne⟩)
        · exact List.mem_set hi _
        · obtain ⟨p,hp,e⟩:=List.getElem_of_mem h
          have hpx:x≠p:=fun e2=>by subst e2;rw [e] at hk;exact hne hk
          exact List.mem_iff_getElem.2 ⟨p,by simpa using hp,by rw [List.getElem_set_ne hpx,e]⟩
    · have e:(l.set x (k,n)).map (·.1)=l.map (·.1):=by
        rw [List.map_set]
        apply List.ext_getElem (by simp)
        intro p h1 h2
        rw [List.getElem_set]
        split
        · rename_i e;subst e;simp [hk]
        · rfl
      rw [e];exact hn
theorem kept_rel {l:List (ByteArray × UInt32)} {r:List RowM} (num:UInt32) (cs:List ChgM):∀ {l:List (ByteArray × UInt32)} {r:List RowM},(l.map (·.1)).Nodup→Rising r→(∀ k n,(k,n) ∈ l↔(⟨k,n⟩:RowM) ∈ r)→((keptG l num cs).map (·.1)).Nodup∧Rising (rKept r num cs)∧∀ k n,(k,n) ∈ keptG l num cs↔(⟨k,n⟩:RowM) ∈ rKept r num cs:=by
  induction cs with
  | nil=>intro l r h1 h2 h3;exact ⟨h1,h2,h3⟩
  | cons c cs ih=>
    intro l r h1 h2 h3
    obtain ⟨e1,e2,_⟩:=setR_spec h2 c.key num
    refine ih (l:=setN l c.key num) (r:=setR r c.key num) (setN_mem h1 c.key num c.key num).2 e1 fun k n=>?_
    rw [(setN_mem h1 c.key num k n).1,e2]
    simp only [RowM.mk.injEq,h3,ne_eq]
theorem RelG.com (h:RelG i s ys m) (hi:i≤150) (n:UInt32):comEg s n=rComE m n∧comNg s n=rComN m n∧∃ ys',RelG (i+1) (comG s n) ys' (rCom m n):=by
  cases hf:findT s.txs n with
  | none=>
    have hu:=h.noneT hf
    refine ⟨by simp [comEg,rComE,hf,hu],by simp [comNg,rComN,hf,hu],ys,?_⟩
    have e1:comG s n=s:=by simp [comG,hf]
    have e2:rCom m n=m:=by simp [rCom,hu]
    rw [e1,e2]
    exact h.step hi (h.sure.same (h.sure.ok.mono (Nat.le_succ i) (by omega)) rfl rfl rfl)
  | some t=>
    obtain ⟨u,hu,hid,hnum,hown⟩:=h.to hf
    have ht:=find_mem hf
    have hfit:=h.fits hi ht
    refine ⟨by simp [comEg,rComE,hf,hu,hfit],by simp [comNg,rComN,hf,hu,hfit,hnum],ys++[(t.num,t.own)],?_⟩
    have hg:=(h.sure.ok.com n).mono (Nat.le_succ i) (by omega)
    have hE:=h.ends_ hi n (h.sure.same ((h.sure.ok.ends n).mono (Nat.le_succ i) (by omega)) rfl rfl rfl)
    have hcom:comG s n={ endsG s n with d:=(addW s.d s.at_ (frame (recG t)) (secs (recG t).length)).sync,at_:=s.at_+secs (recG t).length,rows:=changeR s.rows t.own,nums:=keptG s.nums t.num t.own }:=by simp only [comG,hf,commG,if_pos hfit]
    have hrc:rCom m n={ rEnds m n with rows:=changeR m.rows t.own,nums:=rKept m.nums t.num t.own,kept:=if m.kept < t.num then t.num else m.kept }:=by simp only [rCom,hu,hown,hnum];rfl
    have hS:SureI (i+1) (comG s n) (ys++[(t.num,t.own)]):=by
      have hle:t.own.length≤4096:=by
        rcases Nat.lt_or_ge 4096 t.own.length with h5 | h5
        · exact absurd hfit (not_fits (by omega))
        · exact h5
      have hl:=h.sure.log.add (y:=(t.num,t.own)) ⟨hle,h.sure.ok.own t ht⟩ hfit.1 hfit.2
      refine ⟨hg,?_,?_,?_⟩
      · rw [hcom];exact hl
      · rw [hcom]
        show changeR s.rows t.own=_
        rw [h.sure.hrows,List.flatMap_append]
        simp [changeR]
      · have h1:=h.cnt
        have h2:=ownT_sum ht
        simp
        omega
    have hR:=(h.ref.com n).mono (Nat.le_succ i) (by omega)
    obtain ⟨k1,k2,k3⟩:=kept_rel (l:=[]) (r:=[]) t.num t.own h.numsk h.numsR h.nums
    have htn:=h.tnum t ht
    rw [hcom] at hS ⊢
    rw [hrc] at hR ⊢
    refine ⟨hS,?_,?_,hR,?_,hE.last,hE.lastn,?_,?_,hE.tnum,hE.txs,k2,k3,k1,?_,hE.looks1,hE.looks2⟩
    · have h1:=h.cnt
      obtain ⟨e0,A,B,e1,e2,_⟩:=find_mid hf
      rw [e1] at h1
      show _+((delT s.txs n).map _).sum≤_
      rw [e2]
      simp only [List.map_append,List.sum_append,List.map_cons,List.map_nil,List.sum_cons,List.sum_nil] at h1 ⊢
      omega
    · have:=h.ysn
      simp
      exact this
    · show changeR m.rows t.own=changeR s.rows t.own
      rw [h.rows]
    · show (if m.kept < t.num then t.num else m.kept)=_
      rw [maxY_snoc,h.kept]
    · show (if m.kept < t.num then t.num else m.kept)≤s.last
      split
      · exact htn
      · exact h.keptle
    · show keptG s.nums t.num t.own=_
      rw [numY_snoc,h.numsY]
inductive DoRel (i:Nat) (ys:List RecG) (m:RefV) (s:GamV) (x:OpM):DoR→RDo→Prop
  | err {s':GamV} {m':RefV} {e:Nat}:RelG (i+1) s' ys m'→DoRel i ys m s x (.err s' e) (.err m' e)
  | put {t:TxV} {u:TxU UInt32 RtD} {c:ChgM}:(∀ sv sv',RelG (i+1) (putG s t.id c sv) ys (rPut m u c sv'))→DoRel i ys m s x (.put t c) (.put u c)
  | look {t:TxV} {u:TxU UInt32 RtD}:u.x.own=t.own→(∀ sv',RelG (i+1) (lookG s t (spanOf x)) ys (rLook m u (spanOf x) sv'))→DoRel i ys m s x (.look t) (.look u)
theorem RelG.aborts (h:RelG i s ys m) {t:TxV} {u:TxU UInt32 RtD} (ht:t ∈ s.txs) (hid:u.id=t.id) (hnum:u.x.num=t.num) (p:SpanM) (w:Bool):rAborts m u p w=lateG s t p w:=by
  unfold rAborts lateG
  rw [hnum,hid,h.late,h.looked ht,h.oth]
  cases w
  · simp
  · simp only [Bool.true_and]
    rw [Bool.or_assoc]
    congr 1
    exact Bool.or_comm _ _
theorem findT_put {ts:List TxV} {n:UInt32} {c:ChgM} {sv:SV} (k:UInt32):findT (putT ts n c sv) k=(findT ts k).map fun o=>if o.id=n then { o with own:=o.own++[c],sv:=sv } else o:=by
  unfold findT putT
  rw [List.find?_map]
  congr 1
  congr 1
  funext t
  simp only [Function.comp]
  split <;> rfl
theorem RelG.set_txs (h:RelG i s ys m) {n:UInt32} {t:TxV} {u:TxU UInt32 RtD} (hf:findT s.txs n=some t) (hu:findU m.txs n=some u) (hnum:u.x.num=t.num) (hown:u.x.own=t.own) (cs:List ChgM) (ts:List TxV) (sv':SV) (hts:∀ k,(findT ts k).map (fun o=>(o.num,o.own))=(findT s.txs k).map fun o=>(o.num,if o.id=t.id then o.own++cs else o.own)) :
    ∀ k,(findU (setU m.txs u.id ⟨u.x.num,u.x.own++cs,sv'⟩) k).map (fun t=>(t.x.num,t.x.own))=(findT ts k).map (fun t=>(t.num,t.own)):=by
  intro k
  have hid:=findT_id hf
  have hid2:=(findU_mid hu).1
  rw [hts k,setU_find]
  by_cases hk:k=n
  · subst hk
    rw [hu,hf]
    simp [hid,hid2,hnum,hown]
  · have h1:=h.txs k
    cases hfu:findU m.txs k with
    | none=>
      rw [hfu] at h1
      cases hft:findT s.txs k with
      | none=>rfl
      | some o=>rw [hft] at h1;cases h1
    | some v=>
      rw [hfu] at h1
      cases hft:findT s.txs k with
      | none=>rw [hft] at h1;cases h1
      | some o=>
        rw [hft] at h1
        have e1:=findT_id hft
        have e2:=(findU_mid hfu).1
        simp only [Option.map_some,Option.some.injEq,Prod.mk.injEq] at h1 ⊢
        rw [if_neg (by rw [e2,hid2];exact hk),if_neg (by rw [e1,hid];exact hk)]
        exact h1
theorem RelG.does (h:RelG i s ys m) (hi:i≤150) (n:UInt32) (x:OpM):DoRel i ys m s x (doG s n x) (rDo m n x):=by
  by_cases hx:opOk x=true
  · cases hf:findT s.txs n with
    | none=>
      have hd:doG s n x=.err s 6:=by simp [doG,hx,hf]
      have hr:rDo m n x=.err m 6:=by simp [rDo,hx,h.noneT hf]
      rw [hd,hr]
      exact .err (h.step hi (h.sure.err hi hd))
    | some t=>
      obtain ⟨u,hu,hid,hnum,hown⟩:=h.to hf
      have ht:=find_mem hf
      have htid:=findT_id hf
      have hut:=findU_mem hu
      have hab:=h.aborts ht (hid.trans htid.symm) hnum (spanOf x) (writes x)
      have hw:rWaits m u (spanOf x)=(underL s.txs t.id (spanOf x)).any (fun m=>decide (m < t.num)):=by
        unfold rWaits
        rw [h.oth,hid,← htid,hnum]
      by_cases ha:lateG s t (spanOf x) (writes x)=true
      · have hd:doG s n x=.err (endsG s n) 9:=by rw [doG,if_pos hx,hf];dsimp only;rw [if_pos ha]
        have hr:rDo m n x=.err (rEnds m n) 9:=by rw [rDo,if_pos hx,hu];dsimp only;rw [hab,if_pos ha]
        rw [hd,hr]
        exact .err (h.ends_ hi n (h.sure.err hi hd))
      · by_cases hwt:(underL s.txs t.id (spanOf x)).any (fun m=>decide (m < t.num))=true
        · have hd:doG s n x=.err s 8:=by rw [doG,if_pos hx,hf];dsimp only;rw [if_neg ha,if_pos hwt]
          have hr:rDo m n x=.err m 8:=by rw [rDo,if_pos hx,hu];dsimp only;rw [hab,if_neg ha,hw,if_pos hwt]
          rw [hd,hr]
          exact .err (h.step hi (h.sure.err hi hd))
        · by_cases hwr:writes x=true
          · have hd:doG s n x=.put t (chgOf x):=by rw [doG,if_pos hx,hf];dsimp only;rw [if_neg ha,if_neg hwt,if_pos hwr]
            have hr:rDo m n x=.put u (chgOf x):=by rw [rDo,if_pos hx,hu];dsimp only;rw [hab,if_neg ha,hw,if_neg hwt,if_pos hwr]
            rw [hd,hr]
            refine .put fun sv sv'=>?_
            have hc:(chgOf x).key.size≤1000:=by
              have:=(opOk_sz hx).1
              unfold chgOf
              split <;> exact this
            have hR:=h.ref.set hut [] [chgOf x] sv' (by omega) (by simp) (by simp) (by simp) (by simpa using hc)
            have e2:rPut m u (chgOf x) sv'={ m with looks:=m.looks++[],txs:=setU m.txs u.id ⟨u.x.num,u.x.own++[chgOf x],sv'⟩ }:=by simp [rPut]
            rw [← e2] at hR
            obtain ⟨_,A,B,e3,_,_⟩:=find_mid hf
            have hnd:=h.sure.ok.ids
            have hpm:putT s.txs t.id (chgOf x) sv=A++{ t with own:=t.own++[chgOf x],sv:=sv }::B:=by rw [e3];exact putT_mid (e3 ▸ hnd) _ _
            refine ⟨h.sure.put hi hd sv,?_,by have:=h.ysn;omega,hR,h.rows,h.last,by have:=h.lastn;show s.last.toNat≤_;omega,h.kept,h.keptle,?_,?_,h.numsR,h.nums,h.numsk,h.numsY,h.looks1,?_⟩
            · have h1:=h.cnt
              show _+((putT s.txs t.id (chgOf x) sv).map _).sum≤_
              rw [hpm]
              rw [e3] at h1
              simp only [List.map_append,List.sum_append,List.map_cons,List.map_nil,List.sum_cons,List.sum_nil,List.length_append,List.length_cons,List.length_nil] at h1 ⊢
              omega
            · intro o ho
              obtain ⟨o',ho',rfl⟩:=List.mem_map.1 ho
              have:=h.tnum o' ho'
              split <;> exact this
            · refine h.set_txs hf hu hnum hown [chgOf x] _ sv' fun k=>?_
              show (findT (putT s.txs t.id (chgOf x) sv) k).map _=_
              rw [findT_put]
              cases findT s.txs k with
              | none=>rfl
              | some o=>simp only [Option.map_some];split <;> rfl
            · intro y hy
              obtain ⟨h1,h2⟩:=h.looks2 y hy
              refine ⟨h1,h2.imp id fun h2 o ho=>?_⟩
              obtain ⟨o',ho',rfl⟩:=List.mem_map.1 ho
              have:=h2 o' ho'
              split <;> exact this
          · have hd:doG s n x=.look t:=by rw [doG,if_pos hx,hf];dsimp only;rw [if_neg ha,if_neg hwt,if_neg hwr]
            have hr:rDo m n x=.look u:=by rw [rDo,if_pos hx,hu];dsimp only;rw [hab,if_neg ha,hw,if_neg hwt,if_neg hwr]
            rw [hd,hr]
            refine .look hown fun sv'=>?_
            have hR:=h.ref.set hut [(spanOf x,u.x.num)] [] sv' (by omega) (by simp) (by simpa using opOk_sz hx) (by simp) (by simp)
            rw [List.append_nil] at hR
            refine ⟨h.sure.look hi t _,by have:=h.cnt;show _+(s.txs.map _).sum≤_;omega,by have:=h.ysn;omega,hR,h.rows,h.last,by have:=h.lastn;show s.last.toNat≤_;omega,h.kept,h.keptle,h.tnum,?_,h.numsR,h.nums,h.numsk,h.numsY,?_,?_⟩
            · have:=h.set_txs hf hu hnum hown [] s.txs sv' fun k=>by
                cases findT s.txs k with
                | none=>rfl
                | some o=>simp
              rw [List.append_nil] at this
              exact this
            · intro y hy
              rcases List.mem_append.1 hy with hy | hy
              · exact List.mem_append_left _ (h.looks1 y hy)
              · simp only [List.mem_singleton] at hy
                subst hy
                exact List.mem_append_right _ (by simp [hnum])
            · intro y hy
              rcases List.mem_append.1 hy with hy | hy
              · obtain ⟨h1,h2⟩:=h.looks2 y hy
                exact ⟨h1,h2.imp (fun h2=>List.mem_append_left _ h2) id⟩
              · simp only [List.mem_singleton] at hy
                subst hy
                exact ⟨by show u.x.num≤s.last;rw [hnum];exact h.tnum t ht,.inl (List.mem_append_right _ (by simp [hnum]))⟩
  · have hd:doG s n x=.err s 1:=by rw [doG,if_neg hx]
    have hr:rDo m n x=.err m 1:=by rw [rDo,if_neg hx]
    rw [hd,hr]
    exact .err (h.step hi (h.sure.err hi hd))
theorem RelG.again (h:RelG i s ys m) (hi:i≤150):RelG (i+1) (reAll (⟨s.d,s.at_,[],[],0,[],[]⟩:GamV) ys) ys (rAgain m):=by
  obtain ⟨h1,h2,h3,h4⟩:=reAll_rows ys (⟨s.d,s.at_,[],[],0,[],[]⟩:GamV)
  obtain ⟨h5,h6,h7⟩:=reAll_more ys (⟨s.d,s.at_,[],[],0,[],[]⟩:GamV)
  generalize reAll (⟨s.d,s.at_,[],[],0,[],[]⟩:GamV) ys=s2 at *
  simp only at h1 h2 h3 h4 h5 h6 h7
  have hrows:s2.rows=s.rows:=by rw [h1,h.sure.hrows]
  have hok:=h.sure.ok
  have hrl:=hok.sum
  have hlast:s2.last=m.kept:=by rw [h5,h.kept];rfl
  have hnums:s2.nums=s.nums:=by rw [h6,h.numsY];rfl
  have hg:GamOk s2 (i+1):=⟨by rw [h2];exact hok.dok,by rw [h2,h3];exact hok.hat,by rw [h2];exact hok.waits,by rw [hrows];exact hok.rising,by rw [h4,hrows];simp;omega,by rw [h7];exact Nat.zero_le _,by rw [h4];exact List.nodup_nil,by rw [h4];simp,by omega⟩
  refine ⟨⟨hg,by rw [h2,h3];exact h.sure.log,by rw [hrows];exact h.sure.hrows,by have:=h.sure.sum;omega⟩,?_,by have:=h.ysn;omega,(h.ref.again).mono (Nat.le_succ i) (by omega),?_,hlast.symm,?_,h.kept,?_,by rw [h4];simp,fun n=>by rw [h4];rfl,h.numsR,?_,?_,?_,by rw [h7];simp,by simp [rAgain]⟩
  · have:=h.cnt
    rw [h4]
    simp
    omega
  · rw [hrows];exact h.rows
  · have h1:=h.keptle
    have h2:=h.lastn
    rw [UInt32.le_iff_toNat_le] at h1
    rw [hlast]
    omega
  · show m.kept≤s2.last
    rw [hlast]
    exact UInt32.le_refl _
  · rw [hnums];exact h.nums
  · rw [hnums];exact h.numsk
  · rw [hnums];exact h.numsY
end
end Go.SL
namespace Go.SL.Fc
open Go Go.Proofs Go.SL
theorem a52:aggOf Tryz.prog 52=some none:=by kernel_rfl
theorem a54:aggOf Tryz.prog 54=some (some 8):=by kernel_rfl
theorem f54_0:fldOf Tryz.prog 54 0=some 0:=by kernel_rfl
theorem f54_1:fldOf Tryz.prog 54 1=some 1:=by kernel_rfl
theorem f54_2:fldOf Tryz.prog 54 2=some 2:=by kernel_rfl
theorem f54_3:fldOf Tryz.prog 54 3=some 6:=by kernel_rfl
theorem f54_4:fldOf Tryz.prog 54 4=some 7:=by kernel_rfl
theorem k10:callable Tryz.prog 10=true:=by kernel_rfl
theorem k12:callable Tryz.prog 12=true:=by kernel_rfl
theorem k14:callable Tryz.prog 14=true:=by kernel_rfl
theorem k15:callable Tryz.prog 15=true:=by kernel_rfl
theorem k16:callable Tryz.prog 16=true:=by kernel_rfl
theorem k18:callable Tryz.prog 18=true:=by kernel_rfl
theorem k19:callable Tryz.prog 19=true:=by kernel_rfl
theorem k20:callable Tryz.prog 20=true:=by kernel_rfl
theorem k21:callable Tryz.prog 21=true:=by kernel_rfl
theorem k22:callable Tryz.prog 22=true:=by kernel_rfl
theorem k24:callable Tryz.prog 24=true:=by kernel_rfl
theorem k25:callable Tryz.prog 25=true:=by kernel_rfl
theorem k26:callable Tryz.prog 26=true:=by kernel_rfl
theorem k28:callable Tryz.prog 28=true:=by kernel_rfl
theorem k29:callable Tryz.prog 29=true:=by kernel_rfl
theorem k4:callable Tryz.prog 4=true:=by kernel_rfl
theorem k5:callable Tryz.prog 5=true:=by kernel_rfl
theorem k8:callable Tryz.prog 8=true:=by kernel_rfl
theorem s54:szOf Tryz.prog 54=some 8:=by kernel_rfl
theorem sl22:slOf Tryz.prog 22=some (54,8,72):=by kernel_rfl
theorem z47:zeroOf Tryz.prog 47=some [.int .i64 0,.slice none 0 0,.slice none 0 0,.slice none 0 0,.slice none 0 0,.slice none 0 0,.slice none 0 0,.slice none 0 0,.slice none 0 0,.slice none 0 0,.slice none 0 0,.slice none 0 0,.slice none 0 0]:=by kernel_rfl
theorem z54:zeroOf Tryz.prog 54=some [.int .u8 0,.int .u32 0,.int .u8 0,.string .empty,.string .empty,.int .u32 0,.int .u64 0,.int .i64 0]:=by kernel_rfl
end Go.SL.Fc
namespace Go.SL
open Go Go.Proofs Fc
theorem great3_spec {g:World} {A:HP} {u:Value} {xs:List ActM} (hA:RL A 8 ActM.c u xs):Spec Tryz.prog g 4 [u] [A] fun K R=>K (.bool (decide (150 < xs.length))) (A::R):=by
 refine Spec.intro Tryz.func4 rfl Tryz.ntmps4 rfl fun R K hK=>?_
 refine WP.seq<|WP.reg<|WL.e e_assign<|WL.next<|WP.seq<|WP.reg<|WL.e e_move<|WL.e (el_len sl22 hA)<|WL.e e_gtr<|WL.e e_assign<|WL.next<|WP.ret ?_
 exact PO.finE Tryz.results4 (rv_tmp rv_nil) (by simp;omega) hK
set_option maxHeartbeats 16000000 in
theorem Play_spec {g:World} {A:HP} {u:Value} {xs:List ActM} (hA:RL A 8 ActM.c u xs) (hT:Tab Tryz.prog A) (hbig:∀ x ∈ xs,x.op.key.size≤9223372036854775807∧x.op.to.size≤9223372036854775807):Spec Tryz.prog g 3 [u] [A] fun K R=>K (.bool true) (A::R):=by
 refine Spec.intro Tryz.func3 rfl Tryz.ntmps3 rfl fun R K hK=>?_
 refine WP.seq<|WP.reg<|WL.e e_assign<|WL.next<|WP.seq<|WP.seq<|WP.reg<|WL.e e_move ?_
 refine WL.h (h_call (great3_spec hA) k4 ?_)
 refine WL.next ?_
 refine WP.cond rfl (fun h0=>?_) (fun h0=>?_)
 ·skip
  refine WP.seq<|WP.reg ?_
  refine WL.h (h_call (lives_spec) k5 ?_)
  refine WL.e e_assign<|WL.next<|WP.ret<|PO.past nofun ?_
  exact PO.finE Tryz.results3 (rv_tmp rv_nil) rfl hK
 ·replace h0:xs.length≤150:=by simp at h0;omega
  refine WP.skip<|PO.next<|WP.seq<|WP.reg ?_
  refine WL.h (h_call (New_spec 4096 (by decide)) k6 ?_)
  refine ⟨fun h=>absurd h (by omega),fun _ _ dp=>?_⟩
  refine WL.e e_move<|WL.e e_extract<|WL.e e_extract<|WL.e e_assign<|WL.e e_assign<|WL.next<|WP.seq<|WP.reg<|WL.e e_move ?_
  refine WL.h (h_call (New0_spec (d:=newDisk 4096) newDisk_quiet.ok (by rw [newDisk_quiet.waits];simp) (by rw [new_flat];exact recs_zero _ (by decide)) (by rw [newDisk_quiet.len];exact new_clean)) k7 ?_)
  intro p
  refine WL.e e_move<|WL.e e_extract<|WL.e e_extract<|WL.e e_assign<|WL.e e_assign<|WL.next<|WP.seq<|WP.reg ?_
  refine WL.h (h_call (rNew_spec) k8 ?_)
  intro mp
  refine WL.e e_assign<|WL.next<|WP.seq<|WP.seq<|WP.reg<|WL.e e_move<|WL.e e_neq<|WL.next<|WP.cond_f rfl<|WP.skip<|PO.next<|WP.seq<|WP.reg ?_
  refine WL.h (h_alloc z47 fun b1=>?_)
  refine WL.next<|WP.seq<|WP.seq<|WP.reg<|WL.e e_assign<|WL.next<|WP.block<|WP.nils 195 3 (hdC (α:=UInt32)) none ?_
  refine WP.conv (M:=Mb (Hd0 48 1 u32C) []::_) (fun _=>Mb_nil) ?_
  refine WP.nils 193 3 (hdC (α:=RowM)) none ?_
  refine WP.conv (M:=Mb (Hd0 78 2 RowM.c) []::_) (fun _=>Mb_nil) ?_
  refine WP.cls (A:=Bk b1 ⟨0,[],[]⟩) (B:=[cl b1 47 [.int .i64 0,.slice none 0 0,.slice none 0 0,.slice none 0 0,.slice none 0 0,.slice none 0 0,.slice none 0 0,.slice none 0 0,.slice none 0 0,.slice none 0 0,.slice none 0 0,.slice none 0 0,.slice none 0 0],Sl 195 3 (hdC (α:=UInt32)) (.slice none 0 0) [],Mb (Hd0 48 1 u32C) [],Sl 193 3 (hdC (α:=RowM)) (.slice none 0 0) [],Mb (Hd0 78 2 RowM.c) []]) (fun S h=>⟨(⟨none,0,0⟩,⟨none,0,0⟩),h⟩) ?_
  refine WP.loopK (fun (y:Nat × Nat × Nat × Nat × GamV × List RecG × RefV × BookV)=>[(9,.int .i64 y.1),(3,.pointer (some ⟨y.2.1,0,none⟩)),(5,.pointer (some ⟨y.2.2.1,0,none⟩)),(7,.pointer (some ⟨y.2.2.2.1,0,none⟩))]) (fun (y:Nat × Nat × Nat × Nat × GamV × List RecG × RefV × BookV)=>Gs y.2.2.1 y.2.1 (y.2.2.2.2.1)::Txs (y.2.2.2.2.1).txs::Rf y.2.2.2.1 (y.2.2.2.2.2.2.1)::Bk b1 (y.2.2.2.2.2.2.2)::A::R) [(0,_),(8,_)] (fun (y:Nat × Nat × Nat × Nat × GamV × List RecG × RefV × BookV)=>y.1≤xs.length∧RelG y.1 y.2.2.2.2.1 y.2.2.2.2.2.1 y.2.2.2.2.2.2.1∧BkOk y.2.2.2.2.2.2.2 (3 * y.1)) (fun (y:Nat × Nat × Nat × Nat × GamV × List RecG × RefV × BookV)=>xs.length - y.1) (0,dp,p,mp,gam0 (newDisk 4096).sync,[],ref0,⟨0,[],[]⟩) (⟨Nat.zero_le _,RelG.first,BkOk.zero⟩) ?_
  rintro ⟨i,dp,p,mp,s,ys,m,bk⟩ ⟨hi,hR,hB⟩
  simp only at hi hR hB
  dsimp only
  refine WP.seq<|WP.seq<|WP.reg<|WL.e e_move<|WL.e e_move<|WL.e (el_len sl22 hA)<|WL.e e_lss<|WL.next ?_
  refine WP.cond rfl (fun h1=>?_) (fun h1=>?_)
  ·have hlt:i < xs.length:=by rw [decide_eq_true_eq] at h1;omega
   obtain ⟨x,hx⟩:∃ x,xs[i]?=some x:=⟨_,List.getElem?_eq_getElem hlt⟩
   refine WP.skip<|PO.next<|WP.seq<|WP.block<|WP.seq<|WP.reg<|WL.e e_move<|WL.e e_move<|WL.e (el_ia (j:=i) sl22 hA hlt)<|WL.e (el_loadN (a:=x) a54 actE hA hx) ?_
   refine WL.h (h_alloc z54 fun b2=>?_)
   refine WL.h' (h_store s54 ?_)
   refine WL.next ?_
   refine WP.cutR (fun (y:Nat × Nat × Nat × GamV × List RecG × RefV × BookV)=>[(3,.pointer (some ⟨y.1,0,none⟩)),(5,.pointer (some ⟨y.2.1,0,none⟩)),(7,.pointer (some ⟨y.2.2.1,0,none⟩))]) (fun (y:Nat × Nat × Nat × GamV × List RecG × RefV × BookV)=>Gs y.2.1 y.1 (y.2.2.2.1)::Txs (y.2.2.2.1).txs::Rf y.2.2.1 (y.2.2.2.2.2.1)::Bk b1 (y.2.2.2.2.2.2)::A::R) [(0,_),(8,_),(9,_),(10,_),(38,_),(39,_),(40,_),(41,_),(44,_),(45,_),(46,_),(47,_)] (fun (y:Nat × Nat × Nat × GamV × List RecG × RefV × BookV)=>RelG (i+1) y.2.2.2.1 y.2.2.2.2.1 y.2.2.2.2.2.1∧BkOk y.2.2.2.2.2.2 (3 * i+1)) ?_ ?_
   ·skip
    refine WP.seq<|WP.reg<|WL.e (e_fa f54_0)<|WL.e (e_load a5)<|WL.e (e_rem (c:=((x.kind.toNat % 12:Nat):Int)) rfl rfl (by decide) (by rw [Int.tmod_eq_emod_of_nonneg (by omega)];omega))<|WL.next<|WP.block<|WP.seq<|WP.reg<|WL.e e_eql<|WL.e e_assign<|WL.next ?_
    refine WP.cond rfl (fun c0=>?_) (fun c0=>?_)
    ·skip
     refine WP.seq<|WP.draws mixedOk 9<|RW.e 0 rfl e_move<|RW.e 1 rfl (e_fa f54_1)<|RW.e 2 rfl (e_load a48)<|RW.e 4 rfl e_move<|RW.e 5 rfl (e_fa f54_1)<|RW.e 6 rfl (e_load a48) ?_
     refine RW.any (is:=[3]) rfl ⟨?_,trivial⟩
     refine RWat.h rfl rfl rfl ?_
     refine (h_call (Begin_spec (s:=s) x.tx) k9 ?_)
     intro q
     refine ⟨⟨⟨_,rfl,.inl ⟨rfl,(e_load a48)⟩⟩,⟨_,rfl,.inl ⟨rfl,(e_fa f54_1)⟩⟩,⟨_,rfl,.inl ⟨rfl,e_move⟩⟩,trivial⟩,?_⟩
     refine RW.any (is:=[7]) rfl ⟨?_,trivial⟩
     refine RWat.h rfl rfl rfl ?_
     refine (h_call (rBegin_spec (s:=m) x.tx hR.ref) k10 ?_)
     intro q2
     refine ⟨trivial,?_⟩
     refine RW.e 8 rfl e_neq<|RW.done<|PO.next ?_
     refine WP.cond rfl (fun c1=>?_) (fun c1=>?_)
     ·rw [hR.begE] at c1;simp at c1
     ·skip
      refine WP.skip<|PO.blockN ?_
      exact PO.meetK (dp,p,mp,begG s x.tx q,ys,rBeg m x.tx q2,bk) ⟨hR.beg (by omega) x.tx q q2,hB.mono (by omega)⟩
    ·skip
     refine WP.cutL (fun (q:Bool)=>[(91,.bool q)]) (fun (q:Bool)=>Gs p dp (s)::Txs (s).txs::Rf mp (m)::Bk b1 (bk)::cl b2 54 (ActM.c x)::A::R) (fun (q:Bool)=>True) ?_ ?_
     ·skip
      refine WP.seq<|WP.reg<|WL.e e_eql<|WL.e e_assign<|WL.next ?_
      refine WP.cond rfl (fun c8=>?_) (fun c8=>?_)
      ·skip
       refine WP.skip ?_
       exact PO.meetK _ trivial
      ·skip
       refine WP.reg<|WL.e e_eql<|WL.e e_assign<|WL.nil ?_
       exact PO.meetK _ trivial
     ·intro q _
      refine WP.cond rfl (fun c9=>?_) (fun c9=>?_)
      ·skip
       refine WP.seq<|WP.reg<|WL.e e_move<|WL.e (e_fa f54_1)<|WL.e (e_load a48) ?_
       refine WL.h (h_call (Commit_spec (s:=s) x.tx hR.sure.ok) k11 ?_)
       obtain ⟨hc1,hc2,ys2,hR2⟩:=hR.com (by omega) x.tx
       rw [hc1,hc2]
       refine WL.e e_move<|WL.e e_extract<|WL.e e_extract<|WL.e e_assign<|WL.e e_assign<|WL.next<|WP.seq<|WP.reg<|WL.e e_move<|WL.e (e_fa f54_1)<|WL.e (e_load a48) ?_
       refine WL.h (h_call (rCommit_spec (s:=m) x.tx hR.ref) k12 ?_)
       refine WL.e e_move<|WL.e e_extract<|WL.e e_extract<|WL.e e_assign<|WL.e e_assign<|WL.next<|WP.seq<|WP.reg<|WL.e e_move<|WL.e e_move<|WL.e (e_neq32)<|WL.e e_move ?_
       refine WL.bool 111 rfl (fun e1=>?_) (fun e1=>?_)
       ·simp at e1 
       ·skip
        refine WL.e e_move<|WL.e e_move<|WL.e e_neq<|WL.e e_pick_f<|WL.next ?_
        refine WP.cond rfl (fun c2=>?_) (fun c2=>?_)
        ·simp at c2
        ·skip
         refine WP.skip<|PO.blockN ?_
         exact PO.meetK (dp,p,mp,comG s x.tx,ys2,rCom m x.tx,bk) ⟨hR2,hB.mono (by omega)⟩
      ·skip
       refine WP.seq<|WP.reg<|WL.e e_eql<|WL.e e_assign<|WL.next ?_
       refine WP.cond rfl (fun c10=>?_) (fun c10=>?_)
       ·skip
        refine WP.seq<|WP.draws mixedOk 9<|RW.e 0 rfl e_move<|RW.e 1 rfl (e_fa f54_1)<|RW.e 2 rfl (e_load a48)<|RW.e 4 rfl e_move<|RW.e 5 rfl (e_fa f54_1)<|RW.e 6 rfl (e_load a48) ?_
        refine RW.any (is:=[3]) rfl ⟨?_,trivial⟩
        refine RWat.h rfl rfl rfl ?_
        refine (h_call (Abort_spec (s:=s) x.tx hR.sure.ok) k13 ?_)
        refine ⟨⟨⟨_,rfl,.inl ⟨rfl,(e_load a48)⟩⟩,⟨_,rfl,.inl ⟨rfl,(e_fa f54_1)⟩⟩,⟨_,rfl,.inl ⟨rfl,e_move⟩⟩,trivial⟩,?_⟩
        refine RW.any (is:=[7]) rfl ⟨?_,trivial⟩
        refine RWat.h rfl rfl rfl ?_
        refine (h_call (rAbort_spec (s:=m) x.tx hR.ref) k14 ?_)
        refine ⟨trivial,?_⟩
        refine RW.e 8 rfl e_neq<|RW.done<|PO.next ?_
        refine WP.cond rfl (fun c3=>?_) (fun c3=>?_)
        ·rw [← hR.aboE x.tx] at c3
         by_cases hb:(findU m.txs x.tx).isSome=true <;> simp [hb] at c3
        ·skip
         refine WP.skip<|PO.blockN ?_
         exact PO.meetK (dp,p,mp,aboG s x.tx,ys,rAbo m x.tx,bk) ⟨hR.abo (by omega) x.tx,hB.mono (by omega)⟩
       ·skip
        refine WP.seq<|WP.reg<|WL.e e_eql<|WL.e e_assign<|WL.next ?_
        refine WP.cond rfl (fun c11=>?_) (fun c11=>?_)
        ·refine WP.opn (Gs_op (p:=p) (dp:=dp) (s:=s)) fun z=>?_
         obtain ⟨lp,mp2,nm,lm,sv⟩:=z
         dsimp only
         have hrec:=hR.sure.log.recs
         refine WP.seq<|WP.reg<|WL.e e_move<|WL.e (e_fa f54_3)<|WL.e (e_load a52)<|WL.e (e_fa f54_4)<|WL.e (e_load a3)<|WL.e e_maxI ?_
         refine WL.h (h_call (Fail_spec (p:=dp) (d:=s.d) x.keep (if x.torn > -1 then x.torn else -1) (by split <;> omega) hR.sure.log.ok hR.sure.log.waits) k15 ?_)
         intro q
         rw [hR.sure.log.fail]
         refine WL.e e_move<|WL.e e_extract<|WL.e e_extract<|WL.e e_assign<|WL.e e_assign<|WL.next<|WP.seq<|WP.seq<|WP.reg<|WL.e e_move<|WL.e e_neq<|WL.next<|WP.cond_f rfl<|WP.skip<|PO.next<|WP.seq<|WP.reg<|WL.e e_move<|WL.e e_assign<|WL.next<|WP.seq<|WP.reg<|WL.e e_move ?_
         refine WL.h (h_call (NewR_spec (dp:=q) (d:=s.d) ys s.at_ hR.sure.log.ok (by rw [hR.sure.log.waits];simp) hrec.1 hrec.2.1 (fun y hy=>(hR.sure.log.yok y hy).1) (by have:=hR.sure.sum;omega) hrec.2.2) k7 ?_)
         intro p2
         rw [hR.sure.log.sync]
         refine WL.e e_move<|WL.e e_extract<|WL.e e_extract<|WL.e e_assign<|WL.e e_assign<|WL.next<|WP.seq<|WP.reg<|WL.e e_move ?_
         refine WL.h (h_call (rAgain_spec (s:=m)) k16 ?_)
         intro mp3
         refine WL.e e_assign<|WL.next<|WP.seq<|WP.reg<|WL.e e_move<|WL.e e_neq<|WL.next<|WP.cond_f rfl<|WP.skip<|PO.blockN ?_
         rw [show Txs []=Txs (reAll (⟨s.d,s.at_,[],[],0,[],[]⟩:GamV) ys).txs by rw [(reAll_rows ys (⟨s.d,s.at_,[],[],0,[],[]⟩:GamV)).2.2.2]]
         exact PO.meetK (q,p2,mp3,reAll (⟨s.d,s.at_,[],[],0,[],[]⟩:GamV) ys,ys,rAgain m,bk) ⟨hR.again (by omega),hB.mono (by omega)⟩
        ·skip
         refine WP.seq<|WP.reg<|WL.e e_move<|WL.e (e_fa f54_1)<|WL.e (e_load a48)<|WL.e (e_fa f54_2)<|WL.e (e_loadN a51) ?_
         refine WL.h (h_call (Do_spec (s:=s) x.tx x.op hR.sure.ok) k17 ?_)
         have hD:=hR.does (by omega) x.tx x.op
         generalize hd2:rDo m x.tx x.op=d2 at hD
         generalize doG s x.tx x.op=d1 at hD ⊢
         cases hD
         ·rename_i s9 m9 e9 hR9
          dsimp only
          refine WL.e e_move<|WL.e e_extract<|WL.e e_extract ?_
          refine WL.h (h_alloc z61 fun b3=>?_)
          refine WL.h' (h_store s61 ?_)
          refine WL.e e_assign<|WL.next<|WP.seq<|WP.reg<|WL.e e_move<|WL.e (e_fa f54_1)<|WL.e (e_load a48)<|WL.e (e_fa f54_2)<|WL.e (e_loadN a51) ?_
          refine WL.h (h_call (rDo_spec (s:=m) x.tx x.op hR.ref (by rw [hR.rows];exact hR.sure.ok.rising) (hbig x (List.mem_of_getElem? hx)).1 (hbig x (List.mem_of_getElem? hx)).2) k18 ?_)
          rw [hd2]
          dsimp only
          refine WL.e e_move<|WL.e e_extract<|WL.e e_extract ?_
          refine WL.h (h_alloc z61 fun b4=>?_)
          refine WL.h' (h_store s61 ?_)
          refine WL.e e_assign<|WL.next<|WP.seq<|WP.seq<|WP.reg<|WL.e e_move<|WL.e e_move<|WL.e e_neq<|WL.e e_move ?_
          refine WL.bool 72 rfl (fun e1=>?_) (fun e1=>?_)
          ·simp at e1 
          ·skip
           refine WL.e (e_loadN a61)<|WL.e (e_loadN a61) ?_
           refine WL.h (h_call (SameResult_spec (u:=⟨none,0,0⟩) (v:=⟨none,0,0⟩) (xs:=[]) (ys:=[]) (A:=Rf mp m9) (B:=Bk b1 bk) nil_rl nil_rl (by simp)) k19 ?_)
           rw [decide_eq_true rfl]
           refine WL.e e_not<|WL.e e_pick_f<|WL.next ?_
           refine WP.cond rfl (fun y5=>?_) (fun y5=>?_)
           ·simp at y5
           ·skip
            refine WP.skip<|PO.next<|WP.reg<|WL.e (e_loadN a61)<|WL.nils 78 2 RowM.c none ?_
            refine WL.h (h_call (bResult_spec hB (by omega)) k20 ?_)
            refine WL.nil<|PO.blockN ?_
            exact PO.meetK (dp,p,mp,s9,ys,m9,keepR bk ⟨none,0,0⟩ []) ⟨hR9,hB.row (by omega) _ _ (by simp)⟩
         ·rename_i t9 u9 c9 hR9
          dsimp only
          intro sv7
          refine WL.e e_move<|WL.e e_extract<|WL.e e_extract ?_
          refine WL.h (h_alloc z61 fun b5=>?_)
          refine WL.h' (h_store s61 ?_)
          refine WL.e e_assign<|WL.next<|WP.seq<|WP.reg<|WL.e e_move<|WL.e (e_fa f54_1)<|WL.e (e_load a48)<|WL.e (e_fa f54_2)<|WL.e (e_loadN a51) ?_
          refine WL.h (h_call (rDo_spec (s:=m) x.tx x.op hR.ref (by rw [hR.rows];exact hR.sure.ok.rising) (hbig x (List.mem_of_getElem? hx)).1 (hbig x (List.mem_of_getElem? hx)).2) k18 ?_)
          rw [hd2]
          dsimp only
          intro sv8
          refine WL.e e_move<|WL.e e_extract<|WL.e e_extract ?_
          refine WL.h (h_alloc z61 fun b6=>?_)
          refine WL.h' (h_store s61 ?_)
          refine WL.e e_assign<|WL.next<|WP.seq<|WP.seq<|WP.reg<|WL.e e_move<|WL.e e_move<|WL.e e_neq<|WL.e e_move ?_
          refine WL.bool 72 rfl (fun e1=>?_) (fun e1=>?_)
          ·simp at e1 
          ·skip
           refine WL.e (e_loadN a61)<|WL.e (e_loadN a61) ?_
           refine WL.h (h_call (SameResult_spec (u:=⟨none,0,0⟩) (v:=⟨none,0,0⟩) (xs:=[]) (ys:=[]) (A:=Rf mp (rPut m u9 c9 sv8)) (B:=Bk b1 bk) nil_rl nil_rl (by simp)) k19 ?_)
           rw [decide_eq_true rfl]
           refine WL.e e_not<|WL.e e_pick_f<|WL.next ?_
           refine WP.cond rfl (fun y5=>?_) (fun y5=>?_)
           ·simp at y5
           ·skip
            refine WP.skip<|PO.next<|WP.reg<|WL.e (e_loadN a61)<|WL.nils 78 2 RowM.c none ?_
            refine WL.h (h_call (bResult_spec hB (by omega)) k20 ?_)
            refine WL.nil<|PO.blockN ?_
            exact PO.meetK (dp,p,mp,putG s t9.id c9 sv7,ys,rPut m u9 c9 sv8,keepR bk ⟨none,0,0⟩ []) ⟨hR9 sv7 sv8,hB.row (by omega) _ _ (by simp)⟩
         ·rename_i t9 u9 ho9 hR9
          dsimp only
          intro a7 m7 c7
          refine WL.e e_move<|WL.e e_extract<|WL.e e_extract ?_
          refine WL.h (h_alloc z61 fun b7=>?_)
          refine WL.h' (h_store s61 ?_)
          refine WL.e e_assign<|WL.next<|WP.seq<|WP.reg<|WL.e e_move<|WL.e (e_fa f54_1)<|WL.e (e_load a48)<|WL.e (e_fa f54_2)<|WL.e (e_loadN a51) ?_
          refine WL.h (h_call (rDo_spec (s:=m) x.tx x.op hR.ref (by rw [hR.rows];exact hR.sure.ok.rising) (hbig x (List.mem_of_getElem? hx)).1 (hbig x (List.mem_of_getElem? hx)).2) k18 ?_)
          rw [hd2]
          dsimp only
          intro sv8 a8 m8 c8
          refine WL.e e_move<|WL.e e_extract<|WL.e e_extract ?_
          refine WL.h (h_alloc z61 fun b8=>?_)
          refine WL.h' (h_store s61 ?_)
          refine WL.e e_assign<|WL.next<|WP.seq<|WP.seq<|WP.reg<|WL.e e_move<|WL.e e_move<|WL.e e_neq<|WL.e e_move ?_
          refine WL.bool 72 rfl (fun e1=>?_) (fun e1=>?_)
          ·simp at e1 
          ·skip
           refine WL.e (e_loadN a61)<|WL.e (e_loadN a61) ?_
           refine WL.h (h_call (SameResult_spec (u:=⟨a7,m7,c7⟩) (v:=⟨a8,m8,c8⟩) (sl_rl (E:=78) (xs:=scanR (changeR s.rows t9.own) (spanOf x.op) 256)) (sl_rl (E:=78) (xs:=scanR (changeR m.rows u9.x.own) (spanOf x.op) 256)) (by have:(scanR (changeR s.rows t9.own) (spanOf x.op) 256).length≤256:=List.length_take_le _ _;omega)) k19 ?_)
           rw [show decide (scanR (changeR s.rows t9.own) (spanOf x.op) 256=scanR (changeR m.rows u9.x.own) (spanOf x.op) 256)=true from decide_eq_true (by rw [hR.rows,ho9])]
           refine WL.e e_not<|WL.e e_pick_f<|WL.next ?_
           refine WP.cond rfl (fun y5=>?_) (fun y5=>?_)
           ·simp at y5
           ·skip
            refine WP.skip<|PO.next<|WP.reg<|WL.e (e_loadN a61) ?_
            refine WL.h (h_call (bResult_spec hB (by omega)) k20 ?_)
            refine WL.nil<|PO.blockN ?_
            exact PO.meetK (dp,p,mp,lookG s t9 (spanOf x.op),ys,rLook m u9 (spanOf x.op) sv8,keepR bk ⟨a7,m7,c7⟩ (scanR (changeR s.rows t9.own) (spanOf x.op) 256)) ⟨hR9 sv8,hB.row (by omega) _ _ (by have:(scanR (changeR s.rows t9.own) (spanOf x.op) 256).length≤256:=List.length_take_le _ _;omega)⟩
   ·rintro ⟨dp,p,mp,s,ys,m,bk⟩ ⟨hR,hB⟩
    simp only at hR hB
    dsimp only
    have hrl:s.rows.length≤1000000000:=by have:=hR.sure.ok.sum;omega
    have htl:=hR.ref.tl
    have hil:(m.txs.map (·.id)).length≤1000000000:=by simp;omega
    refine WP.seq<|WP.reg<|WL.e e_move ?_
    refine WL.h (h_call (GRows_spec (s:=s) (by omega)) k21 ?_)
    intro a5 m5 c5
    refine WL.e e_assign<|WL.next<|WP.seq<|WP.reg<|WL.e e_move ?_
    refine WL.h (h_call (GOpen_spec (s:=s) (by have:=hR.tlen;omega)) k22 ?_)
    intro a6 m6 c6 zs z1 z2
    obtain rfl:=hR.open_ z1 z2
    refine WL.e e_assign<|WL.next<|WP.seq<|WP.seq<|WP.reg<|WL.e e_move<|WL.e e_move ?_
    refine WL.h (h_call (rRows_spec (s:=m) hR.ref) k24 ?_)
    intro a7 m7 c7
    refine WL.h (h_call (SameRows_spec (sl_rl (E:=78) (xs:=s.rows)) (sl_rl (E:=78) (xs:=m.rows)) (by omega)) k23 ?_)
    rw [decide_eq_true hR.rows.symm]
    refine WL.e e_not<|WL.e e_move ?_
    refine WL.bool 160 rfl (fun e1=>?_) (fun e1=>?_)
    ·cases e1 
    ·skip
     refine WL.e e_move<|WL.e e_move ?_
     refine WL.h (h_call (rOpen_spec (s:=m) hR.ref) k26 ?_)
     intro a8 m8 c8
     refine WL.h (h_call (SameIds_spec (sl_rl (E:=48) (xs:=m.txs.map (·.id))) (sl_rl (E:=48) (xs:=m.txs.map (·.id))) (by omega)) k25 ?_)
     rw [decide_eq_true rfl]
     refine WL.e e_not<|WL.e e_pick_f<|WL.next ?_
     refine WP.cond rfl (fun y6=>?_) (fun y6=>?_)
     ·simp at y6
     ·skip
      refine WP.skip<|PO.next<|WP.seq<|WP.reg<|WL.e e_move ?_
      refine WL.h (h_call (bRows_spec hB (by omega)) k27 ?_)
      refine WL.next<|WP.reg<|WL.e e_move ?_
      refine WL.h (h_call (bIds_spec (hB.row (by omega) ⟨a5,m5,c5⟩ s.rows hrl) (by omega)) k28 ?_)
      refine WL.nil<|PO.blockN<|PO.next<|WP.reg<|WL.e e_move<|WL.e (e_add (c:=((i+1:Nat):Int)) rfl rfl (by rw [w_i64 (by omega) (by omega)];omega))<|WL.e e_assign<|WL.nil ?_
      exact PO.againK (i+1,dp,p,mp,s,ys,m,keepI (keepR bk ⟨a5,m5,c5⟩ s.rows) ⟨a6,m6,c6⟩ (m.txs.map (·.id))) ⟨by simp only;omega,hR,((hB.row (by omega) ⟨a5,m5,c5⟩ s.rows hrl).id (by omega) ⟨a6,m6,c6⟩ (m.txs.map (·.id)) hil).mono (by simp only;omega)⟩ (by simp only;omega)
  ·skip
   refine WP.exit<|PO.past nofun<|PO.round nofun<|PO.blockX<|PO.next<|WP.seq<|WP.reg ?_
   refine WL.h (h_call (bApart_spec hT hB (by omega)) k29 ?_)
   refine WL.e e_move ?_
   refine WL.bool 172 rfl (fun e1=>?_) (fun e1=>?_)
   ·skip
    refine WL.h (h_call (lives_spec) k5 ?_)
    refine WL.e e_pick_t<|WL.e e_assign<|WL.next<|WP.ret ?_
    exact PO.finE Tryz.results3 (rv_tmp rv_nil) rfl hK
   ·cases e1 
end Go.SL
namespace Go.SL
open Go Go.ChangeShapes Go.Deep
section
variable {H : Type} {enc : TypeId × Value → H} {P : Program} {W : World} {held : Bool}
theorem add_off (a:Addr) (n:Nat) (h:a.spot=none):a.add n=⟨a.block,a.off+n,none⟩:=by
  obtain ⟨b,o,s⟩:=a
  simp at h;subst h
  exact add_none b o n
theorem slice_rl {α:Type} {t e:TypeId} {fuel z:Nat} {cs:List Value} {x:DataW H × List MemPlace} {c:α→List Value} (ht:P.underlying t=some (.slice e)) (hz:P.cellsOf e=z) (h0:0 < z) (he:EncOk z c)
    (hel:∀ n cs' y,DataW.trod enc P W 0 (fun _=>true) held n e cs'=some y→∃ a:α,cs'=c a) (h:DataW.trod enc P W 0 (fun _=>true) held fuel t cs=some x) :
    ∃ (v:SV) (xs:List α),cs=[v.v]∧RL (Old W) z c v.v xs∧(xs=[]∨∃ el sp,x.1=.slice el sp∧el.length=xs.length):=by
  rcases open_slice ht h with ⟨hcs,_⟩ | ⟨a,len,cap,m,n,D,Pl,hcs,_,hl,hm,hmm,hxx,hi⟩
  · exact ⟨⟨none,0,0⟩,[],hcs,nil_rl,.inl rfl⟩
  simp only [if_true] at hmm
  subst hmm
  rw [hz] at hi
  have hi':∀ i:Fin m,∃ y:α,∀ j,j < z→W.cell? ((a.add (i * z)).add j)=(c y)[j]?:=fun i=>by
    obtain ⟨cs',h1,h2⟩:=hi i i.2
    obtain ⟨y,rfl⟩:=hel _ _ _ h2
    exact ⟨y,(World.cells?_some h1).2.2⟩
  by_cases hc0:m=0
  · have:len=0:=by omega
    subst this
    exact ⟨⟨some a,0,m⟩,[],hcs,nil_rl,.inl rfl⟩
  let Y:Fin m→α:=fun i=>Classical.choose (hi' i)
  have hY:∀ i:Fin m,∀ j,j < z→W.cell? ((a.add (i * z)).add j)=(c (Y i))[j]?:=fun i=>Classical.choose_spec (hi' i)
  have hsp:a.spot=none:=by
    have:=hY ⟨0,by omega⟩ 0 h0
    have hlt:0 < (c (Y ⟨0,by omega⟩)).length:=by rw [he.len];exact h0
    rw [List.getElem?_eq_getElem hlt] at this
    have h2:=World.cell?_spot this
    cases hs:a.spot with
    | none=>rfl
    | some s=>simp [Addr.add,hs] at h2
  have hcell:∀ k (hk:k < m * z),W.cell? ⟨a.block,a.off+k,none⟩=(c (Y ⟨k / z,(Nat.div_lt_iff_lt_mul h0).2 hk⟩))[k % z]?:=fun k hk=>by
    have:=hY ⟨k / z,(Nat.div_lt_iff_lt_mul h0).2 hk⟩ (k % z) (Nat.mod_lt _ h0)
    rw [add_off a _ hsp,add_none] at this
    have e:a.off+k / z * z+k % z=a.off+k:=by have:=Nat.div_add_mod k z;rw [Nat.mul_comm] at this;omega
    simp only [e] at this
    exact this
  have hmz:0 < m * z:=Nat.mul_pos (by omega) h0
  obtain ⟨arr,t',fr,hb⟩:∃ arr t' fr,W.heap[a.block]?=some (.cells arr t' fr):=by
    have:=hcell 0 hmz
    rw [List.getElem?_eq_getElem (by rw [he.len];exact Nat.mod_lt _ h0)] at this
    unfold World.cell? at this
    cases hh:W.heap[a.block]? with
    | none=>rw [hh] at this;cases this
    | some o=>rw [hh] at this;cases o <;> first | exact ⟨_,_,_,rfl⟩ | cases this
  have hval:∀ k (hk:k < m * z),arr.toList[a.off+k]?=(c (Y ⟨k / z,(Nat.div_lt_iff_lt_mul h0).2 hk⟩))[k % z]?:=fun k hk=>by
    have:=hcell k hk
    unfold World.cell? at this
    rw [hb] at this
    simpa using this
  have hlen:a.off+m * z≤arr.toList.length:=by
    have:=hval (m * z - 1) (by omega)
    have hlt:(m * z - 1) % z < (c (Y ⟨(m * z - 1) / z,(Nat.div_lt_iff_lt_mul h0).2 (by omega)⟩)).length:=by rw [he.len];exact Nat.mod_lt _ h0
    rw [List.getElem?_eq_getElem hlt] at this
    have:=idx_lt this
    omega
  refine ⟨⟨some a,len,m⟩,List.ofFn fun i:Fin len=>Y ⟨i,by omega⟩,hcs,fun S hS=>?_,.inr ⟨_,_,by rw [hxx],by simp⟩⟩
  refine .inr ⟨a.block,a.off,m,arr.toList,(t',fr),?_,by simpa using hl,?_,hlen,?_⟩
  · obtain ⟨b,o,s⟩:=a
    simp at hsp;subst hsp
    simp
  · exact hS _ _ (by simpa [heapOf] using hb)
  · apply List.ext_getElem?
    intro k
    rw [td_get,List.length_ofFn]
    by_cases hk:k < len * z
    · rw [if_pos hk]
      have hkm:k < m * z:=Nat.lt_of_lt_of_le hk (Nat.mul_le_mul_right _ hl)
      rw [hval k hkm]
      have hd:k / z < len:=(Nat.div_lt_iff_lt_mul h0).2 hk
      have hx:(List.ofFn fun i:Fin len=>Y ⟨i,by omega⟩)[k / z]?=some (Y ⟨k / z,by omega⟩):=by simp [hd]
      have:=flat_at he hx (k % z) (Nat.mod_lt _ h0)
      rw [show k / z * z+k % z=k by have:=Nat.div_add_mod k z;rw [Nat.mul_comm] at this;omega] at this
      exact this
    · rw [if_neg hk]
      apply List.getElem?_eq_none
      rw [flat_len he,List.length_ofFn];omega
theorem below_of_spec1 {P:Program} {w:World} {f:FuncId} {args:List Value} (h:Spec P w f args [Old w] fun K R=>K (.bool true) (Old w::R)):Calls P f args.toArray w fun e w'=>e=.returned (.bool true)∧Go.RowKit.Below w.heap.size w w':=by
  refine (h [] (fun v M=>v=.bool true∧M=[Old w]) w (sat_old w) ⟨rfl,rfl⟩).mono ?_
  rintro e w' ⟨v,M,rfl,⟨rfl,rfl⟩,hs⟩
  exact ⟨rfl,old_below hs⟩
end
end Go.SL
