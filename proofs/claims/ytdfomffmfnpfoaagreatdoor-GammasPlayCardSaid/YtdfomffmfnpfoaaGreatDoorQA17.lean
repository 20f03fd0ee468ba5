import Derived.Test.YtdfomffmfnpfoaaGreatDoorQA16
import Derived.Lib.ItoaLen
set_option linter.unusedSimpArgs false
set_option linter.unusedVariables false
set_option linter.unusedSectionVars false
namespace Go.SL
open Go
theorem low_of {l:List RowM} {k:ByteArray} {i:Nat} (hi:i≤l.length) (h1:∀ r ∈ l.take i,sLt r.key k=true) (h2:∀ x,l[i]?=some x→sLt x.key k=false):lowI l k=i:=by
  unfold lowI
  conv=>lhs;rw [← List.take_append_drop i l]
  rw [List.takeWhile_append_of_pos (fun r hr=>h1 r hr),List.length_append,List.length_take_of_le hi]
  cases hd:l.drop i with
  | nil=>simp
  | cons x t=>
    have:l[i]?=some x:=by rw [← List.head?_drop,hd];rfl
    rw [List.takeWhile_cons,h2 x this];simp
theorem has_of {l:List RowM} {k:ByteArray} {i:Nat} {x:RowM} (h:lowI l k=i) (hx:l[i]?=some x):hasI l k=sEq x.key k:=by unfold hasI;rw [h,hx]
theorem has_end {l:List RowM} {k:ByteArray} {i:Nat} (h:lowI l k=i) (hx:l[i]?=none):hasI l k=false:=by unfold hasI;rw [h,hx]
theorem gt_t {a b:ByteArray} (h:(!(sLt a b || sEq a b))=true):sLt b a=true:=by
  simp only [Bool.not_eq_true',Bool.or_eq_false_iff] at h
  rcases sLt_tri a b with e | e | e
  · rw [h.1] at e;cases e
  · rw [sEq_iff.2 e] at h;cases h.2
  · exact e
theorem gt_f {a b:ByteArray} (h:(!(sLt a b || sEq a b))=false):sLt b a=false:=by
  simp only [Bool.not_eq_false',Bool.or_eq_true] at h
  rcases h with h | h
  · exact sLt_asymm h
  · rw [sEq_iff.1 h];exact sLt_irrefl b
theorem find_step {l:List RowM} {k:ByteArray} {i:Nat} {x:RowM} (h:∀ r ∈ l.take i,sLt r.key k=true) (hx:l[i]?=some x) (h1:sEq x.key k=false) (h2:sLt k x.key=false):∀ r ∈ l.take (i+1),sLt r.key k=true:=by
  rw [take_snoc hx]
  intro r hr
  rcases List.mem_append.1 hr with hr | hr
  · exact h r hr
  · simp only [List.mem_singleton] at hr
    subst hr
    rcases sLt_tri r.key k with h3 | h3 | h3
    · exact h3
    · rw [sEq_iff.2 h3] at h1;cases h1
    · rw [h3] at h2;cases h2
theorem setR_has {l:List RowM} {k:ByteArray} (v:UInt32) (h:hasI l k=true):setR l k v=l.take (lowI l k)++[⟨k,v⟩]++l.drop (lowI l k+1):=by
  rw [setR,if_pos h,List.set_eq_take_append_cons_drop,if_pos (has_lt h)];simp
theorem setR_not {l:List RowM} {k:ByteArray} (v:UInt32) (h:hasI l k=false):setR l k v=l.take (lowI l k)++[⟨k,v⟩]++l.drop (lowI l k):=by
  rw [setR,if_neg (by simp [h])];simp
theorem dropR_has {l:List RowM} {k:ByteArray} (h:hasI l k=true):dropR l k=l.take (lowI l k)++l.drop (lowI l k+1):=by
  rw [dropR,if_pos h,List.eraseIdx_eq_take_drop_succ]
theorem dropR_not {l:List RowM} {k:ByteArray} (h:hasI l k=false):dropR l k=l:=by rw [dropR,if_neg (by simp [h])]
theorem scanMore {l:List RowM} {s:SpanM} {most i:Nat} {x:RowM} (hx:l[i]?=some x) (h:inSpan s x.key=true) (hl:(scanR (l.take i) s most).length < most):scanR (l.take (i+1)) s most=scanR (l.take i) s most++[x]:=by
  unfold scanR at hl ⊢
  rw [take_snoc hx,List.filter_append,List.filter_cons,if_pos h,List.filter_nil]
  rw [List.length_take] at hl
  rw [List.take_of_length_le (l:=List.filter _ (l.take i)) (by omega),List.take_of_length_le (by simp;omega)]
theorem scan_out {l:List RowM} {s:SpanM} {most i:Nat} {x:RowM} (hx:l[i]?=some x) (h:inSpan s x.key=false):scanR (l.take (i+1)) s most=scanR (l.take i) s most:=by
  unfold scanR
  rw [take_snoc hx,List.filter_append,List.filter_cons,if_neg (by simp [h]),List.filter_nil,List.append_nil]
theorem scan_full {l:List RowM} {s:SpanM} {most i:Nat} (hl:most≤(scanR (l.take i) s most).length):scanR l s most=scanR (l.take i) s most:=by
  unfold scanR at hl ⊢
  rw [List.length_take] at hl
  conv=>lhs;rw [← List.take_append_drop i l]
  rw [List.filter_append,List.take_append_of_le_length (by omega)]
theorem scan_end {l:List RowM} {s:SpanM} {most i:Nat} (hl:l.length≤i):scanR l s most=scanR (l.take i) s most:=by rw [List.take_of_length_le hl]
theorem scan_len {l:List RowM} {s:SpanM} {most:Nat}:(scanR l s most).length≤l.length:=by
  unfold scanR;rw [List.length_take];have:=List.length_filter_le (fun r=>inSpan s r.key) l;omega
def kSz (l:List RowM):Prop:=∀ r ∈ l,r.key.size≤1000
theorem setR_len (l:List RowM) (k:ByteArray) (v:UInt32):(setR l k v).length≤l.length+1:=by
  unfold setR
  have:=lowI_le l k
  split
  · simp
  · simp;omega
theorem dropR_len (l:List RowM) (k:ByteArray):(dropR l k).length≤l.length:=by
  unfold dropR
  split
  · rw [List.length_eraseIdx];split <;> omega
  · omega
theorem setR_sz {l:List RowM} {k:ByteArray} {v:UInt32} (h:kSz l) (hk:k.size≤1000):kSz (setR l k v):=by
  unfold setR
  intro r hr
  split at hr
  · rcases List.mem_or_eq_of_mem_set hr with hr | rfl
    · exact h r hr
    · exact hk
  · simp only [List.mem_append,List.mem_cons] at hr
    rcases hr with hr | rfl | hr
    · exact h r (List.mem_of_mem_take hr)
    · exact hk
    · exact h r (List.mem_of_mem_drop hr)
theorem dropR_sz {l:List RowM} {k:ByteArray} (h:kSz l):kSz (dropR l k):=by
  unfold dropR
  intro r hr
  split at hr
  · exact h r (List.mem_of_mem_eraseIdx hr)
  · exact h r hr
theorem applyC_len (l:List RowM) (c:ChgM):(applyC l c).length≤l.length+1:=by
  unfold applyC
  split
  · have:=dropR_len l c.key;omega
  · exact setR_len _ _ _
theorem applyC_sz {l:List RowM} {c:ChgM} (h:kSz l) (hc:c.key.size≤1000):kSz (applyC l c):=by
  unfold applyC
  split
  · exact dropR_sz h
  · exact setR_sz h hc
theorem changeR_len (cs:List ChgM):∀ l:List RowM,(changeR l cs).length≤l.length+cs.length:=by
  induction cs with
  | nil=>intro l;exact Nat.le_refl _
  | cons c cs ih=>
    intro l
    have h1:=ih (applyC l c)
    have h2:=applyC_len l c
    show (changeR (applyC l c) cs).length≤_
    rw [List.length_cons];omega
theorem changeR_sz {cs:List ChgM} (hc:∀ c ∈ cs,c.key.size≤1000):∀ {l:List RowM},kSz l→kSz (changeR l cs):=by
  induction cs with
  | nil=>intro l h;exact h
  | cons c cs ih=>intro l h;exact ih (fun c' h'=>hc c' (by simp [h'])) (applyC_sz h (hc c (by simp)))
structure RtD where
  num:UInt32
  own:List ChgM
  sv:SV
structure RefV where
  rows:List RowM
  nums:List RowM
  last:UInt32
  kept:UInt32
  looks:List (SpanM × UInt32)
  txs:List (TxU UInt32 RtD)
def ref0:RefV:=⟨[],[],0,0,[],[]⟩
def rIns (ts:List (TxU UInt32 RtD)) (t:TxU UInt32 RtD):List (TxU UInt32 RtD):=ts.takeWhile (fun o=>decide (o.id < t.id))++[t]++ts.dropWhile (fun o=>decide (o.id < t.id))
def rBegE (s:RefV) (n:UInt32):Nat:=if n=0 then 1 else if (findU s.txs n).isSome then 7 else if 32≤s.txs.length then 5 else 0
def rBeg (s:RefV) (n:UInt32) (q:Nat):RefV:=if rBegE s n=0 then { s with last:=s.last+1,txs:=rIns s.txs ⟨n,q,⟨s.last+1,[],⟨none,0,0⟩⟩⟩ } else s
def rEnds (s:RefV) (n:UInt32):RefV:={ s with txs:=s.txs.filter fun o=>!decide (o.id=n) }
def rUnder (t:TxU UInt32 RtD) (p:SpanM):Bool:=t.x.own.any fun c=>meet (one c.key) p
def rLate (s:RefV) (num:UInt32) (p:SpanM):Bool:=(scanR s.nums p s.nums.length).any fun r=>decide (num < r.val)
def rOth (s:List (TxU UInt32 RtD)) (n:UInt32) (p:SpanM) (f:UInt32→Bool):Bool:=s.any fun o=>!decide (o.id=n) && rUnder o p && f o.x.num
def rLooks (l:List (SpanM × UInt32)) (num:UInt32) (p:SpanM):Bool:=l.any fun x=>decide (num < x.2) && meet x.1 p
def rAborts (s:RefV) (t:TxU UInt32 RtD) (p:SpanM) (w:Bool):Bool:=rLate s t.x.num p || (w && rLooks s.looks t.x.num p) || rOth s.txs t.id p fun m=>w && decide (t.x.num < m)
def rWaits (s:RefV) (t:TxU UInt32 RtD) (p:SpanM):Bool:=rOth s.txs t.id p fun m=>decide (m < t.x.num)
inductive RDo
  | err (s:RefV) (e:Nat)
  | put (t:TxU UInt32 RtD) (c:ChgM)
  | look (t:TxU UInt32 RtD)
def rDo (s:RefV) (n:UInt32) (x:OpM):RDo:=
  if opOk x then match findU s.txs n with
    | none=>.err s 6
    | some t=>if rAborts s t (spanOf x) (writes x) then .err (rEnds s n) 9 else if rWaits s t (spanOf x) then .err s 8 else if writes x then .put t (chgOf x) else .look t
  else .err s 1
def rPut (s:RefV) (t:TxU UInt32 RtD) (c:ChgM) (sv:SV):RefV:={ s with txs:=setU s.txs t.id ⟨t.x.num,t.x.own++[c],sv⟩ }
def rLook (s:RefV) (t:TxU UInt32 RtD) (p:SpanM) (sv:SV):RefV:={ s with looks:=s.looks++[(p,t.x.num)],txs:=setU s.txs t.id ⟨t.x.num,t.x.own,sv⟩ }
def rKept (l:List RowM) (num:UInt32) (cs:List ChgM):List RowM:=cs.foldl (fun l c=>setR l c.key num) l
theorem rKept_snoc (l:List RowM) (num:UInt32) (cs:List ChgM) (c:ChgM):rKept l num (cs++[c])=setR (rKept l num cs) c.key num:=by simp [rKept]
def rCom (s:RefV) (n:UInt32):RefV:=match findU s.txs n with
  | none=>s
  | some t=>rEnds { s with rows:=changeR s.rows t.x.own,nums:=rKept s.nums t.x.num t.x.own,kept:=if s.kept < t.x.num then t.x.num else s.kept } n
def rComE (s:RefV) (n:UInt32):Nat:=if (findU s.txs n).isSome then 0 else 6
def rComN (s:RefV) (n:UInt32):UInt32:=match findU s.txs n with
  | none=>0
  | some t=>t.x.num
def rAbo (s:RefV) (n:UInt32):RefV:=if (findU s.txs n).isSome then rEnds s n else s
def rAgain (s:RefV):RefV:=⟨s.rows,s.nums,s.kept,s.kept,[],[]⟩
def Lt (ts:List (TxU UInt32 RtD)):Prop:=ts.Pairwise fun a b=>a.id < b.id
structure RefOk (s:RefV) (b:Nat):Prop where
  sum:s.rows.length+(s.txs.map fun t=>t.x.own.length).sum≤b
  nsum:s.nums.length+(s.txs.map fun t=>t.x.own.length).sum≤b
  looks:s.looks.length≤b
  tl:s.txs.length≤32
  krows:kSz s.rows
  knums:kSz s.nums
  klooks:∀ x ∈ s.looks,x.1.a.size≤1000∧x.1.b.size≤1000
  kown:∀ t ∈ s.txs,∀ c ∈ t.x.own,c.key.size≤1000
  ids:Lt s.txs
  bb:b≤1000000000
theorem Lt.nodup {ts:List (TxU UInt32 RtD)} (h:Lt ts):(ts.map (·.id)).Nodup:=by
  unfold List.Nodup
  rw [List.pairwise_map]
  exact h.imp fun {a b} hab e=>by rw [e] at hab;exact absurd hab (by simp [UInt32.lt_iff_toNat_lt])
theorem RefOk.own_le {s:RefV} {b:Nat} (h:RefOk s b) {t:TxU UInt32 RtD} (ht:t ∈ s.txs):s.rows.length+t.x.own.length≤b∧s.nums.length+t.x.own.length≤b:=by
  have h1:=h.sum
  have h2:=h.nsum
  obtain ⟨A,B,e⟩:=List.append_of_mem ht
  rw [e] at h1 h2
  simp only [List.map_append,List.map_cons,List.sum_append,List.sum_cons] at h1 h2
  omega
theorem tw_drop {α:Type} {p:α→Bool} (l:List α):l.takeWhile p++l.dropWhile p=l:=List.takeWhile_append_dropWhile
theorem rIns_mem {ts:List (TxU UInt32 RtD)} {t o:TxU UInt32 RtD}:o ∈ rIns ts t↔o=t∨o ∈ ts:=by
  unfold rIns
  conv=>rhs;rw [← tw_drop (p:=fun o:TxU UInt32 RtD=>decide (o.id < t.id)) ts]
  simp only [List.mem_append,List.mem_cons,List.not_mem_nil,or_false]
  constructor
  · rintro ((h | h) | h)
    · exact .inr (.inl h)
    · exact .inl h
    · exact .inr (.inr h)
  · rintro (h | h | h)
    · exact .inl (.inr h)
    · exact .inl (.inl h)
    · exact .inr h
theorem rIns_sum (ts:List (TxU UInt32 RtD)) (t:TxU UInt32 RtD) (f:TxU UInt32 RtD→Nat):((rIns ts t).map f).sum=f t+(ts.map f).sum:=by
  conv=>rhs;rw [← tw_drop (p:=fun o:TxU UInt32 RtD=>decide (o.id < t.id)) ts]
  simp only [rIns,List.map_append,List.sum_append,List.map_cons,List.map_nil,List.sum_cons,List.sum_nil]
  omega
theorem rIns_len (ts:List (TxU UInt32 RtD)) (t:TxU UInt32 RtD):(rIns ts t).length=ts.length+1:=by
  have h:=congrArg List.length (tw_drop (p:=fun o:TxU UInt32 RtD=>decide (o.id < t.id)) ts)
  rw [List.length_append] at h
  simp only [rIns,List.length_append,List.length_cons,List.length_nil]
  omega
theorem twR_all {p:TxU UInt32 RtD→Bool}:∀ {l:List (TxU UInt32 RtD)},∀ x ∈ l.takeWhile p,p x=true
  | [],x,h=>by simp at h
  | a::l,x,h=>by
    rw [List.takeWhile_cons] at h
    by_cases e:p a=true
    · rw [if_pos e] at h
      rcases List.mem_cons.1 h with rfl | h
      · exact e
      · exact twR_all x h
    · rw [if_neg e] at h;simp at h
theorem rIns_lt {ts:List (TxU UInt32 RtD)} {t:TxU UInt32 RtD} (h:Lt ts) (hn:findU ts t.id=none):Lt (rIns ts t):=by
  have hne:=findU_none hn
  unfold Lt rIns
  rw [List.append_assoc]
  have h':=h
  unfold Lt at h'
  rw [← tw_drop (p:=fun o:TxU UInt32 RtD=>decide (o.id < t.id)) ts] at h'
  obtain ⟨h1,h2,h3⟩:=List.pairwise_append.1 h'
  have hd:∀ x ∈ ts.dropWhile (fun o=>decide (o.id < t.id)),t.id < x.id:=by
    intro x hx
    have hx0:x ∈ ts:=(List.dropWhile_sublist _).mem hx
    have hxn:x.id≠t.id:=fun e=>hne (e ▸ List.mem_map.2 ⟨x,hx0,rfl⟩)
    have:¬ x.id < t.id:=by
      cases hdw:ts.dropWhile (fun o=>decide (o.id < t.id)) with
      | nil=>rw [hdw] at hx;simp at hx
      | cons y l=>
        have hy:¬ y.id < t.id:=by
          have:=List.head?_dropWhile_not (fun o:TxU UInt32 RtD=>decide (o.id < t.id)) ts
          rw [hdw] at this;simpa using this
        rw [hdw] at hx h2
        rcases List.mem_cons.1 hx with rfl | hx
        · exact hy
        · have:=(List.pairwise_cons.1 h2).1 x hx
          rw [UInt32.lt_iff_toNat_lt] at *;omega
    have hxm:x.id.toNat≠t.id.toNat:=fun e=>hxn (UInt32.toNat_inj.1 e)
    rw [UInt32.lt_iff_toNat_lt] at this ⊢
    omega
  refine List.pairwise_append.2 ⟨h1,List.pairwise_append.2 ⟨by simp,h2,?_⟩,?_⟩
  · intro a ha b hb
    simp only [List.mem_singleton] at ha
    subst ha
    exact hd b hb
  · intro a ha b hb
    rcases List.mem_append.1 hb with hb | hb
    · simp only [List.mem_singleton] at hb
      subst hb
      simpa using twR_all a ha
    · exact h3 a ha b hb
theorem RefOk.zero:RefOk ref0 0:=⟨Nat.le_refl _,Nat.le_refl _,Nat.le_refl _,by decide,by simp [kSz,ref0],by simp [kSz,ref0],by simp [ref0],by simp [ref0],List.Pairwise.nil,by decide⟩
theorem RefOk.beg {s:RefV} {b:Nat} (h:RefOk s b) (n:UInt32) (q:Nat):RefOk (rBeg s n q) b:=by
  unfold rBeg
  split
  case isFalse=>exact h
  case isTrue h0=>
    have hf:findU s.txs n=none:=by
      unfold rBegE at h0
      split at h0
      · cases h0
      · split at h0
        · cases h0
        · cases hf:findU s.txs n with
          | none=>rfl
          | some t=>simp_all
    have hl:¬ 32≤s.txs.length:=fun e=>by
      unfold rBegE at h0
      rw [if_pos e] at h0
      split at h0
      · cases h0
      · split at h0 <;> cases h0
    refine ⟨?_,?_,h.looks,?_,h.krows,h.knums,h.klooks,?_,rIns_lt h.ids hf,h.bb⟩
    · show _+((rIns _ _).map _).sum≤b
      rw [rIns_sum];have:=h.sum;simpa using this
    · show _+((rIns _ _).map _).sum≤b
      rw [rIns_sum];have:=h.nsum;simpa using this
    · show (rIns _ _).length≤32
      rw [rIns_len];omega
    · intro t ht
      rcases rIns_mem.1 ht with rfl | ht
      · simp
      · exact h.kown t ht
theorem sumR_sub {l m:List (TxU UInt32 RtD)} (h:l.Sublist m):(l.map fun t=>t.x.own.length).sum≤(m.map fun t=>t.x.own.length).sum:=by
  induction h with
  | slnil=>exact Nat.le_refl _
  | cons a _ ih=>simp only [List.map_cons,List.sum_cons];omega
  | cons_cons a _ ih=>simp only [List.map_cons,List.sum_cons];omega
theorem RefOk.ends {s:RefV} {b:Nat} (h:RefOk s b) (n:UInt32):RefOk (rEnds s n) b:=by
  have hs:(rEnds s n).txs.Sublist s.txs:=List.filter_sublist
  have h1:=sumR_sub hs
  exact ⟨by have:=h.sum;show s.rows.length+_≤b;omega,by have:=h.nsum;show s.nums.length+_≤b;omega,h.looks,Nat.le_trans hs.length_le h.tl,h.krows,h.knums,h.klooks,fun t ht=>h.kown t (hs.mem ht),h.ids.sublist hs,h.bb⟩
theorem RefOk.mono {s:RefV} {b c:Nat} (h:RefOk s b) (hb:b≤c) (hc:c≤1000000000):RefOk s c:=
  ⟨by have:=h.sum;omega,by have:=h.nsum;omega,by have:=h.looks;omega,h.tl,h.krows,h.knums,h.klooks,h.kown,h.ids,hc⟩
theorem rKept_len (num:UInt32) (cs:List ChgM):∀ l:List RowM,(rKept l num cs).length≤l.length+cs.length:=by
  induction cs with
  | nil=>intro l;exact Nat.le_refl _
  | cons c cs ih=>
    intro l
    have h1:=ih (setR l c.key num)
    have h2:=setR_len l c.key num
    show (rKept (setR l c.key num) num cs).length≤_
    rw [List.length_cons];omega
theorem rKept_sz {num:UInt32} {cs:List ChgM} (hc:∀ c ∈ cs,c.key.size≤1000):∀ {l:List RowM},kSz l→kSz (rKept l num cs):=by
  induction cs with
  | nil=>intro l h;exact h
  | cons c cs ih=>intro l h;exact ih (fun c' h'=>hc c' (by simp [h'])) (setR_sz h (hc c (by simp)))
theorem filt_mid {A B:List (TxU UInt32 RtD)} {t:TxU UInt32 RtD} (h:((A++t::B).map (·.id)).Nodup):(A++t::B).filter (fun o=>!decide (o.id=t.id))=A++B:=by
  have hn:=nodupU_mid h
  rw [List.filter_append,List.filter_cons,if_neg (by simp),List.filter_eq_self.2 (fun x hx=>by simp [hn x (by simp [hx])]),List.filter_eq_self.2 (fun x hx=>by simp [hn x (by simp [hx])])]
theorem RefOk.com {s:RefV} {b:Nat} (h:RefOk s b) (n:UInt32):RefOk (rCom s n) b:=by
  unfold rCom
  cases hf:findU s.txs n with
  | none=>exact h
  | some t=>
    obtain ⟨rfl,A,B,e,_,_⟩:=findU_mid hf
    have ht:=findU_mem hf
    have hk:=h.kown t ht
    have hfil:s.txs.filter (fun o=>!decide (o.id=t.id))=A++B:=by rw [e];exact filt_mid (e ▸ h.ids.nodup)
    have h0:=h.ends t.id
    have hl:=changeR_len t.x.own s.rows
    have hl2:=rKept_len t.x.num t.x.own s.nums
    have h1:=h.sum
    have h2:=h.nsum
    rw [e] at h1 h2
    simp only [List.map_append,List.map_cons,List.sum_append,List.sum_cons] at h1 h2
    refine ⟨?_,?_,h.looks,h0.tl,changeR_sz hk h.krows,rKept_sz hk h.knums,h.klooks,h0.kown,h0.ids,h.bb⟩
    · show (changeR s.rows t.x.own).length+((s.txs.filter (fun o=>!decide (o.id=t.id))).map fun t=>t.x.own.length).sum≤b
      rw [hfil,List.map_append,List.sum_append];omega
    · show (rKept s.nums t.x.num t.x.own).length+((s.txs.filter (fun o=>!decide (o.id=t.id))).map fun t=>t.x.own.length).sum≤b
      rw [hfil,List.map_append,List.sum_append];omega
theorem RefOk.abo {s:RefV} {b:Nat} (h:RefOk s b) (n:UInt32):RefOk (rAbo s n) b:=by
  unfold rAbo
  split
  · exact h.ends n
  · exact h
theorem RefOk.again {s:RefV} {b:Nat} (h:RefOk s b):RefOk (rAgain s) b:=
  ⟨by have:=h.sum;simp [rAgain];omega,by have:=h.nsum;simp [rAgain];omega,Nat.zero_le _,by simp [rAgain],h.krows,h.knums,by simp [rAgain],by simp [rAgain],List.Pairwise.nil,h.bb⟩
theorem lt_ids {ts us:List (TxU UInt32 RtD)} (h:Lt ts) (e:us.map (·.id)=ts.map (·.id)):Lt us:=by
  have h1:(ts.map (·.id)).Pairwise (· < ·):=List.pairwise_map.2 h
  rw [← e] at h1
  exact List.pairwise_map.1 h1
theorem RefOk.set {s:RefV} {b:Nat} (h:RefOk s b) {t:TxU UInt32 RtD} (ht:t ∈ s.txs) (l:List (SpanM × UInt32)) (cs:List ChgM) (sv:SV) (hb:b+1≤1000000000) (hl:l.length≤1) (hkl:∀ x ∈ l,x.1.a.size≤1000∧x.1.b.size≤1000) (hc:cs.length≤1) (hkc:∀ c ∈ cs,c.key.size≤1000) :
    RefOk { s with looks:=s.looks++l,txs:=setU s.txs t.id ⟨t.x.num,t.x.own++cs,sv⟩ } (b+1):=by
  obtain ⟨A,B,e⟩:=List.append_of_mem ht
  have hs:((setU s.txs t.id ⟨t.x.num,t.x.own++cs,sv⟩).map fun t=>t.x.own.length).sum≤(s.txs.map fun t=>t.x.own.length).sum+1:=by
    rw [e,setU_mid (e ▸ h.ids.nodup)]
    simp only [List.map_append,List.map_cons,List.sum_append,List.sum_cons,List.length_append]
    omega
  refine ⟨?_,?_,?_,?_,h.krows,h.knums,?_,?_,lt_ids h.ids (setU_ids _ _ _),hb⟩
  · have:=h.sum;show s.rows.length+((setU s.txs t.id ⟨t.x.num,t.x.own++cs,sv⟩).map fun t=>t.x.own.length).sum≤_;omega
  · have:=h.nsum;show s.nums.length+((setU s.txs t.id ⟨t.x.num,t.x.own++cs,sv⟩).map fun t=>t.x.own.length).sum≤_;omega
  · have:=h.looks;simp only [List.length_append];omega
  · show (setU s.txs _ _).length≤32
    have:=h.tl;simpa [setU] using this
  · intro x hx
    rcases List.mem_append.1 hx with hx | hx
    · exact h.klooks x hx
    · exact hkl x hx
  · intro o ho
    rcases setU_mem ho with ⟨t',ht',_,rfl⟩ | ⟨ho,_⟩
    · intro c hc'
      rcases List.mem_append.1 hc' with hc' | hc'
      · exact h.kown t ht c hc'
      · exact hkc c hc'
    · exact h.kown o ho
theorem keyOk_sz {k:ByteArray} (h:keyOk k=true):k.size≤1000:=by
  unfold keyOk at h;simp at h;omega
theorem opOk_sz {x:OpM} (h:opOk x=true):(spanOf x).a.size≤1000∧(spanOf x).b.size≤1000:=by
  have h':=h
  unfold opOk at h'
  simp only [Bool.and_eq_true] at h'
  obtain ⟨⟨⟨_,h1⟩,h2⟩,_⟩:=h'
  refine ⟨keyOk_sz h1,?_⟩
  unfold spanOf
  split
  case isTrue e=>rw [if_pos e] at h2;exact keyOk_sz h2
  case isFalse=>exact keyOk_sz h1
end Go.SL
namespace Go.SL
open Go
theorem Mb_head {α:Type} {F:α→HP} {hs B:List α} {x:α} (h:hs=x::B):∀ S,Mb F hs S→∃ _:Unit,stars [F x,Mb F B] S:=fun S hS=>Mb_out (A:=[]) h S hS
theorem Mb_snoc {α:Type} {F:α→HP} {A:List α} {x:α}:∀ S,stars [F x,Mb F A] S→Mb F (A++[x]) S:=fun S hS=>Mb_in (A:=A) (B:=[]) S (by rw [List.append_nil];exact hS)
theorem mb_ge {α:Type} {F:α→HP} {hs:List α} {x:α} (h:x ∈ hs):Ge (F x) (Mb F hs):=fun S hS=>by
  obtain ⟨A,B,e⟩:=List.append_of_mem h
  obtain ⟨_,S1,S2,_,h1,_,h2,_⟩:=Mb_out e S hS
  exact ⟨S1,h1,h2⟩
structure HeldV (α:Type) where
  l:SV
  long:SV
  n:Nat
  ws:List α
  xs:List α
section
variable {α : Type}
def hdC (h:HeldV α):List Value:=[h.l.v,h.long.v,.int .i64 h.n]
theorem hdE:EncOk 3 (hdC (α:=α)):=⟨fun _=>rfl,fun _=>rfl⟩
def Hd0 (E z:Nat) (enc:α→List Value) (h:HeldV α):HP:=Sl E z enc h.l.v h.ws
def Hd1 (E z:Nat) (enc:α→List Value) (h:HeldV α):HP:=Gr E z enc h.l.v h.ws h.long.v h.xs
def fillH (mk:Nat→α) (h:HeldV α):HeldV α:={ h with ws:=List.replicate h.ws.length (mk h.n) }
def Kp (h:HeldV α):Prop:=h.n≤1000∧h.ws.length≤1000000000
def Fil (mk:Nat→α) (h:HeldV α):Prop:=Kp h∧h.ws=List.replicate h.ws.length (mk h.n)
def Grw (mk:Nat→α) (h:HeldV α):Prop:=Kp h∧h.ws=List.replicate h.ws.length (mk h.n)∧h.xs=List.replicate (h.ws.length+40) (mk h.n)
theorem fil_fill {mk:Nat→α} {hs:List (HeldV α)} (h:∀ x ∈ hs,Kp x):∀ x ∈ hs.map (fillH mk),Fil mk x:=fun x hx=>by
  obtain ⟨y,hy,rfl⟩:=List.mem_map.1 hx
  have:=h y hy
  exact ⟨⟨this.1,by simpa [fillH] using this.2⟩,by simp [fillH]⟩
theorem hd_fill (mk:Nat→α) (hs:List (HeldV α)):(hs.map (fillH mk)).flatMap hdC=hs.flatMap hdC:=by
  rw [List.flatMap_map];rfl
theorem drop_at {β:Type} {l:List β} {i:Nat} {x:β} (hx:l[i]?=some x):l.drop i=x::l.drop (i+1):=by
  have hlt:=idx_lt hx
  rw [List.drop_eq_getElem_cons hlt]
  rw [List.getElem?_eq_getElem hlt] at hx
  cases hx;rfl
theorem rep_set {β:Type} {ws:List β} {j:Nat} {m:β} (h:j < ws.length):(List.replicate j m++ws.drop j).set j m=List.replicate (j+1) m++ws.drop (j+1):=by
  have e:=drop_at (List.getElem?_eq_getElem h)
  rw [List.set_append_right _ _ (by simp),List.length_replicate,Nat.sub_self,e,List.set_cons_zero,List.replicate_succ',List.append_assoc];rfl
theorem rep_all {β:Type} {ws:List β} {j:Nat} {m:β} (h:ws.length=j):List.replicate j m++ws.drop j=List.replicate ws.length m:=by
  subst h;simp
theorem rep_snoc {β:Type} {n j:Nat} {m:β}:List.replicate (n+j) m++[m]=List.replicate (n+(j+1)) m:=by
  rw [← Nat.add_assoc,List.replicate_succ']
theorem rep_at {β:Type} {n j:Nat} {m:β} (h:j < n):(List.replicate n m)[j]?=some m:=by simp [h]
end
def mkId (n:Nat):UInt32:=UInt32.ofNat (1000+n)
def wdB (n:Nat):ByteArray:=(⟨#[35]⟩:ByteArray)++itoaB n
def mkRow (n:Nat):RowM:=⟨wdB n,0⟩
theorem wd_size (n:Nat) (h:n≤1000):(⟨#[35]⟩:ByteArray).size+(itoaB n).size < 9223372036854775808:=by
  have h1:(itoaB n).size≤21:=Go.Lib.itoa_length_le (n:Int) (by omega) (by omega)
  have h2:(⟨#[35]⟩:ByteArray).size=1:=rfl
  omega
end Go.SL
namespace Go.SL.Fc
open Go Go.Proofs Go.SL
theorem k199:callable Tryz.prog 199=true:=by kernel_rfl
theorem k218:callable Tryz.prog 218=true:=by kernel_rfl
end Go.SL.Fc
namespace Go.SL
open Go Go.Proofs Fc
open Go.RowKit Go.Shelf in
def laysItoa_ren:Go.Shelf.Ren:=⟨fun | 129=>217 | 171=>218 | 243=>229 | 246=>233 | 283=>234 | 284=>235 | 285=>236 | 286=>237 | 317=>238 | 318=>239 | 319=>240 | 320=>241 | 337=>242 | 338=>243 | n=>n,fun | 0=>0 | 2=>2 | 3=>3 | 4=>4 | 5=>5 | 9=>9 | 20=>20 | 37=>94 | 46=>95 | 51=>48 | 53=>52 | 171=>310 | 173=>312 | 212=>315 | 213=>316 | 232=>318 | 233=>126 | n=>n,fun | 17=>0 | 18=>1 | 19=>2 | n=>n⟩
theorem laysItoa:Go.Proofs.LaysM.n171 Tryz.prog laysItoa_ren where
 i0:=by kernel_rfl
 i2:=by kernel_rfl
 i3:=by kernel_rfl
 i4:=by kernel_rfl
 i5:=by kernel_rfl
 i9:=by kernel_rfl
 i20:=by kernel_rfl
 i37:=by kernel_rfl
 i46:=by kernel_rfl
 i51:=by kernel_rfl
 i53:=by kernel_rfl
 i171:=by kernel_rfl
 i173:=by kernel_rfl
 i212:=by kernel_rfl
 i232:=by kernel_rfl
 i233:=by kernel_rfl
 m17:=by kernel_rfl
 m18:=by kernel_rfl
 m19:=by kernel_rfl
 mixed:=by kernel_rfl
 f129:=Tryz.func217.trans (congrArg some (by kernel_rfl))
 f171:=Tryz.func218.trans (congrArg some (by kernel_rfl))
 f243:=Tryz.func229.trans (congrArg some (by kernel_rfl))
 f246:=Tryz.func233.trans (congrArg some (by kernel_rfl))
 f283:=Tryz.func234.trans (congrArg some (by kernel_rfl))
 f284:=Tryz.func235.trans (congrArg some (by kernel_rfl))
 f285:=Tryz.func236.trans (congrArg some (by kernel_rfl))
 f286:=Tryz.func237.trans (congrArg some (by kernel_rfl))
 f317:=Tryz.func238.trans (congrArg some (by kernel_rfl))
 f318:=Tryz.func239.trans (congrArg some (by kernel_rfl))
 f319:=Tryz.func240.trans (congrArg some (by kernel_rfl))
 f320:=Tryz.func241.trans (congrArg some (by kernel_rfl))
 f337:=Tryz.func242.trans (congrArg some (by kernel_rfl))
 f338:=Tryz.func243.trans (congrArg some (by kernel_rfl))
 t0:=Tryz.underlying0
 a0:=Tryz.isAgg0
 z0:=Tryz.sizeOf0
 v0:=Tryz.zeroValue0
 t2:=Tryz.underlying2
 a2:=Tryz.isAgg2
 z2:=Tryz.sizeOf2
 v2:=Tryz.zeroValue2
 t3:=Tryz.underlying3
 a3:=Tryz.isAgg3
 z3:=Tryz.sizeOf3
 v3:=Tryz.zeroValue3
 t4:=Tryz.underlying4
 a4:=Tryz.isAgg4
 z4:=Tryz.sizeOf4
 v4:=Tryz.zeroValue4
 t5:=Tryz.underlying5
 a5:=Tryz.isAgg5
 z5:=Tryz.sizeOf5
 v5:=Tryz.zeroValue5
 t9:=Tryz.underlying9
 a9:=Tryz.isAgg9
 z9:=Tryz.sizeOf9
 v9:=Tryz.zeroValue9
 t20:=Tryz.underlying20
 a20:=Tryz.isAgg20
 z20:=Tryz.sizeOf20
 v20:=Tryz.zeroValue20
 t37:=Tryz.underlying94
 a37:=Tryz.isAgg94
 z37:=Tryz.sizeOf94
 v37:=Tryz.zeroValue94
 t46:=Tryz.underlying95
 a46:=Tryz.isAgg95
 z46:=Tryz.sizeOf95
 v46:=Tryz.zeroValue95
 t51:=Tryz.underlying48
 a51:=Tryz.isAgg48
 z51:=Tryz.sizeOf48
 v51:=Tryz.zeroValue48
 t53:=Tryz.underlying52
 a53:=Tryz.isAgg52
 z53:=Tryz.sizeOf52
 v53:=Tryz.zeroValue52
 t171:=Tryz.underlying310
 a171:=Tryz.isAgg310
 z171:=Tryz.sizeOf310
 v171:=Tryz.zeroValue310
 t173:=Tryz.underlying312
 a173:=Tryz.isAgg312
 z173:=Tryz.sizeOf312
 v173:=Tryz.zeroValue312
 t212:=Tryz.underlying315
 a212:=Tryz.isAgg315
 z212:=Tryz.sizeOf315
 v212:=Tryz.zeroValue315
 t213:=Tryz.underlying316
 a213:=Tryz.isAgg316
 z213:=Tryz.sizeOf316
 t232:=Tryz.underlying318
 a232:=Tryz.isAgg318
 z232:=Tryz.sizeOf318
 v232:=Tryz.zeroValue318
 t233:=Tryz.underlying126
 a233:=Tryz.isAgg126
 z233:=Tryz.sizeOf126
 v233:=Tryz.zeroValue126
 g17:=by kernel_rfl
 g18:=by kernel_rfl
 g19:=by kernel_rfl
theorem itoaS {g:World} {A:HP} (hT:Tab Tryz.prog A) (n:Nat) (hn:n≤1000):Spec Tryz.prog g 218 [.int .i64 n] [A] fun K R=>K (.string (itoaB n)) (A::R):=itoa_spec laysItoa hT n (by omega)
theorem word_spec {g:World} {A:HP} (hT:Tab Tryz.prog A) (n:Nat) (hn:n≤1000):Spec Tryz.prog g 199 [.int .i64 n] [A] fun K R=>K (.string (wdB n)) (A::R):=by
 refine Spec.intro Tryz.func199 rfl Tryz.ntmps199 rfl fun R K hK=>?_
 refine WP.seq<|WP.reg<|WL.e e_assign<|WL.next<|WP.seq<|WP.reg<|WL.e e_move ?_
 refine WL.h (h_call (itoaS hT n hn) k218 ?_)
 refine WL.e (e_sadd rfl rfl (wd_size n hn))<|WL.e e_assign<|WL.next<|WP.ret ?_
 exact PO.fin Tryz.results199 (rv_tmp rv_nil) hK
theorem markId_spec {g:World} (n:Nat) (hn:n≤1000):Spec Tryz.prog g 151 [.int .i64 n] [] fun K R=>K (.int .u32 (mkId n).toNat) R:=by
 refine Spec.intro Tryz.func151 rfl Tryz.ntmps151 rfl fun R K hK=>?_
 refine WP.seq<|WP.reg<|WL.e e_assign<|WL.next<|WP.seq<|WP.reg<|WL.e e_move<|WL.e (e_add (c:=((1000+n:Nat):Int)) rfl rfl (by rw [w_i64 (by omega) (by omega)];omega))<|WL.e (e_conv (by rw [Tryz.underlying3];rfl) Tryz.underlying48 rfl rfl)<|WL.e e_assign<|WL.next<|WP.ret ?_
 exact PO.fin Tryz.results151 (rv_tmp rv_nil) hK
theorem isId_spec {g:World} (x:UInt32) (n:Nat) (hn:n≤1000):Spec Tryz.prog g 163 [.int .u32 x.toNat,.int .i64 n] [] fun K R=>K (.bool (x == mkId n)) R:=by
 refine Spec.intro Tryz.func163 rfl Tryz.ntmps163 rfl fun R K hK=>?_
 refine WP.seq<|WP.reg<|WL.e e_assign<|WL.next<|WP.seq<|WP.reg<|WL.e e_move<|WL.e e_move<|WL.e (e_add (c:=((1000+n:Nat):Int)) rfl rfl (by rw [w_i64 (by omega) (by omega)];omega))<|WL.e (e_conv (by rw [Tryz.underlying3];rfl) Tryz.underlying48 rfl rfl)<|WL.e (e_eql32 (b:=mkId n))<|WL.e e_assign<|WL.next<|WP.ret ?_
 exact PO.fin Tryz.results163 (rv_tmp rv_nil) hK
theorem markRow_spec {g:World} {A:HP} (hT:Tab Tryz.prog A) (n:Nat) (hn:n≤1000):Spec Tryz.prog g 154 [.int .i64 n] [A] fun K R=>K (mkRow n).v (A::R):=by
 refine Spec.intro Tryz.func154 rfl Tryz.ntmps154 rfl fun R K hK=>?_
 refine WP.seq<|WP.reg ?_
 refine WL.h (h_alloc z78 fun b1=>?_)
 refine WL.next<|WP.seq<|WP.reg<|WL.e e_move ?_
 refine WL.h (h_call (word_spec hT n hn) k199 ?_)
 refine WL.e (e_build z78 p78 (.o (.tmp 4) rfl<|.z (.int .u32 0)<|.n)) ?_
 refine WL.h' (h_store s78 ?_)
 refine WL.next<|WP.ret ?_
 exact PO.fin Tryz.results154 (rv_cellN a78 rv_nil) hK
theorem isRow_spec {g:World} {A:HP} (hT:Tab Tryz.prog A) (x:RowM) (n:Nat) (hn:n≤1000):Spec Tryz.prog g 166 [x.v,.int .i64 n] [A] fun K R=>K (.bool (sEq x.key (wdB n))) (A::R):=by
 refine Spec.intro Tryz.func166 rfl Tryz.ntmps166 rfl fun R K hK=>?_
 refine WP.seq<|WP.reg ?_
 refine WL.h (h_box fun b1=>?_)
 refine WL.e e_assign<|WL.next<|WP.seq<|WP.draws mixedOk 6<|RW.e 0 rfl (e_fa f78_0)<|RW.e 1 rfl (e_load a9)<|RW.e 2 rfl e_move ?_
 refine RW.any (is:=[3]) rfl ⟨?_,trivial⟩
 refine RWat.h rfl rfl rfl ?_
 refine (h_call (word_spec hT n hn) k199 ?_)
 refine ⟨⟨⟨_,rfl,.inl ⟨rfl,(e_load a9)⟩⟩,⟨_,rfl,.inl ⟨rfl,(e_fa f78_0)⟩⟩,trivial⟩,?_⟩
 refine RW.e 4 rfl e_seq<|RW.e 5 rfl e_assign<|RW.done<|PO.next<|WP.ret ?_
 exact PO.fin Tryz.results166 (rv_tmp rv_nil) hK
end Go.SL
