import Derived.Test.YtegjbklnhiionaaGreatQP13
set_option linter.unusedSimpArgs false
set_option linter.unusedVariables false
namespace Go.SL.Fc
end Go.SL.Fc
namespace Go.SL
open Go Go.Proofs Fc
set_option maxHeartbeats 2000000 in
theorem ZdQ_ {g:World} {u:Value} (xs:List UInt32) (hs:ZaU_ xs) (hn:xs.length≤68719476736):Spec Tryz.prog g 188 [u] [Sl 24 1 u32C (u) (xs)] fun K R=>∀ a n c ys,Ju' ys→(∀ x,x ∈ ys↔x ∈ xs)→K (.slice a n c) (Sl 24 1 u32C (.slice a n c) (ys)::R):=by
 refine Spec.intro Tryz.func188 rfl Tryz.ntmps188 rfl fun R K hK=>?_
 refine WP.seq<|WP.reg<|WL.e Zb'<|WL.next<|WP.seq<|WP.seq<|WP.reg<|WL.e Za'<|WL.e (ZD' (xs:=xs) sl36 Zr')<|WL.e Z3'<|WL.next ?_
 refine WP.cond rfl (fun h0=>?_) (fun h0=>?_)
 ·have hx2:Ju' xs:=by match xs,h0 with
   | [],_=>exact List.Pairwise.nil
   | [x],_=>simp
   | x::y::l,h=>simp at h;omega
  refine WP.seq<|WP.reg<|WL.e Za'<|WL.e Zb'<|WL.next<|WP.ret<|PO.past nofun<|PO.sh (u:=u) fun a9 m9 c9 e9=>?_
  subst e9
  exact PO.fin Tryz.results188 (Zd' Zf') (hK a9 m9 c9 xs hx2 (fun _=>Iff.rfl))
 ·replace h0:2≤xs.length:=by rw [decide_eq_false_iff_not] at h0;omega
  refine WP.skip<|PO.next<|WP.seq<|WP.seq<|WP.reg<|WL.e Zb'<|WL.next<|WP.block ?_
  refine WP.loopK (fun (i:Nat)=>[(3,.int .i64 i)]) (fun (i:Nat)=>Sl 24 1 u32C (u) (xs)::R) [(0,_)] (fun (i:Nat)=>1≤i∧i≤xs.length∧Ju' (xs.take i)) (fun (i:Nat)=>xs.length - i) 1 (⟨Nat.le_refl _,by omega,by match xs,h0 with
   | x::l,_=>simp⟩) ?_
  rintro i0 ⟨hi1,hi2,hst⟩
  refine WP.seq<|WP.seq<|WP.reg<|WL.e Za'<|WL.e Za'<|WL.e (ZD' (xs:=xs) sl36 Zr')<|WL.e Z3'<|WL.next ?_
  refine WP.cond rfl (fun h1=>?_) (fun h1=>?_)
  ·have hlt:i0 < xs.length:=by rw [decide_eq_true_eq] at h1;omega
   obtain ⟨a,ha⟩:∃ a,xs[i0]?=some a:=⟨_,List.getElem?_eq_getElem hlt⟩
   obtain ⟨b,hb⟩:∃ b,xs[i0 - 1]?=some b:=⟨_,List.getElem?_eq_getElem (by omega)⟩
   refine WP.skip<|PO.next<|WP.seq<|WP.block<|WP.seq<|WP.draws Zq' 10<|RW.e 0 rfl Za'<|RW.e 1 rfl Za'<|RW.e 2 rfl (ZZ' (j:=i0) (xs:=xs) sl36 Zr' hlt)<|RW.e 3 rfl (Ys' (j:=i0) (a:=a) a24 u32E Zr' ha)<|RW.e 4 rfl Za'<|RW.e 5 rfl Za'<|RW.e 6 rfl (ZX' (b:=1))<|RW.e 7 rfl (ZZ' (j:=i0 - 1) (xs:=xs) sl36 Zr' (by omega))<|RW.e 8 rfl (Ys' (j:=i0 - 1) (a:=b) a24 u32E Zr' hb)<|RW.e 9 rfl (Jt')<|RW.done<|PO.next ?_
   refine WP.cond rfl (fun h2=>?_) (fun h2=>?_)
   ·obtain rfl:a=b:=by simpa using h2
    have hI0:=CmpI.start hst hi1 ha hb
    refine WP.seq<|WP.reg<|WL.e Za'<|WL.e Za'<|WL.e (XV' (lo:=i0) (xs:=xs) sl36 Zr' (by omega))<|WL.e Zb'<|WL.next<|WP.seq<|WP.seq<|WP.reg<|WL.e Zb'<|WL.next<|WP.block<|WP.loopK (fun (x:Nat × Nat × List UInt32)=>[(5,.int .i64 x.1),(3,.int .i64 x.2.1)]) (fun (x:Nat × Nat × List UInt32)=>Sl 24 1 u32C (u) (x.2.2)::R) [(0,_),(4,_),(10,_),(11,_),(12,_),(13,_),(16,_),(17,_),(18,_),(19,_),(20,_),(21,_),(22,_),(23,_),(24,_),(25,_),(26,_),(27,_),(28,_)] (fun (x:Nat × Nat × List UInt32)=>1≤x.1∧i0+x.1≤xs.length∧CmpI xs x.2.2 x.2.1 (i0+x.1)) (fun (x:Nat × Nat × List UInt32)=>xs.length - x.1) (1,i0,xs) (⟨Nat.le_refl _,by simp only;omega,hI0⟩) ?_
    rintro ⟨k,i,ds⟩ ⟨hk1,hk2,hI⟩
    simp only at hk1 hk2 hI
    dsimp only
    have hdl:=hI.len
    have hic:=hI.ic
    have hi1:=hI.i1
    have hFR:RL (Sl 24 1 u32C (u) (ds)) 1 u32C (subV u i0 xs.length none 1) (ds.drop i0):=by
     have:=RL.from_ (lo:=i0) u32E (Zr' (E:=24) (u:=u) (xs:=ds)) (by omega)
     rwa [hdl] at this
    refine WP.seq<|WP.seq<|WP.reg<|WL.e Za'<|WL.e Za'<|WL.e (ZD' (xs:=ds.drop i0) sl36 hFR)<|WL.e Z3'<|WL.next ?_
    refine WP.cond rfl (fun h3=>?_) (fun h3=>?_)
    ·have hlt2:i0+k < xs.length:=by rw [decide_eq_true_eq,List.length_drop] at h3;omega
     obtain ⟨c,hc⟩:∃ a,xs[i0+k]?=some a:=⟨_,List.getElem?_eq_getElem hlt2⟩
     obtain ⟨d,hd⟩:∃ a,xs[i0+k - 1]?=some a:=⟨_,List.getElem?_eq_getElem (by omega)⟩
     have hc2:(ds.drop i0)[k]?=some c:=by rw [List.getElem?_drop,hI.rest _ (by omega)];exact hc
     have hd2:(ds.drop i0)[k - 1]?=some d:=by rw [List.getElem?_drop,show i0+(k - 1)=i0+k - 1 by omega,hI.rest _ (Nat.le_refl _)];exact hd
     refine WP.skip<|PO.next<|WP.seq<|WP.block<|WP.seq<|WP.draws Zq' 10<|RW.e 0 rfl Za'<|RW.e 1 rfl Za'<|RW.e 2 rfl (ZZ' (j:=k) (xs:=ds.drop i0) sl36 hFR (by rw [List.length_drop];omega))<|RW.e 3 rfl (Ys' (j:=k) (a:=c) a24 u32E hFR hc2)<|RW.e 4 rfl Za'<|RW.e 5 rfl Za'<|RW.e 6 rfl (ZX' (b:=1))<|RW.e 7 rfl (ZZ' (j:=k - 1) (xs:=ds.drop i0) sl36 hFR (by rw [List.length_drop];omega))<|RW.e 8 rfl (Ys' (j:=k - 1) (a:=d) a24 u32E hFR hd2)<|RW.e 9 rfl (XE')<|RW.done<|PO.next ?_
     refine WP.cond rfl (fun h4=>?_) (fun h4=>?_)
     ·have hne:c≠d:=by simpa using h4
      refine WP.seq<|WP.reg<|WL.e Za'<|WL.e Za'<|WL.e Za'<|WL.e Za'<|WL.e (ZZ' (j:=k) (xs:=ds.drop i0) sl36 hFR (by rw [List.length_drop];omega))<|WL.e (Ys' (j:=k) (a:=c) a24 u32E hFR hc2)<|WL.e (ZZ' (j:=i) (xs:=ds) sl36 Zr' (by omega)) ?_
      refine WL.h' (Vq' (xs:=ds) (j:=i) c s24 u32E (by omega) ?_)
      refine WL.next<|WP.reg<|WL.e Za'<|WL.e (ZF' (b:=1))<|WL.e Zb'<|WL.nil<|PO.blockN<|PO.next<|WP.reg<|WL.e Za'<|WL.e (ZF' (b:=1))<|WL.e Zb'<|WL.nil ?_
      exact PO.againK (k+1,i+1,ds.set i c) ⟨by simp only;omega,by simp only;omega,hI.put hs hc hd hne⟩ (by simp only;omega)
     ·obtain rfl:c=d:=by simpa using h4
      refine WP.skip<|PO.blockN<|PO.next<|WP.reg<|WL.e Za'<|WL.e (ZF' (b:=1))<|WL.e Zb'<|WL.nil ?_
      exact PO.againK (k+1,i,ds) ⟨by simp only;omega,by simp only;omega,hI.same hc hd⟩ (by simp only;omega)
    ·have hend:i0+k=xs.length:=by rw [decide_eq_false_iff_not,List.length_drop] at h3;omega
     refine WP.exit<|PO.past nofun<|PO.round nofun<|PO.blockX<|PO.next<|WP.seq<|WP.reg<|WL.e Za'<|WL.e Za'<|WL.e (XV' (lo:=i) (xs:=ds) sl36 Zr' (by omega)) ?_
     refine WL.h' (ZeA_ (lo:=i) (xs:=ds) 0 sl36 z24 u32E rfl (by omega) (by omega) ?_)
     refine WL.next<|WP.seq<|WP.reg<|WL.e Za'<|WL.e Za'<|WL.e (VH' (hi:=i) (xs:=ds.take i++List.replicate (ds.length - i) 0) sl36 Zr' (by simp;omega))<|WL.e Zb'<|WL.next<|WP.ret<|PO.blockR<|PO.past nofun<|PO.round nofun<|PO.blockR<|PO.past nofun<|PO.conv (YS' (A:=Sl 24 1 u32C (u) (ds.take i++List.replicate (ds.length - i) 0)) (B:=Sl 24 1 u32C (subV u 0 i none 1) (ds.take i)) (fun S h=>by have h2:=ZhL_ (i:=i) u32E h (by simp;omega);rwa [List.take_left' (by simp;omega)] at h2) (by repeat first | exact .z | apply Put.s)) ?_
     refine PO.sh (u:=subV u 0 i none 1) fun a9 m9 c9 e9=>?_
     rw [e9]
     exact PO.fin Tryz.results188 (Zd' Zf') (hK a9 m9 c9 (ds.take i) hI.str (fun x=>by rw [hI.mem,hend,List.take_length]))
   ·have hne:a≠b:=by simpa using h2
    refine WP.skip<|PO.blockN<|PO.next<|WP.reg<|WL.e Za'<|WL.e (ZF' (b:=1))<|WL.e Zb'<|WL.nil ?_
    exact PO.againK (i0+1) ⟨by omega,by omega,Zf8_ hs hst hi1 ha hb hne⟩ (by omega)
  ·have hst2:Ju' xs:=by rwa [List.take_of_length_le (show xs.length≤i0 by rw [decide_eq_false_iff_not] at h1;omega)] at hst
   refine WP.exit<|PO.past nofun<|PO.round nofun<|PO.blockX<|PO.next<|WP.seq<|WP.reg<|WL.e Za'<|WL.e Zb'<|WL.next<|WP.ret<|PO.sh (u:=u) fun a9 m9 c9 e9=>?_
   subst e9
   exact PO.fin Tryz.results188 (Zd' Zf') (hK a9 m9 c9 xs hst2 (fun _=>Iff.rfl))
end Go.SL
namespace Go.SL.Fc
open Go Go.Proofs Go.SL
theorem a133:ZK' Tryz.prog 133=some none:=by kernel_rfl
theorem a36:ZK' Tryz.prog 36=some none:=by kernel_rfl
theorem Zcq_:ZO' Tryz.prog 281 1=some 2:=by kernel_rfl
theorem k176:Zh' Tryz.prog 176=true:=by kernel_rfl
theorem k177:Zh' Tryz.prog 177=true:=by kernel_rfl
theorem k178:Zh' Tryz.prog 178=true:=by kernel_rfl
theorem k179:Zh' Tryz.prog 179=true:=by kernel_rfl
theorem k187:Zh' Tryz.prog 187=true:=by kernel_rfl
theorem k188:Zh' Tryz.prog 188=true:=by kernel_rfl
theorem k192:Zh' Tryz.prog 192=true:=by kernel_rfl
theorem k50:Zh' Tryz.prog 50=true:=by kernel_rfl
theorem p281:Ya' Tryz.prog 281=some [(0,2),(2,1)]:=by kernel_rfl
theorem s281:szOf Tryz.prog 281=some 3:=by kernel_rfl
theorem s36:szOf Tryz.prog 36=some 1:=by kernel_rfl
theorem s4:szOf Tryz.prog 4=some 1:=by kernel_rfl
theorem z281:ZH' Tryz.prog 281=some [.string .empty,.string .empty,.bool false]:=by kernel_rfl
theorem z36:ZH' Tryz.prog 36=some [.slice none 0 0]:=by kernel_rfl
end Go.SL.Fc
namespace Go.SL
open Go Go.Proofs Fc
theorem Zfi_ {g:World} {p:Nat} (n:UInt32):Spec Tryz.prog g 187 [.pointer (some ⟨p,0,none⟩),.int .u32 n.toNat] [] fun K R=>∀ c2 c3,K (.func (.func 192) #[] #[.pointer (some ⟨c2,0,none⟩),.pointer (some ⟨c3,0,none⟩)]) (cl c2 133 [.pointer (some ⟨p,0,none⟩)]::cl c3 24 [.int .u32 n.toNat]::R):=by
 refine Spec.intro Tryz.func187 rfl Tryz.ntmps187 rfl fun R K hK=>?_
 refine WP.seq<|WP.reg ?_
 refine WL.h (ZL' fun b1=>?_)
 refine WL.h (ZL' fun b2=>?_)
 refine WL.e Zb'<|WL.next<|WP.seq<|WP.reg<|WL.e Ym'<|WL.e Zb'<|WL.next<|WP.ret ?_
 exact PO.fin Tryz.results187 (Zd' Zf') (hK b1 b2)
set_option maxHeartbeats 4000000 in
theorem Zgf_ {g:World} {c2 c3 p m:Nat} {n:UInt32} {es:List (EntV UInt32 LockM)} (hn:∀ e ∈ es,e.ws.length≤68719476000):Iter Tryz.prog g 192 (fun y=>[]++[y]++[.pointer (some ⟨c2,0,none⟩),.pointer (some ⟨c3,0,none⟩)]) [cl c2 133 [.pointer (some ⟨p,0,none⟩)],cl c3 24 [.int .u32 n.toNat],cl p 176 [.map (some m)],Mp eU32 (.map (some m)) (List.map kvE (es)),Ents 281 3 LockM.c (es)] lkC (fun _=>pu True) (fun xs=>xs.Perm (YK' n es)) (fun pre=>∃ r,(pre++r).Perm (YK' n es)) [cl c2 133 [.pointer (some ⟨p,0,none⟩)],cl c3 24 [.int .u32 n.toNat],cl p 176 [.map (some m)],Mp eU32 (.map (some m)) (List.map kvE (es)),Ents 281 3 LockM.c (es)]:=by
 intro y J X cont hy
 refine Spec.intro Tryz.func192 rfl Tryz.ntmps192 rfl fun R K hK=>?_
 refine WP.seq<|WP.reg<|WL.e (Zc' a133)<|WL.e Zk'<|WL.e (e_fa Q3')<|WL.e (Zc' a174) ?_
 refine WL.h (Xt' (kvs:=List.map kvE es) Tryz.underlying174 fun it=>?_)
 refine WL.next<|WP.block<|WP.loopK (fun (x:List (EntV UInt32 LockM) × List (UInt32 × LockM) × Option (UInt32 × Value))=>[]) (fun (x:List (EntV UInt32 LockM) × List (UInt32 × LockM) × Option (UInt32 × Value))=>J x.2.1::MpIt eU32 (.map (some m)) it (List.map kvE es) (List.map kvE x.1) x.2.2::cl c2 133 [.pointer (some ⟨p,0,none⟩)]::cl c3 24 [.int .u32 n.toNat]::cl p 176 [.map (some m)]::Ents 281 3 LockM.c (es)::R) [(0,_),(2,_),(12,_)] (fun (x:List (EntV UInt32 LockM) × List (UInt32 × LockM) × Option (UInt32 × Value))=>(x.2.1++YK' n x.1).Perm (YK' n es)∧Hist cont x.2.1∧∀ e ∈ x.1,e ∈ es) (fun (x:List (EntV UInt32 LockM) × List (UInt32 × LockM) × Option (UInt32 × Value))=>x.1.length) (es,[],none) (⟨.refl _,Hist.nil,fun e h=>h⟩) ?_
 rintro ⟨left,pre,cur⟩ ⟨hx1,hx2,hx3⟩
 simp only at hx1 hx2 hx3
 dsimp only
 refine WP.seq<|WP.reg ?_
 refine WL.h (XY' (fun h0=>?_) (fun a y0 b0 hx=>?_))
 ·have hl0:left=[]:=by simpa using h0
  subst hl0
  refine WL.e Ze'<|WL.next<|WP.seq<|WP.cond_f rfl<|WP.exit<|PO.past nofun<|PO.round nofun<|PO.blockX ?_
  exact PO.fin Tryz.results192 Zf' (hK.1 pre (by simpa [YK'] using hx1) hx2)
 ·obtain ⟨A1,y1,B1,hl,rfl,rfl,rfl⟩:=Xw' hx
  have htk:=Zf9_ hx1 hl
  have hyes:y1 ∈ es:=hx3 y1 (by rw [hl];simp)
  have hwl:=hn y1 hyes
  refine WL.e Ze'<|WL.next<|WP.seq<|WP.cond_t rfl<|WP.skip<|PO.next<|WP.block<|WP.seq<|WP.reg<|WL.e Xi'<|WL.e Ze'<|WL.e Ze'<|WL.e Zb'<|WL.e Zb'<|WL.next<|WP.seq<|WP.reg<|WL.e Za'<|WL.e (ZD' (xs:=y1.ws) QK' (Kn' hyes))<|WL.e Za'<|WL.next<|WP.block<|WP.loopK (fun (x:Nat × List (UInt32 × LockM))=>[(20,.int .i64 x.1)]) (fun (x:Nat × List (UInt32 × LockM))=>J x.2::MpIt eU32 (.map (some m)) it (List.map kvE es) (List.map kvE A1++List.map kvE B1) (some (kvE y1))::cl c2 133 [.pointer (some ⟨p,0,none⟩)]::cl c3 24 [.int .u32 n.toNat]::cl p 176 [.map (some m)]::Ents 281 3 LockM.c (es)::R) [(0,_),(2,_),(4,_),(5,_),(12,_),(13,_),(14,_),(15,_),(16,_),(17,_),(18,_),(19,_)] (fun (x:Nat × List (UInt32 × LockM))=>x.1≤y1.ws.length∧x.2=pre++blkL n y1 x.1∧Hist cont x.2) (fun (x:Nat × List (UInt32 × LockM))=>y1.ws.length - x.1) (0,pre) (⟨Nat.zero_le _,by simp [blkL],hx2⟩) ?_
  rintro ⟨k,pre2⟩ ⟨hk,hp2,hh2⟩
  simp only at hk hp2 hh2
  dsimp only
  refine WP.seq<|WP.reg<|WL.e Z3'<|WL.next<|WP.seq ?_
  refine WP.cond rfl (fun h3=>?_) (fun h3=>?_)
  ·have hlt:k < y1.ws.length:=by rw [decide_eq_true_eq] at h3;omega
   obtain ⟨l,hl2⟩:∃ l,y1.ws[k]?=some l:=⟨_,List.getElem?_eq_getElem hlt⟩
   refine WP.skip<|PO.next<|WP.seq<|WP.block<|WP.seq<|WP.reg<|WL.e (ZZ' (j:=k) (xs:=y1.ws) QK' (Kn' hyes) hlt)<|WL.e (YA' (a:=l) a281 VZ' (Kn' hyes) hl2) ?_
   refine WL.h (Zu' z281 fun b1=>?_)
   refine WL.h' (Zj' s281 ?_)
   refine WL.next<|WP.seq<|WP.reg<|WL.e Za'<|WL.e (Zc' a24)<|WL.e (XE')<|WL.e Za' ?_
   refine WL.bool 27 rfl (fun hg=>?_) (fun hg=>?_)
   ·replace hg:y1.key≠n:=(show ¬ (kvE y1).1=n by simpa using hg)
    refine WL.e Za'<|WL.e Za'<|WL.e (Zm' a281) ?_
    refine WL.h (HO.conv (fun S h=>Yt' trivial h) (YE' (hy pre2 (y1.key,l) (hp2 ▸ (Zcp_ hg htk hl2)) hh2) ?_))
    refine ⟨fun hc=>?_,fun hc=>?_⟩
    ·skip
     refine WL.e Zx'<|WL.e Zn'<|WL.next<|WP.cond_f rfl<|WP.skip<|PO.blockN<|PO.next<|WP.reg<|WL.e (ZE' rfl rfl (Zt' (by omega) (by omega)))<|WL.e Za'<|WL.nil ?_
     exact PO.againK (k+1,pre2++[(y1.key,l)]) ⟨by simp only;omega,by simp only;rw [Zfe_ hg hl2,hp2,List.append_assoc],hh2.snoc hc⟩ (by simp only;omega)
    ·skip
     refine WL.e Zx'<|WL.e Zn'<|WL.next<|WP.cond_t rfl<|WP.ret<|PO.blockR<|PO.past nofun<|PO.round nofun<|PO.blockR<|PO.blockR<|PO.round nofun<|PO.blockR<|PO.conv (YS' (A:=MpIt eU32 (.map (some m)) it (List.map kvE es) _ _) (B:=Mp eU32 (.map (some m)) (List.map kvE (es))) JT' (by repeat first | exact .z | apply Put.s)) ?_
     exact PO.fin Tryz.results192 Zf' (hK.2 pre2 (y1.key,l) (hp2 ▸ (Zcp_ hg htk hl2)) hh2 hc)
   ·replace hg:y1.key=n:=(show (kvE y1).1=n by simpa using hg)
    refine WL.skip<|WL.skip<|WL.skip<|WL.skip<|WL.skip<|WL.e Zl'<|WL.next<|WP.cond_f rfl<|WP.skip<|PO.blockN<|PO.next<|WP.reg<|WL.e (ZE' rfl rfl (Zt' (by omega) (by omega)))<|WL.e Za'<|WL.nil ?_
    exact PO.againK (k+1,pre2) ⟨by simp only;omega,by simp only;rw [hp2,ZlI_ hg k (k+1)],hh2⟩ (by simp only;omega)
  ·obtain rfl:k=y1.ws.length:=by rw [decide_eq_false_iff_not] at h3;omega
   refine WP.exit<|PO.past nofun<|PO.round nofun<|PO.blockX<|PO.blockN ?_
   rw [← List.map_append]
   exact PO.againK (A1++B1,pre2,_) ⟨by simp only;rw [hp2,List.append_assoc];exact htk,hh2,fun e he=>hx3 e (by rw [hl];rcases List.mem_append.1 he with h | h <;> simp [h])⟩ (by simp only [hl,List.length_append,List.length_cons];omega)
def WayJ (b1 b2 b3:Nat) (sp:SpanM) (w:Bool) (pre:List (UInt32 × LockM)):HP:=fun S=>∃ sv:SV,Zo' [cl b1 45 (SpanM.c sp),cl b2 4 [.bool w],cl b3 36 [sv.v],Sl 24 1 u32C (sv.v) (((pre).filter (inW w sp)).map (·.1))] S
set_option maxHeartbeats 4000000 in
theorem Zj4_ {g:World} {p:Nat} {L:LkT} (n:UInt32) (sp:SpanM) (w:Bool) (hn:n≠0) (hm:meet sp sp=true) (hk:(L.map (·.1)).Nodup) (ht:totL L≤2000000000):Spec Tryz.prog g 177 [.pointer (some ⟨p,0,none⟩),.int .u32 n.toNat,sp.v,.bool w] [Lk p L] fun K R=>∀ a k c,K (.slice a k c) (Sl 24 1 u32C (.slice a k c) (wayL L n sp w)::Lk p L::R):=by
 refine Spec.intro Tryz.func177 rfl Tryz.ntmps177 rfl fun R K hK=>?_
 refine WP.seq<|WP.reg ?_
 refine WL.h (ZL' fun b1=>?_)
 refine WL.h (ZL' fun b2=>?_)
 refine WL.h (Zu' z36 fun b3=>?_)
 refine WL.next<|WP.seq<|WP.seq<|WP.reg<|WL.e Za' ?_
 refine WL.h (Zg' (V8') k175 ?_)
 refine WL.e Zx'<|WL.e Za' ?_
 refine WL.bool 14 rfl (fun h=>?_) (fun h=>?_)
 ·cases h 
 ·skip
  refine WL.e Za'<|WL.e (Zm' a45) ?_
  refine WL.h (Zg' (ZdH_ _ _) k176 ?_)
  refine WL.e Zx'<|WL.e Zl'<|WL.next ?_
  refine WP.cond rfl (fun h1=>?_) (fun h1=>?_)
  ·exact absurd h1 (by simp [hm,hn])
  ·refine WP.opn (ZdV_ (p:=p) (L:=L)) fun x=>?_
   obtain ⟨m,es⟩:=x
   dsimp only
   refine WP.pull (φ:=List.map stE es=L) (k:=fun hes=>?_)
   have htl:∀ e ∈ es,e.ws.length≤68719476000:=fun e he=>by have:=Ze6_ (L:=L) (e:=stE e) (by rw [← hes];exact List.mem_map.2 ⟨e,he,rfl⟩);simp only [stE] at this;omega
   have hol:=Zia_ n es
   rw [hes] at hol
   refine WP.skip<|PO.next<|WP.seq<|WP.seq<|WP.reg<|WL.e Za'<|WL.e Za' ?_
   refine WL.h (Zg' (Zfi_ n) k187 ?_)
   intro c2 c3
   refine WL.next<|WP.block<|WP.nils 24 1 u32C none ?_
   refine WP.cls (A:=WayJ b1 b2 b3 sp w []) (B:=[cl b1 45 (SpanM.c sp),cl b2 4 [.bool w],cl b3 36 [.slice none 0 0],Sl 24 1 u32C (.slice none 0 0) ([])]) (fun S h=>⟨⟨none,0,0⟩,h⟩) ?_
   refine WP.range (R:=?RR) (f:=192) (fs:=[]) (cs:=[.pointer (some ⟨c2,0,none⟩),.pointer (some ⟨c3,0,none⟩)]) (WayJ b1 b2 b3 sp w) (fun _ _ _=>pu True) (fun _ _=>True) (Zgf_ (c2:=c2) (c3:=c3) (p:=p) (m:=m) (n:=n) (es:=es) htl) k192 ?hLL ?_ ?_ ?_ (fun _=>rfl)
   case hLL=>repeat first | exact .nil | exact Pick.z | apply Pick.s | apply Split.cons
   ·rintro lb db fn tmps pre x R2 hp hh
    refine WP.opn (B:=fun sv:SV=>[cl b1 45 (SpanM.c sp),cl b2 4 [.bool w],cl b3 36 [sv.v],Sl 24 1 u32C (sv.v) (((pre).filter (inW w sp)).map (·.1))]) (fun _ h=>h) fun sv=>?_
    have hpl:(pre.filter (inW w sp)).length+1≤68719476000:=by obtain ⟨r,hr⟩:=hp;have h8:=hr.length_eq;have h9:=List.length_filter_le (inW w sp) pre;simp only [List.length_append,List.length_singleton] at h8;omega
    refine WP.seq<|WP.reg<|WL.e Zb'<|WL.next<|WP.reg ?_
    refine WL.h (Zu' z281 fun b4=>?_)
    refine WL.h' (Zj' s281 ?_)
    refine WL.nil<|PO.asg rfl (by repeat first | exact .z | apply Put.s)<|WP.block<|WP.seq<|WP.reg<|WL.e (Zc' a4)<|WL.e Za' ?_
    refine WL.bool 26 rfl (fun k1=>?_) (fun k1=>?_)
    ·skip
     refine WL.skip<|WL.skip<|WL.e Zn'<|WL.e Za'<|WL.e (e_fa Zfd_)<|WL.e (Zm' a45)<|WL.e (Zm' a45) ?_
     refine WL.h (Zg' (Y8' ⟨_,_⟩ ⟨_,_⟩) k30 ?_)
     refine WL.e Zn'<|WL.next ?_
     refine WP.cond rfl (fun h5=>?_) (fun h5=>?_)
     ·replace h5:meet x.2.s sp=true:=h5
      refine WP.reg<|WL.e (Zc' a36)<|WL.e Za' ?_
      refine WL.h (h_bs sl36 z24 (.o (.tmp 37) rfl<|.n) fun b5=>?_)
      refine WL.h (ZG' (xs:=((pre).filter (inW w sp)).map (·.1)) (ys:=[x.1]) sl36 u32E z24 (Z7' u32E [x.1] rfl) (by simp only [List.length_map,List.length_singleton];omega) (fun a5 n5 c5=>?_))
      refine WL.h' (Zj' s36 ?_)
      refine WL.nil<|PO.blockN<|PO.cls (A:=WayJ b1 b2 b3 sp w (pre++[x])) (B:=[cl b1 45 (SpanM.c sp),cl b2 4 [.bool w],cl b3 36 [.slice a5 n5 c5],Sl 24 1 u32C (.slice a5 n5 c5) (((pre).filter (inW w sp)).map (·.1)++[x.1])]) (fun S h=>⟨⟨a5,n5,c5⟩,by rw [Zff_ (show inW w sp x=true by simp only [inW];rw [show w=true from k1,h5];rfl)];exact h⟩) ?_
      exact PO.rnd trivial (by repeat first | exact .refl | exact Pick.z | apply Pick.s | apply Sub.cons | apply Sub.drop)
     ·replace h5:meet x.2.s sp=false:=h5
      refine WP.skip<|PO.blockN<|PO.cls (A:=WayJ b1 b2 b3 sp w (pre++[x])) (B:=[cl b1 45 (SpanM.c sp),cl b2 4 [.bool w],cl b3 36 [sv.v],Sl 24 1 u32C (sv.v) (((pre).filter (inW w sp)).map (·.1))]) (fun S h=>⟨sv,by rw [ZbE_ (show inW w sp x=false by simp only [inW];rw [h5];simp)];exact h⟩) ?_
      exact PO.rnd trivial (by repeat first | exact .refl | exact Pick.z | apply Pick.s | apply Sub.cons | apply Sub.drop)
    ·skip
     refine WL.e (e_fa Zcq_)<|WL.e (Zc' a4)<|WL.e Zl'<|WL.e Za' ?_
     refine WL.bool 30 rfl (fun k2=>?_) (fun k2=>?_)
     ·skip
      refine WL.e (e_fa Zfd_)<|WL.e (Zm' a45)<|WL.e (Zm' a45) ?_
      refine WL.h (Zg' (Y8' ⟨_,_⟩ ⟨_,_⟩) k30 ?_)
      refine WL.e Zn'<|WL.next ?_
      refine WP.cond rfl (fun h5=>?_) (fun h5=>?_)
      ·replace h5:meet x.2.s sp=true:=h5
       refine WP.reg<|WL.e (Zc' a36)<|WL.e Za' ?_
       refine WL.h (h_bs sl36 z24 (.o (.tmp 37) rfl<|.n) fun b6=>?_)
       refine WL.h (ZG' (xs:=((pre).filter (inW w sp)).map (·.1)) (ys:=[x.1]) sl36 u32E z24 (Z7' u32E [x.1] rfl) (by simp only [List.length_map,List.length_singleton];omega) (fun a5 n5 c5=>?_))
       refine WL.h' (Zj' s36 ?_)
       refine WL.nil<|PO.blockN<|PO.cls (A:=WayJ b1 b2 b3 sp w (pre++[x])) (B:=[cl b1 45 (SpanM.c sp),cl b2 4 [.bool w],cl b3 36 [.slice a5 n5 c5],Sl 24 1 u32C (.slice a5 n5 c5) (((pre).filter (inW w sp)).map (·.1)++[x.1])]) (fun S h=>⟨⟨a5,n5,c5⟩,by rw [Zff_ (show inW w sp x=true by simp only [inW];rw [show x.2.alone=true from k2,h5];simp)];exact h⟩) ?_
       exact PO.rnd trivial (by repeat first | exact .refl | exact Pick.z | apply Pick.s | apply Sub.cons | apply Sub.drop)
      ·replace h5:meet x.2.s sp=false:=h5
       refine WP.skip<|PO.blockN<|PO.cls (A:=WayJ b1 b2 b3 sp w (pre++[x])) (B:=[cl b1 45 (SpanM.c sp),cl b2 4 [.bool w],cl b3 36 [sv.v],Sl 24 1 u32C (sv.v) (((pre).filter (inW w sp)).map (·.1))]) (fun S h=>⟨sv,by rw [ZbE_ (show inW w sp x=false by simp only [inW];rw [h5];simp)];exact h⟩) ?_
       exact PO.rnd trivial (by repeat first | exact .refl | exact Pick.z | apply Pick.s | apply Sub.cons | apply Sub.drop)
     ·skip
      refine WL.skip<|WL.skip<|WL.skip<|WL.skip<|WL.e Zl'<|WL.next<|WP.cond_f rfl<|WP.skip<|PO.blockN<|PO.cls (A:=WayJ b1 b2 b3 sp w (pre++[x])) (B:=[cl b1 45 (SpanM.c sp),cl b2 4 [.bool w],cl b3 36 [sv.v],Sl 24 1 u32C (sv.v) (((pre).filter (inW w sp)).map (·.1))]) (fun S h=>⟨sv,by rw [ZbE_ (show inW w sp x=false by simp only [inW];rw [show w=false from k1,show x.2.alone=false from k2];rfl)];exact h⟩) ?_
      exact PO.rnd trivial (by repeat first | exact .refl | exact Pick.z | apply Pick.s | apply Sub.cons | apply Sub.drop)
   ·rintro db xs hp hh
    refine PO.opn (B:=fun sv:SV=>[cl b1 45 (SpanM.c sp),cl b2 4 [.bool w],cl b3 36 [sv.v],Sl 24 1 u32C (sv.v) (((xs).filter (inW w sp)).map (·.1))]) (fun _ h=>h) fun sv=>?_
    refine PO.blockN<|PO.next<|WP.seq<|WP.reg<|WL.e (Zc' a36) ?_
    refine WL.h (Zg' (Zge_ (((xs).filter (inW w sp)).map (·.1)) (by have h8:=hp.length_eq;have h9:=List.length_filter_le (inW w sp) xs;rw [List.length_map];omega)) k50 ?_)
    intro ys y1 y2
    refine WL.next<|WP.seq<|WP.reg<|WL.e (Zc' a36) ?_
    refine WL.h (Zg' (ZdQ_ ys y2 (by have h7:=y1.length_eq;have h8:=hp.length_eq;have h9:=List.length_filter_le (inW w sp) xs;rw [List.length_map] at h7;omega)) k188 ?_)
    intro a9 n9 c9 zs z1 z2
    obtain rfl:=Zod_ hk hes hp y1 z1 z2
    refine WL.h' (Zj' s36 ?_)
    refine WL.next<|WP.ret<|PO.conv (fun S h=>Yt' (show List.map stE (es)=L from hes) h) ?_
    refine PO.cls (A:=Lk p (L)) (B:=[pu (List.map stE (es)=L),cl p 176 [.map (some m)],Mp eU32 (.map (some m)) (List.map kvE (es)),Ents 281 3 LockM.c (es)]) (fun S h=>⟨(m,es),h⟩) ?_
    exact PO.finM (by repeat first | exact .z | apply Put.s) Tryz.results177 (YV' a36 Zf') (hK a9 n9 c9)
   ·exact fun _ _ _ _ _ _ hc=>absurd trivial hc
set_option maxHeartbeats 4000000 in
theorem Zj5_ {g:World} {p:Nat} {L:LkT} (n:UInt32) (sp:SpanM) (w:Bool) (hn:n≠0) (hm:meet sp sp=true) (hk:(L.map (·.1)).Nodup) (ht:totL L≤2000000000):Spec Tryz.prog g 166 [.pointer (some ⟨p,0,none⟩),.int .u32 n.toNat,sp.v,.bool w] [Lk p L] fun K R=>
   (0 < (wayL L n sp w).length→∀ a k c,K (.tuple #[.slice a k c,.int .i64 8]) (Sl 24 1 u32C (.slice a k c) (wayL L n sp w)::Lk p L::R))∧(¬ 0 < (wayL L n sp w).length→K (.tuple #[.slice none 0 0,.int .i64 0]) (Lk p (Y2' L n sp w)::R)):=by
 refine Spec.intro Tryz.func166 rfl Tryz.ntmps166 rfl fun R K hK=>?_
 refine WP.seq<|WP.reg ?_
 refine WL.h (ZL' fun b1=>?_)
 refine WL.e Zb'<|WL.e Zb'<|WL.next<|WP.seq<|WP.block<|WP.seq<|WP.reg<|WL.e Za' ?_
 refine WL.h (Zg' (V8') k175 ?_)
 refine WL.e Zx'<|WL.e Zb'<|WL.next<|WP.cond_f rfl<|WP.seq<|WP.reg<|WL.e Za'<|WL.e (Zm' a45) ?_
 refine WL.h (Zg' (ZdH_ _ _) k176 ?_)
 refine WL.e Zx'<|WL.e Zb'<|WL.next ?_
 refine WP.cond rfl (fun h1=>?_) (fun h1=>?_)
 ·exact absurd h1 (by simp [hm,hn])
 ·skip
  refine WP.skip<|PO.blockN<|PO.next<|WP.seq<|WP.seq<|WP.reg<|WL.e Za'<|WL.e Za'<|WL.e (Zm' a45)<|WL.e Za' ?_
  refine WL.h (Zg' (Zj4_ n sp w hn hm hk ht) k177 ?_)
  intro a1 k1 c1
  refine WL.e Zb'<|WL.next<|WP.seq<|WP.reg<|WL.e Za'<|WL.e (ZD' (xs:=wayL L n sp w) sl36 Zr')<|WL.e YY'<|WL.next ?_
  refine WP.cond rfl (fun h2=>?_) (fun h2=>?_)
  ·replace h2:0 < (wayL L n sp w).length:=by rw [decide_eq_true_eq] at h2;omega
   refine WP.seq<|WP.reg<|WL.e Za'<|WL.e Zb'<|WL.e Zb'<|WL.next<|WP.ret<|PO.past nofun ?_
   exact PO.fin Tryz.results166 (Zd' (Zd' Zf')) (hK.1 h2 a1 k1 c1)
  ·replace h2:¬ 0 < (wayL L n sp w).length:=by rw [decide_eq_false_iff_not] at h2;omega
   refine WP.opn (ZdV_ (p:=p) (L:=L)) fun x=>?_
   obtain ⟨m,es⟩:=x
   dsimp only
   refine WP.pull (φ:=List.map stE es=L) (k:=fun hes=>?_)
   have hwl:(wsE es n).length≤2000000000:=by
    cases hf:YM' es n with
    | none=>rw [ZbD_ hf];exact Nat.zero_le _
    | some e=>have:=Ze6_ (L:=L) (e:=stE e) (by rw [← hes];exact List.mem_map.2 ⟨e,(VQ' hf).1,rfl⟩);simp only [stE] at this;unfold wsE;rw [hf];simp only;omega
   refine WP.skip<|PO.next<|WP.seq<|WP.reg<|WL.e Za'<|WL.e Zk'<|WL.e (e_fa Q3')<|WL.e (Zc' a174)<|WL.e Za'<|WL.e (Un' (k:=n) (es:=es) Tryz.underlying174 (ZQ' Tryz.underlying24) ZmB_)<|WL.e Zb'<|WL.next<|WP.seq<|WP.reg<|WL.e Za'<|WL.e Ym' ?_
   refine WL.h (Zg' (Zf7_ (A:=Ents 281 3 LockM.c (es)) (B:=cl b1 45 (SpanM.c sp)) (p:=fun l=>eqS l.s sp) (Q2' n) (by omega) (fun l=>CallV.of_spec (fs:=[]) (cs:=[.pointer (some ⟨b1,0,none⟩)]) (Zj1_ (q:=b1) l sp) k179)) k178 ?_)
   refine WL.opn (QZ' es n) fun _=>?_
   refine WL.e Zb'<|WL.next<|WP.seq<|WP.seq<|WP.reg<|WL.e Za'<|WL.e Z3'<|WL.next ?_
   refine WP.cond rfl (fun h3=>?_) (fun h3=>?_)
   ·have hany:(wsE es n).any (fun l=>eqS l.s sp)=false:=by cases e:(wsE es n).any (fun l=>eqS l.s sp) with
     | false=>rfl
     | true=>rw [e,if_pos rfl,decide_eq_true_eq] at h3;omega
    refine WP.seq<|WP.draws Zq' 12<|RW.e 0 rfl Za'<|RW.e 1 rfl Zk'<|RW.e 2 rfl (e_fa Q3')<|RW.e 3 rfl (Zc' a174)<|RW.e 4 rfl Za'<|RW.e 5 rfl Za'<|RW.e 6 rfl (Zm' a45)<|RW.e 7 rfl Za'<|RW.e 8 rfl (Zv' z281 p281 (.a2 (.tmp 48) rfl<|.o (.tmp 49) rfl<|.n)) ?_
    refine RW.any (is:=[9]) rfl ⟨?_,trivial⟩
    refine RWat.h rfl rfl rfl ?_
    refine (h_bs QK' z281 (.a3 (.tmp 50) rfl<|.n) fun b2=>?_)
    refine ⟨⟨⟨_,rfl,.inl ⟨rfl,Za'⟩⟩,⟨_,rfl,.inl ⟨rfl,Za'⟩⟩,⟨_,rfl,.inl ⟨rfl,(Zc' a174)⟩⟩,⟨_,rfl,.inl ⟨rfl,(e_fa Q3')⟩⟩,⟨_,rfl,.inl ⟨rfl,Zk'⟩⟩,⟨_,rfl,.inl ⟨rfl,Za'⟩⟩,trivial⟩,?_⟩
    refine RW.any (is:=[10]) rfl ⟨?_,trivial⟩
    refine RWat.h rfl rfl rfl ?_
    refine (ZG' (xs:=(wsE es n)) (ys:=[(⟨sp,w⟩:LockM)]) QK' VZ' z281 (Z7' VZ' [(⟨sp,w⟩:LockM)] rfl) (by simp;omega) (fun a5 n5 c5=>?_))
    rw [← Zoe_ hany]
    refine ⟨⟨⟨_,rfl,.inl ⟨rfl,Za'⟩⟩,⟨_,rfl,.inl ⟨rfl,(Zc' a174)⟩⟩,⟨_,rfl,.inl ⟨rfl,(e_fa Q3')⟩⟩,⟨_,rfl,.inl ⟨rfl,Zk'⟩⟩,⟨_,rfl,.inl ⟨rfl,Za'⟩⟩,trivial⟩,?_⟩
    refine RW.any (is:=[11]) rfl ⟨?_,trivial⟩
    refine RWat.h' rfl rfl rfl ?_
    refine (YI' (k:=n) (kvs:=List.map kvE es) Tryz.underlying174 (ZQ' Tryz.underlying24) ?_)
    rw [show mset (List.map kvE es) n (.slice a5 n5 c5)=List.map kvE (setE es n ⟨a5,n5,c5⟩ (askL (wsE es n) sp w)) from Qp' es n ⟨a5,n5,c5⟩ _]
    refine ⟨trivial,?_⟩
    refine RW.done<|PO.next<|WP.seq<|WP.reg<|WL.e Zb'<|WL.e Zb'<|WL.next<|WP.ret<|PO.past nofun<|PO.cls (A:=Ents 281 3 LockM.c (setE es n ⟨a5,n5,c5⟩ (askL (wsE es n) sp w))) (B:=[Sl 281 3 LockM.c (.slice a5 n5 c5) (askL (wsE es n) sp w),Ents 281 3 LockM.c (delE es n)]) (JG' es n ⟨a5,n5,c5⟩ (askL (wsE es n) sp w)) ?_
    refine PO.conv (fun S h=>Yt' (show List.map stE (setE es n ⟨a5,n5,c5⟩ (askL (wsE es n) sp w))=Y2' L n sp w from (ZbF_ hes n sp w _)) h) ?_
    refine PO.cls (A:=Lk p (Y2' L n sp w)) (B:=[pu (List.map stE (setE es n ⟨a5,n5,c5⟩ (askL (wsE es n) sp w))=Y2' L n sp w),cl p 176 [.map (some m)],Mp eU32 (.map (some m)) (List.map kvE (setE es n ⟨a5,n5,c5⟩ (askL (wsE es n) sp w))),Ents 281 3 LockM.c (setE es n ⟨a5,n5,c5⟩ (askL (wsE es n) sp w))]) (fun S h=>⟨(m,setE es n ⟨a5,n5,c5⟩ (askL (wsE es n) sp w)),h⟩) ?_
    exact PO.fin Tryz.results166 (Zd' (Zd' Zf')) (hK.2 h2)
   ·have hany:(wsE es n).any (fun l=>eqS l.s sp)=true:=by cases e:(wsE es n).any (fun l=>eqS l.s sp) with
     | true=>rfl
     | false=>rw [e] at h3;simp at h3
    rw [if_pos hany]
    obtain ⟨i0,l0,hi0,hl0,hls,hask⟩:=Znh_ (w:=w) hany
    rw [hi0]
    refine WP.skip<|PO.next<|WP.seq<|WP.reg<|WL.e Za'<|WL.e Za'<|WL.e Za'<|WL.e Za'<|WL.e (ZZ' (j:=i0) (xs:=(wsE es n)) QK' Zr' (Yf' hl0))<|WL.e (Q9' (z:=3) (j:=i0) (xs:=(wsE es n)) Zcq_ Zr' (Yf' hl0))<|WL.e (Zgv_ (j:=i0) (f:=2) (xs:=(wsE es n)) (a:=l0) a4 VZ' Zr' hl0)<|WL.e Za' ?_
    refine WL.bool 60 rfl (fun k1=>?_) (fun k1=>?_)
    ·skip
     refine WL.skip<|WL.e Zn'<|WL.e (ZZ' (j:=i0) (xs:=(wsE es n)) QK' Zr' (Yf' hl0))<|WL.e (Q9' (z:=3) (j:=i0) (xs:=(wsE es n)) Zcq_ Zr' (Yf' hl0)) ?_
     refine WL.h' (ZbX_ (y:=0) (j:=0) (f:=i0 * 3+2) (n:=(wsE es n).length) (z:=3) (E:=281) (cs:=(wsE es n).flatMap LockM.c) s4 (by have:=Yf' hl0;omega) ?_ rfl)
     rw [VO' (xs:=(wsE es n)) (a:=l0) (a':=⟨sp,true⟩) VZ' hl0 (by decide) (by rw [← hls];rfl)]
     refine WL.next<|WP.seq<|WP.reg<|WL.e Zb'<|WL.e Zb'<|WL.next<|WP.ret<|PO.conv (YS' (A:=Own 281 3 (svE es n).v (wsE es n).length (((wsE es n).set i0 ⟨sp,true⟩).flatMap LockM.c)) (B:=Sl 281 3 LockM.c ((svE es n).v) ((wsE es n).set i0 ⟨sp,true⟩)) (fun S h=>by unfold Sl;rw [List.length_set];exact h) (by repeat first | exact .z | apply Put.s)) ?_
     refine PO.cls (A:=Ents 281 3 LockM.c (setE es n (svE es n) ((wsE es n).set i0 ⟨sp,true⟩))) (B:=[Sl 281 3 LockM.c ((svE es n).v) ((wsE es n).set i0 ⟨sp,true⟩),Ents 281 3 LockM.c (delE es n)]) (JG' es n (svE es n) ((wsE es n).set i0 ⟨sp,true⟩)) ?_
     refine PO.conv (YS' (A:=Mp eU32 (.map (some m)) (List.map kvE es)) (B:=Mp eU32 (.map (some m)) (List.map kvE (setE es n (svE es n) ((wsE es n).set i0 ⟨sp,true⟩)))) (fun S h=>by rw [← Zg1_ hl0];exact h) (by repeat first | exact .z | apply Put.s)) ?_
     rw [show (wsE es n).set i0 ⟨sp,true⟩=askL (wsE es n) sp w by rw [hask,show l0.alone=true from k1];rfl]
     refine PO.conv (fun S h=>Yt' (show List.map stE (setE es n (svE es n) (askL (wsE es n) sp w))=Y2' L n sp w from (ZbF_ hes n sp w _)) h) ?_
     refine PO.cls (A:=Lk p (Y2' L n sp w)) (B:=[pu (List.map stE (setE es n (svE es n) (askL (wsE es n) sp w))=Y2' L n sp w),cl p 176 [.map (some m)],Mp eU32 (.map (some m)) (List.map kvE (setE es n (svE es n) (askL (wsE es n) sp w))),Ents 281 3 LockM.c (setE es n (svE es n) (askL (wsE es n) sp w))]) (fun S h=>⟨(m,setE es n (svE es n) (askL (wsE es n) sp w)),h⟩) ?_
     exact PO.fin Tryz.results166 (Zd' (Zd' Zf')) (hK.2 h2)
    ·skip
     refine WL.e Za'<|WL.e Zl'<|WL.e (ZZ' (j:=i0) (xs:=(wsE es n)) QK' Zr' (Yf' hl0))<|WL.e (Q9' (z:=3) (j:=i0) (xs:=(wsE es n)) Zcq_ Zr' (Yf' hl0)) ?_
     refine WL.h' (ZbX_ (y:=0) (j:=0) (f:=i0 * 3+2) (n:=(wsE es n).length) (z:=3) (E:=281) (cs:=(wsE es n).flatMap LockM.c) s4 (by have:=Yf' hl0;omega) ?_ rfl)
     rw [VO' (xs:=(wsE es n)) (a:=l0) (a':=⟨sp,w⟩) VZ' hl0 (by decide) (by rw [← hls];rfl)]
     refine WL.next<|WP.seq<|WP.reg<|WL.e Zb'<|WL.e Zb'<|WL.next<|WP.ret<|PO.conv (YS' (A:=Own 281 3 (svE es n).v (wsE es n).length (((wsE es n).set i0 ⟨sp,w⟩).flatMap LockM.c)) (B:=Sl 281 3 LockM.c ((svE es n).v) ((wsE es n).set i0 ⟨sp,w⟩)) (fun S h=>by unfold Sl;rw [List.length_set];exact h) (by repeat first | exact .z | apply Put.s)) ?_
     refine PO.cls (A:=Ents 281 3 LockM.c (setE es n (svE es n) ((wsE es n).set i0 ⟨sp,w⟩))) (B:=[Sl 281 3 LockM.c ((svE es n).v) ((wsE es n).set i0 ⟨sp,w⟩),Ents 281 3 LockM.c (delE es n)]) (JG' es n (svE es n) ((wsE es n).set i0 ⟨sp,w⟩)) ?_
     refine PO.conv (YS' (A:=Mp eU32 (.map (some m)) (List.map kvE es)) (B:=Mp eU32 (.map (some m)) (List.map kvE (setE es n (svE es n) ((wsE es n).set i0 ⟨sp,w⟩)))) (fun S h=>by rw [← Zg1_ hl0];exact h) (by repeat first | exact .z | apply Put.s)) ?_
     rw [show (wsE es n).set i0 ⟨sp,w⟩=askL (wsE es n) sp w by rw [hask,show l0.alone=false from k1];rfl]
     refine PO.conv (fun S h=>Yt' (show List.map stE (setE es n (svE es n) (askL (wsE es n) sp w))=Y2' L n sp w from (ZbF_ hes n sp w _)) h) ?_
     refine PO.cls (A:=Lk p (Y2' L n sp w)) (B:=[pu (List.map stE (setE es n (svE es n) (askL (wsE es n) sp w))=Y2' L n sp w),cl p 176 [.map (some m)],Mp eU32 (.map (some m)) (List.map kvE (setE es n (svE es n) (askL (wsE es n) sp w))),Ents 281 3 LockM.c (setE es n (svE es n) (askL (wsE es n) sp w))]) (fun S h=>⟨(m,setE es n (svE es n) (askL (wsE es n) sp w)),h⟩) ?_
     exact PO.fin Tryz.results166 (Zd' (Zd' Zf')) (hK.2 h2)
end Go.SL
namespace Go.SL.Fc
open Go Go.Proofs Go.SL
theorem a132:ZK' Tryz.prog 132=some none:=by kernel_rfl
theorem Zcr_:ZO' Tryz.prog 136 1=some 1:=by kernel_rfl
theorem Ka':ZO' Tryz.prog 136 3=some 3:=by kernel_rfl
theorem Zcs_:ZO' Tryz.prog 136 4=some 4:=by kernel_rfl
theorem k160:Zh' Tryz.prog 160=true:=by kernel_rfl
theorem k161:Zh' Tryz.prog 161=true:=by kernel_rfl
theorem k162:Zh' Tryz.prog 162=true:=by kernel_rfl
theorem k172:Zh' Tryz.prog 172=true:=by kernel_rfl
theorem p269:Ya' Tryz.prog 269=some [(0,1),(1,1)]:=by kernel_rfl
theorem ZoF_:X3' Tryz.prog 108=true:=by kernel_rfl
theorem Zct_:X3' Tryz.prog 267=true:=by kernel_rfl
theorem z269:ZH' Tryz.prog 269=some [.slice none 0 0,.slice none 0 0]:=by kernel_rfl
theorem Zcu_:(Tryz.prog.info? 267).bind (·.zero)=some (.pointer none):=by kernel_rfl
end Go.SL.Fc
namespace Go.SL
open Go Go.Proofs Fc
def TxA_ (t:TxT):HP:=fun S=>∃ x:SV × SV,Zo' [cl t.q 269 [x.1.v,x.2.v],Sl 179 3 ChgM.c x.1.v t.x.own,Sl 24 1 u32C x.2.v t.x.waits] S
theorem ZaV_ {t:TxT}:∀ S,TxA_ t S→∃ x:SV × SV,Zo' [cl t.q 269 [x.1.v,x.2.v],Sl 179 3 ChgM.c x.1.v t.x.own,Sl 24 1 u32C x.2.v t.x.waits] S:=fun _ h=>h
def TPA (t:TxT):List HP:=[TxA_ t]
def As (p dp:Nat) (s:StV):HP:=fun S=>∃ x:Nat × Nat × Nat × Nat,Zo' [cl p 136 [.pointer (some ⟨x.1,0,none⟩),.pointer (some ⟨x.2.1,0,none⟩),.int .u32 (UInt32.ofNat s.H.length).toNat,.map (some x.2.2.2),.pointer (some ⟨x.2.2.1,0,none⟩)],cl x.1 166 [.pointer (some ⟨dp,0,none⟩),.int .i64 s.at_],Dk dp s.d,Mm x.2.1 s.rows,Mp eU32 (.map (some x.2.2.2)) (List.map kvU s.txs),Lk x.2.2.1 s.locks] S
theorem Qc' {p dp:Nat} {s:StV}:∀ S,As p dp s S→∃ x:Nat × Nat × Nat × Nat,Zo' [cl p 136 [.pointer (some ⟨x.1,0,none⟩),.pointer (some ⟨x.2.1,0,none⟩),.int .u32 (UInt32.ofNat s.H.length).toNat,.map (some x.2.2.2),.pointer (some ⟨x.2.2.1,0,none⟩)],cl x.1 166 [.pointer (some ⟨dp,0,none⟩),.int .i64 s.at_],Dk dp s.d,Mm x.2.1 s.rows,Mp eU32 (.map (some x.2.2.2)) (List.map kvU s.txs),Lk x.2.2.1 s.locks] S:=fun _ h=>h
theorem Ky' {g:World} {p dp:Nat} {s:StV}:Spec Tryz.prog g 161 [.pointer (some ⟨p,0,none⟩)] [As p dp s] fun K R=>K (.bool true) (As p dp s::R):=by
 refine Spec.intro Tryz.func161 rfl Tryz.ntmps161 rfl fun R K hK=>?_
 refine WP.opn (Qc' (p:=p) (dp:=dp) (s:=s)) fun x=>?_
 obtain ⟨lp,mp,kp,mb⟩:=x
 dsimp only
 refine WP.seq<|WP.reg<|WL.e Zb'<|WL.next<|WP.seq<|WP.reg<|WL.e Za'<|WL.e (JX' ZoF_)<|WL.e Za' ?_
 refine WL.bool 5 rfl (fun h=>?_) (fun h=>?_)
 ·skip
  refine WL.e Za'<|WL.e Zk'<|WL.e (e_fa Ka')<|WL.e (Zc' a132)<|WL.e (Zb8_ Tryz.underlying132)<|WL.e Zn'<|WL.e Zb'<|WL.next<|WP.ret<|PO.cls (A:=As p dp (s)) (B:=[cl p 136 [.pointer (some ⟨lp,0,none⟩),.pointer (some ⟨mp,0,none⟩),.int .u32 (UInt32.ofNat s.H.length).toNat,.map (some mb),.pointer (some ⟨kp,0,none⟩)],cl lp 166 [.pointer (some ⟨dp,0,none⟩),.int .i64 s.at_],Dk dp s.d,Mm mp s.rows,Mp eU32 (.map (some mb)) (List.map kvU s.txs),Lk kp s.locks]) (fun S h=>⟨(lp,mp,kp,mb),h⟩) ?_
  exact PO.fin Tryz.results161 (Zd' Zf') hK
 ·cases h 
theorem Zfj_ {g:World} {p dp:Nat} {s:StV} (n:UInt32) (hf:Zs' s.txs n=none):Spec Tryz.prog g 160 [.pointer (some ⟨p,0,none⟩),.int .u32 n.toNat] [As p dp s,TxsU TPA s.txs] fun K R=>∀ q,K (.tuple #[]) (As p dp { s with txs:=s.txs++[begT s n q] }::TxsU TPA (s.txs++[begT s n q])::R):=by
 refine Spec.intro Tryz.func160 rfl Tryz.ntmps160 rfl fun R K hK=>?_
 refine WP.opn (Qc' (p:=p) (dp:=dp) (s:=s)) fun x=>?_
 obtain ⟨lp,mp,kp,mb⟩:=x
 dsimp only
 refine WP.reg<|WL.e Za'<|WL.e Zk'<|WL.e (e_fa Ka')<|WL.e (Zc' a132)<|WL.e Za'<|WL.e (Zv' z269 p269 (.z (.slice none 0 0)<|.z (.slice none 0 0)<|.n)) ?_
 refine WL.h (ZL' fun b1=>?_)
 refine WL.h' (YI' (k:=n) (kvs:=List.map kvU s.txs) Tryz.underlying132 (ZQ' Tryz.underlying24) ?_)
 rw [show mset (List.map kvU s.txs) n (.pointer (some ⟨b1,0,none⟩))=List.map kvU (s.txs++[begT s n b1]) from ZeO_ s.txs (begT s n b1) hf]
 refine WL.nil<|PO.nils 179 3 ChgM.c none ?_
 refine PO.nils 24 1 u32C none ?_
 refine PO.cls (A:=As p dp ({ s with txs:=s.txs++[begT s n b1] })) (B:=[cl p 136 [.pointer (some ⟨lp,0,none⟩),.pointer (some ⟨mp,0,none⟩),.int .u32 (UInt32.ofNat s.H.length).toNat,.map (some mb),.pointer (some ⟨kp,0,none⟩)],cl lp 166 [.pointer (some ⟨dp,0,none⟩),.int .i64 s.at_],Dk dp s.d,Mm mp s.rows,Mp eU32 (.map (some mb)) (List.map kvU (s.txs++[begT s n b1])),Lk kp s.locks]) (fun S h=>⟨(lp,mp,kp,mb),h⟩) ?_
 refine PO.cls (A:=TxA_ (begT s n b1)) (B:=[cl b1 269 [.slice none 0 0,.slice none 0 0],Sl 179 3 ChgM.c (.slice none 0 0) [],Sl 24 1 u32C (.slice none 0 0) []]) (fun S h=>⟨(⟨none,0,0⟩,⟨none,0,0⟩),h⟩) ?_
 refine PO.cls (A:=TxsU TPA (s.txs++[begT s n b1])) (B:=[TxA_ (begT s n b1),TxsU TPA s.txs]) (fun S h=>Yb' (TP:=TPA) (A:=s.txs) (B:=[]) (t:=begT s n b1) S (by rw [List.append_nil];exact h)) ?_
 exact PO.fin Tryz.results160 Zf' (hK b1)
theorem Zgg_ {g:World} {p dp:Nat} {s:StV} (n:UInt32):Spec Tryz.prog g 155 [.pointer (some ⟨p,0,none⟩),.int .u32 n.toNat] [As p dp s,TxsU TPA s.txs] fun K R=>∀ q,K (.int .i64 (begE s n)) (As p dp (begS s n q)::TxsU TPA (begS s n q).txs::R):=by
 refine Spec.intro Tryz.func155 rfl Tryz.ntmps155 rfl fun R K hK=>?_
 refine WP.seq<|WP.reg<|WL.e Zb'<|WL.next<|WP.seq<|WP.block<|WP.seq<|WP.reg<|WL.e Za' ?_
 refine WL.h (Zg' (Ky') k161 ?_)
 refine WL.e Zx'<|WL.e Zb'<|WL.next<|WP.cond_f rfl<|WP.seq<|WP.reg<|WL.e Za'<|WL.e (Jt' (b:=0))<|WL.e Zb'<|WL.next ?_
 refine WP.cond rfl (fun h1=>?_) (fun h1=>?_)
 ·replace h1:n=0:=by simpa using h1
  have hE:begE s n=1:=by simp [begE,h1]
  refine WP.seq<|WP.reg<|WL.e Zb'<|WL.next<|WP.ret<|PO.blockR<|PO.past nofun ?_
  have hK:=hK 0
  rw [hE,show begS s n 0=s by simp [begS,hE]] at hK
  exact PO.fin Tryz.results155 (Zd' Zf') hK
 ·replace h1:n≠0:=by simpa using h1
  refine WP.opn (Qc' (p:=p) (dp:=dp) (s:=s)) fun x=>?_
  obtain ⟨lp,mp,kp,mb⟩:=x
  dsimp only
  refine WP.seq<|WP.reg<|WL.e Za'<|WL.e Zk'<|WL.e (e_fa Ka')<|WL.e (Zc' a132)<|WL.e Za'<|WL.e (JV' (n:=n) (ts:=s.txs) Tryz.underlying132 (ZQ' Tryz.underlying24) Zcu_)<|WL.e (JX' Zct_)<|WL.e Zb'<|WL.next ?_
  refine WP.cond rfl (fun h2=>?_) (fun h2=>?_)
  ·replace h2:(Zs' s.txs n).isSome=true:=by cases e:Zs' s.txs n with
    | none=>rw [e] at h2;cases h2
    | some t=>rfl
   have hE:begE s n=7:=by simp only [begE,h1,h2];simp
   refine WP.seq<|WP.reg<|WL.e Zb'<|WL.next<|WP.ret<|PO.blockR<|PO.past nofun<|PO.cls (A:=As p dp (s)) (B:=[cl p 136 [.pointer (some ⟨lp,0,none⟩),.pointer (some ⟨mp,0,none⟩),.int .u32 (UInt32.ofNat s.H.length).toNat,.map (some mb),.pointer (some ⟨kp,0,none⟩)],cl lp 166 [.pointer (some ⟨dp,0,none⟩),.int .i64 s.at_],Dk dp s.d,Mm mp s.rows,Mp eU32 (.map (some mb)) (List.map kvU s.txs),Lk kp s.locks]) (fun S h=>⟨(lp,mp,kp,mb),h⟩) ?_
   have hK:=hK 0
   rw [hE,show begS s n 0=s by simp [begS,hE]] at hK
   exact PO.fin Tryz.results155 (Zd' Zf') hK
  ·have hf:Zs' s.txs n=none:=by cases e:Zs' s.txs n with
    | none=>rfl
    | some t=>rw [e] at h2;cases h2
   refine WP.seq<|WP.reg<|WL.e Za'<|WL.e Zk'<|WL.e (e_fa Ka')<|WL.e (Zc' a132)<|WL.e (U3' Tryz.underlying132)<|WL.e YD'<|WL.e Zb'<|WL.next ?_
   refine WP.cond rfl (fun h3=>?_) (fun h3=>?_)
   ·replace h3:32≤s.txs.length:=by simp at h3;omega
    have hE:begE s n=5:=by simp [begE,h1,hf,h3]
    refine WP.seq<|WP.reg<|WL.e Zb'<|WL.next<|WP.ret<|PO.blockR<|PO.past nofun<|PO.cls (A:=As p dp (s)) (B:=[cl p 136 [.pointer (some ⟨lp,0,none⟩),.pointer (some ⟨mp,0,none⟩),.int .u32 (UInt32.ofNat s.H.length).toNat,.map (some mb),.pointer (some ⟨kp,0,none⟩)],cl lp 166 [.pointer (some ⟨dp,0,none⟩),.int .i64 s.at_],Dk dp s.d,Mm mp s.rows,Mp eU32 (.map (some mb)) (List.map kvU s.txs),Lk kp s.locks]) (fun S h=>⟨(lp,mp,kp,mb),h⟩) ?_
    have hK:=hK 0
    rw [hE,show begS s n 0=s by simp [begS,hE]] at hK
    exact PO.fin Tryz.results155 (Zd' Zf') hK
   ·replace h3:¬ 32≤s.txs.length:=by simp at h3;omega
    have hE:begE s n=0:=by simp only [begE,h1,hf,h3];simp
    refine WP.cls (A:=As p dp (s)) (B:=[cl p 136 [.pointer (some ⟨lp,0,none⟩),.pointer (some ⟨mp,0,none⟩),.int .u32 (UInt32.ofNat s.H.length).toNat,.map (some mb),.pointer (some ⟨kp,0,none⟩)],cl lp 166 [.pointer (some ⟨dp,0,none⟩),.int .i64 s.at_],Dk dp s.d,Mm mp s.rows,Mp eU32 (.map (some mb)) (List.map kvU s.txs),Lk kp s.locks]) (fun S h=>⟨(lp,mp,kp,mb),h⟩) ?_
    refine WP.skip<|PO.blockN<|PO.next<|WP.seq<|WP.reg<|WL.e Za'<|WL.e Za' ?_
    refine WL.h (Zg' (Zfj_ n hf) k160 ?_)
    intro q
    refine WL.next<|WP.seq<|WP.reg<|WL.e Zb'<|WL.next<|WP.ret ?_
    have hK:=hK q
    rw [hE,begS,if_pos hE] at hK
    exact PO.fin Tryz.results155 (Zd' Zf') hK
theorem Zcv_ {g:World} {p dp:Nat} {s:StV} (n:UInt32):Spec Tryz.prog g 162 [.pointer (some ⟨p,0,none⟩),.int .u32 n.toNat] [As p dp s] fun K R=>K (.tuple #[]) (As p dp (Xo' s n)::R):=by
 refine Spec.intro Tryz.func162 rfl Tryz.ntmps162 rfl fun R K hK=>?_
 refine WP.opn (Qc' (p:=p) (dp:=dp) (s:=s)) fun x=>?_
 obtain ⟨lp,mp,kp,mb⟩:=x
 dsimp only
 refine WP.seq<|WP.reg<|WL.e Za'<|WL.e Zk'<|WL.e (e_fa Zcs_)<|WL.e (Zc' a133)<|WL.e Za' ?_
 refine WL.h (Zg' (Zco_ n) k172 ?_)
 intro k
 refine WL.next<|WP.reg<|WL.e Za'<|WL.e Zk'<|WL.e (e_fa Ka')<|WL.e (Zc' a132)<|WL.e Za' ?_
 refine WL.h' (Jg' (k:=n) (kvs:=List.map kvU s.txs) Tryz.underlying132 (ZQ' Tryz.underlying24) ?_)
 rw [KP']
 refine WL.nil<|PO.cls (A:=As p dp (Xo' s n)) (B:=[cl p 136 [.pointer (some ⟨lp,0,none⟩),.pointer (some ⟨mp,0,none⟩),.int .u32 (UInt32.ofNat s.H.length).toNat,.map (some mb),.pointer (some ⟨kp,0,none⟩)],cl lp 166 [.pointer (some ⟨dp,0,none⟩),.int .i64 s.at_],Dk dp s.d,Mm mp s.rows,Mp eU32 (.map (some mb)) (List.map kvU (delU s.txs n)),Lk kp (Xn' s.locks n)]) (fun S h=>⟨(lp,mp,kp,mb),h⟩) ?_
 exact PO.fin Tryz.results162 Zf' hK
theorem QL' {g:World} {p dp:Nat} {s:StV} (n:UInt32):SpecD Tryz.prog g 162 [.pointer (some ⟨p,0,none⟩),.int .u32 n.toNat] [As p dp s] fun K R=>K (.tuple #[]) (As p dp (Xo' s n)::R):=by
 refine SpecD.intro Tryz.func162 rfl Tryz.ntmps162 rfl fun R K hK=>?_
 refine WP.opn (Qc' (p:=p) (dp:=dp) (s:=s)) fun x=>?_
 obtain ⟨lp,mp,kp,mb⟩:=x
 dsimp only
 refine WP.seq<|WP.reg<|WL.e Za'<|WL.e Zk'<|WL.e (e_fa Zcs_)<|WL.e (Zc' a133)<|WL.e Za' ?_
 refine WL.h (Zg' (Zco_ n) k172 ?_)
 intro k
 refine WL.next<|WP.reg<|WL.e Za'<|WL.e Zk'<|WL.e (e_fa Ka')<|WL.e (Zc' a132)<|WL.e Za' ?_
 refine WL.h' (Jg' (k:=n) (kvs:=List.map kvU s.txs) Tryz.underlying132 (ZQ' Tryz.underlying24) ?_)
 rw [KP']
 refine WL.nil<|PO.cls (A:=As p dp (Xo' s n)) (B:=[cl p 136 [.pointer (some ⟨lp,0,none⟩),.pointer (some ⟨mp,0,none⟩),.int .u32 (UInt32.ofNat s.H.length).toNat,.map (some mb),.pointer (some ⟨kp,0,none⟩)],cl lp 166 [.pointer (some ⟨dp,0,none⟩),.int .i64 s.at_],Dk dp s.d,Mm mp s.rows,Mp eU32 (.map (some mb)) (List.map kvU (delU s.txs n)),Lk kp (Xn' s.locks n)]) (fun S h=>⟨(lp,mp,kp,mb),h⟩) ?_
 exact PO.finDD Tryz.results162 Zf' hK
theorem Zgh_ {g:World} {p dp b:Nat} {s:StV} (n:UInt32) (hs:AlphaOk s b):Spec Tryz.prog g 154 [.pointer (some ⟨p,0,none⟩),.int .u32 n.toNat] [As p dp s,TxsU TPA s.txs] fun K R=>K (.int .i64 (aboE s n)) (As p dp (aboS YH' s n)::TxsU TPA (aboS YH' s n).txs::R):=by
 refine Spec.intro Tryz.func154 rfl Tryz.ntmps154 rfl fun R K hK=>?_
 refine WP.seq<|WP.reg<|WL.e Zb'<|WL.next<|WP.seq<|WP.block<|WP.seq<|WP.reg<|WL.e Za' ?_
 refine WL.h (Zg' (Ky') k161 ?_)
 refine WL.e Zx'<|WL.e Zb'<|WL.next<|WP.cond_f rfl<|WP.opn (Qc' (p:=p) (dp:=dp) (s:=s)) fun x=>?_
 obtain ⟨lp,mp,kp,mb⟩:=x
 dsimp only
 refine WP.seq<|WP.reg<|WL.e Za'<|WL.e Zk'<|WL.e (e_fa Ka')<|WL.e (Zc' a132)<|WL.e Za'<|WL.e (JV' (n:=n) (ts:=s.txs) Tryz.underlying132 (ZQ' Tryz.underlying24) Zcu_)<|WL.e (JW' Zct_)<|WL.e Zb'<|WL.next ?_
 refine WP.cond rfl (fun h2=>?_) (fun h2=>?_)
 ·have hf:Zs' s.txs n=none:=by simpa using h2
  rw [show aboE s n=6 by simp [aboE,hf],show aboS YH' s n=s by simp [aboS,hf]] at hK
  refine WP.seq<|WP.reg<|WL.e Zb'<|WL.next<|WP.ret<|PO.blockR<|PO.past nofun<|PO.cls (A:=As p dp (s)) (B:=[cl p 136 [.pointer (some ⟨lp,0,none⟩),.pointer (some ⟨mp,0,none⟩),.int .u32 (UInt32.ofNat s.H.length).toNat,.map (some mb),.pointer (some ⟨kp,0,none⟩)],cl lp 166 [.pointer (some ⟨dp,0,none⟩),.int .i64 s.at_],Dk dp s.d,Mm mp s.rows,Mp eU32 (.map (some mb)) (List.map kvU s.txs),Lk kp s.locks]) (fun S h=>⟨(lp,mp,kp,mb),h⟩) ?_
  exact PO.fin Tryz.results154 (Zd' Zf') hK
 ·obtain ⟨t,hf⟩:∃ t,Zs' s.txs n=some t:=by cases e:Zs' s.txs n with
   | none=>rw [e] at h2;cases h2
   | some t=>exact ⟨t,rfl⟩
  rw [hf,Option.map_some]
  rw [show aboE s n=0 by simp [aboE,hf],show aboS YH' s n=Xo' s n by simp [aboS,hf,YH']] at hK
  refine WP.cls (A:=As p dp (s)) (B:=[cl p 136 [.pointer (some ⟨lp,0,none⟩),.pointer (some ⟨mp,0,none⟩),.int .u32 (UInt32.ofNat s.H.length).toNat,.map (some mb),.pointer (some ⟨kp,0,none⟩)],cl lp 166 [.pointer (some ⟨dp,0,none⟩),.int .i64 s.at_],Dk dp s.d,Mm mp s.rows,Mp eU32 (.map (some mb)) (List.map kvU s.txs),Lk kp s.locks]) (fun S h=>⟨(lp,mp,kp,mb),h⟩) ?_
  refine WP.cls (A:=TxsU TPA (delU s.txs n)) (B:=[TxsU TPA s.txs]) (fun S h=>ZbC_ (J9' h)) ?_
  refine WP.skip<|PO.blockN<|PO.next<|WP.seq<|WP.reg<|WL.e Za'<|WL.e Za' ?_
  refine WL.h (Zg' (Zcv_ n) k162 ?_)
  refine WL.next<|WP.seq<|WP.reg<|WL.e Zb'<|WL.next<|WP.ret ?_
  exact PO.fin Tryz.results154 (Zd' Zf') hK
theorem Zih_ {g:World} {p dp b:Nat} {s:StV} (hs:AlphaOk s b):Spec Tryz.prog g 159 [.pointer (some ⟨p,0,none⟩)] [As p dp s] fun K R=>∀ a m c,K (.slice a m c) (Sl 105 2 RowM.c (.slice a m c) s.rows::As p dp s::R):=by
 refine Spec.intro Tryz.func159 rfl Tryz.ntmps159 rfl fun R K hK=>?_
 refine WP.seq<|WP.reg<|WL.e Zb'<|WL.next<|WP.seq<|WP.seq<|WP.reg<|WL.e Za' ?_
 refine WL.h (Zg' (Ky') k161 ?_)
 refine WL.e Zx'<|WL.next<|WP.cond_f rfl<|WP.opn (Qc' (p:=p) (dp:=dp) (s:=s)) fun x=>?_
 obtain ⟨lp,mp,kp,mb⟩:=x
 dsimp only
 refine WP.skip<|PO.next<|WP.seq<|WP.reg<|WL.e Za'<|WL.e Zk'<|WL.e (e_fa Zcr_)<|WL.e (Zc' a130) ?_
 refine WL.h (Zg' (Zae_ (l:=s.rows) (by have:=hs.st.rows_le;have:=hs.st.bb;omega)) k171 ?_)
 intro a9 m9 c9
 refine WL.e Zb'<|WL.next<|WP.ret<|PO.cls (A:=As p dp (s)) (B:=[cl p 136 [.pointer (some ⟨lp,0,none⟩),.pointer (some ⟨mp,0,none⟩),.int .u32 (UInt32.ofNat s.H.length).toNat,.map (some mb),.pointer (some ⟨kp,0,none⟩)],cl lp 166 [.pointer (some ⟨dp,0,none⟩),.int .i64 s.at_],Dk dp s.d,Mm mp s.rows,Mp eU32 (.map (some mb)) (List.map kvU s.txs),Lk kp s.locks]) (fun S h=>⟨(lp,mp,kp,mb),h⟩) ?_
 exact PO.fin Tryz.results159 (Zd' Zf') (hK a9 m9 c9)
end Go.SL
namespace Go.SL.Fc
open Go Go.Proofs Go.SL
theorem a285:ZK' Tryz.prog 285=some (some 2):=by kernel_rfl
theorem Zfk_:ZO' Tryz.prog 269 1=some 1:=by kernel_rfl
theorem Zj6_:ZO' Tryz.prog 285 0=some 0:=by kernel_rfl
theorem Zfl_:ZO' Tryz.prog 285 1=some 1:=by kernel_rfl
theorem k180:Zh' Tryz.prog 180=true:=by kernel_rfl
theorem k181:Zh' Tryz.prog 181=true:=by kernel_rfl
theorem k182:Zh' Tryz.prog 182=true:=by kernel_rfl
theorem k183:Zh' Tryz.prog 183=true:=by kernel_rfl
theorem k189:Zh' Tryz.prog 189=true:=by kernel_rfl
theorem p285:Ya' Tryz.prog 285=some [(0,1),(1,1)]:=by kernel_rfl
theorem s285:szOf Tryz.prog 285=some 2:=by kernel_rfl
theorem ZdW_:slOf Tryz.prog 283=some (285,2,8):=by kernel_rfl
theorem z285:ZH' Tryz.prog 285=some [.int .u32 0,.int .u32 0]:=by kernel_rfl
end Go.SL.Fc
namespace Go.SL
open Go Go.Proofs Fc
set_option maxHeartbeats 1000000 in
theorem Zii_ {g:World} {A:HP} {u:Value} {l:List (UInt32 × UInt32)} (hA:RL A 2 edC u l) (hn:l.length≤68719476000):Spec Tryz.prog g 180 [u] [A] fun K R=>∀ a1 n1 c1 a2 n2 c2,K (.tuple #[.slice a1 n1 c1,.slice a2 n2 c2]) (Sl 24 1 u32C (.slice a1 n1 c1) (l.map (fun x:UInt32 × UInt32=>x.1))::Sl 24 1 u32C (.slice a2 n2 c2) (l.map (fun x:UInt32 × UInt32=>x.2))::A::R):=by
 refine Spec.intro Tryz.func180 rfl Tryz.ntmps180 rfl fun R K hK=>?_
 refine WP.seq<|WP.reg<|WL.e Zb'<|WL.e Zb'<|WL.next<|WP.seq<|WP.seq<|WP.reg<|WL.e Za'<|WL.e (ZD' (xs:=l) ZdW_ hA)<|WL.e Za'<|WL.next<|WP.block<|WP.nils 24 1 u32C none ?_
 refine WP.nils 24 1 u32C none ?_
 refine WP.loopK (fun (x:Nat × SV × SV)=>[(8,.int .i64 x.1),(2,x.2.1.v),(3,x.2.2.v)]) (fun (x:Nat × SV × SV)=>Sl 24 1 u32C (x.2.1.v) ((l.take x.1).map (·.1))::Sl 24 1 u32C (x.2.2.v) ((l.take x.1).map (·.2))::A::R) [(6,_),(7,_)] (fun (x:Nat × SV × SV)=>x.1≤l.length) (fun (x:Nat × SV × SV)=>l.length - x.1) (0,⟨none,0,0⟩,⟨none,0,0⟩) (Nat.zero_le _) ?_
 rintro ⟨i,w1,w2⟩ hi
 simp only at hi
 dsimp only
 refine WP.seq<|WP.reg<|WL.e Z3'<|WL.next<|WP.seq ?_
 refine WP.cond rfl (fun h1=>?_) (fun h1=>?_)
 ·have hlt:i < l.length:=by rw [decide_eq_true_eq] at h1;omega
  obtain ⟨e,he⟩:∃ e,l[i]?=some e:=⟨_,List.getElem?_eq_getElem hlt⟩
  refine WP.skip<|PO.next<|WP.seq<|WP.block<|WP.seq<|WP.reg<|WL.e (ZZ' (j:=i) (xs:=l) ZdW_ hA hlt)<|WL.e (YA' (a:=e) a285 edE hA he) ?_
  refine WL.h (Zu' z285 fun b1=>?_)
  refine WL.h' (Zj' s285 ?_)
  refine WL.next<|WP.draws Zq' 12<|RW.e 0 rfl Za'<|RW.e 1 rfl (e_fa Zj6_)<|RW.e 2 rfl (Zc' a24)<|RW.e 5 rfl Za'<|RW.e 6 rfl (e_fa Zfl_)<|RW.e 7 rfl (Zc' a24) ?_
  refine RW.any (is:=[3,8]) rfl ⟨?_,?_,trivial⟩
  ·skip
   refine RWat.h rfl rfl rfl ?_
   refine (h_bs sl36 z24 (.o (.tmp 14) rfl<|.n) fun b2=>?_)
   refine ⟨⟨⟨_,rfl,.inl ⟨rfl,(Zc' a24)⟩⟩,⟨_,rfl,.inl ⟨rfl,(e_fa Zfl_)⟩⟩,⟨_,rfl,.inl ⟨rfl,Za'⟩⟩,⟨_,rfl,.inl ⟨rfl,Za'⟩⟩,trivial⟩,?_⟩
   refine RW.any (is:=[4,8]) rfl ⟨?_,?_,trivial⟩
   ·skip
    refine RWat.h rfl rfl rfl ?_
    refine (ZG' (xs:=(l.take i).map (·.1)) (ys:=[e.1]) sl36 u32E z24 (Z7' u32E [e.1] rfl) (by simp;omega) (fun a3 n3 c3=>?_))
    refine ⟨⟨⟨_,rfl,.inl ⟨rfl,(Zc' a24)⟩⟩,⟨_,rfl,.inl ⟨rfl,(e_fa Zfl_)⟩⟩,⟨_,rfl,.inl ⟨rfl,Za'⟩⟩,trivial⟩,?_⟩
    refine RW.any (is:=[8]) rfl ⟨?_,trivial⟩
    refine RWat.h rfl rfl rfl ?_
    refine (h_bs sl36 z24 (.o (.tmp 19) rfl<|.n) fun b3=>?_)
    refine ⟨⟨⟨_,rfl,.inl ⟨rfl,Za'⟩⟩,trivial⟩,?_⟩
    refine RW.any (is:=[9]) rfl ⟨?_,trivial⟩
    refine RWat.h rfl rfl rfl ?_
    refine (ZG' (xs:=(l.take i).map (·.2)) (ys:=[e.2]) sl36 u32E z24 (Z7' u32E [e.2] rfl) (by simp;omega) (fun a4 n4 c4=>?_))
    refine ⟨trivial,?_⟩
    refine RW.any (is:=[10]) rfl ⟨?_,trivial⟩
    refine RWat.h rfl rfl rfl<|HO.of_eo Zb' ?_
    refine ⟨trivial,?_⟩
    refine RW.any (is:=[11]) rfl ⟨?_,trivial⟩
    refine RWat.h rfl rfl rfl<|HO.of_eo Zb' ?_
    refine ⟨trivial,?_⟩
    refine RW.done<|PO.blockN<|PO.next<|WP.reg<|WL.e (ZE' rfl rfl (Zt' (by omega) (by omega)))<|WL.e Za'<|WL.nil ?_
    rw [show (l.take i).map (·.1)++[e.1]=(l.take (i+1)).map (·.1) by rw [ZA' he,List.map_append];rfl,show (l.take i).map (·.2)++[e.2]=(l.take (i+1)).map (·.2) by rw [ZA' he,List.map_append];rfl]
    exact PO.againK (i+1,⟨a3,n3,c3⟩,⟨a4,n4,c4⟩) (by simp only;omega) (by simp only;omega)
   ·skip
    refine RWat.h rfl rfl rfl ?_
    refine (h_bs sl36 z24 (.o (.tmp 19) rfl<|.n) fun b4=>?_)
    refine ⟨⟨⟨_,rfl,.inl ⟨rfl,Za'⟩⟩,⟨_,rfl,.inl ⟨rfl,Za'⟩⟩,trivial⟩,?_⟩
    refine RW.any (is:=[4]) rfl ⟨?_,trivial⟩
    refine RWat.h rfl rfl rfl ?_
    refine (ZG' (xs:=(l.take i).map (·.1)) (ys:=[e.1]) sl36 u32E z24 (Z7' u32E [e.1] rfl) (by simp;omega) (fun a3 n3 c3=>?_))
    refine ⟨⟨⟨_,rfl,.inl ⟨rfl,Za'⟩⟩,trivial⟩,?_⟩
    refine RW.any (is:=[9]) rfl ⟨?_,trivial⟩
    refine RWat.h rfl rfl rfl ?_
    refine (ZG' (xs:=(l.take i).map (·.2)) (ys:=[e.2]) sl36 u32E z24 (Z7' u32E [e.2] rfl) (by simp;omega) (fun a4 n4 c4=>?_))
    refine ⟨trivial,?_⟩
    refine RW.any (is:=[10]) rfl ⟨?_,trivial⟩
    refine RWat.h rfl rfl rfl<|HO.of_eo Zb' ?_
    refine ⟨trivial,?_⟩
    refine RW.any (is:=[11]) rfl ⟨?_,trivial⟩
    refine RWat.h rfl rfl rfl<|HO.of_eo Zb' ?_
    refine ⟨trivial,?_⟩
    refine RW.done<|PO.blockN<|PO.next<|WP.reg<|WL.e (ZE' rfl rfl (Zt' (by omega) (by omega)))<|WL.e Za'<|WL.nil ?_
    rw [show (l.take i).map (·.1)++[e.1]=(l.take (i+1)).map (·.1) by rw [ZA' he,List.map_append];rfl,show (l.take i).map (·.2)++[e.2]=(l.take (i+1)).map (·.2) by rw [ZA' he,List.map_append];rfl]
    exact PO.againK (i+1,⟨a3,n3,c3⟩,⟨a4,n4,c4⟩) (by simp only;omega) (by simp only;omega)
  ·skip
   refine RWat.h rfl rfl rfl ?_
   refine (h_bs sl36 z24 (.o (.tmp 19) rfl<|.n) fun b5=>?_)
   refine ⟨⟨⟨_,rfl,.inl ⟨rfl,Za'⟩⟩,⟨_,rfl,.inl ⟨rfl,(Zc' a24)⟩⟩,⟨_,rfl,.inl ⟨rfl,(e_fa Zj6_)⟩⟩,⟨_,rfl,.inl ⟨rfl,Za'⟩⟩,trivial⟩,?_⟩
   refine RW.any (is:=[3]) rfl ⟨?_,trivial⟩
   refine RWat.h rfl rfl rfl ?_
   refine (h_bs sl36 z24 (.o (.tmp 14) rfl<|.n) fun b6=>?_)
   refine ⟨⟨⟨_,rfl,.inl ⟨rfl,Za'⟩⟩,⟨_,rfl,.inl ⟨rfl,Za'⟩⟩,trivial⟩,?_⟩
   refine RW.any (is:=[4]) rfl ⟨?_,trivial⟩
   refine RWat.h rfl rfl rfl ?_
   refine (ZG' (xs:=(l.take i).map (·.1)) (ys:=[e.1]) sl36 u32E z24 (Z7' u32E [e.1] rfl) (by simp;omega) (fun a3 n3 c3=>?_))
   refine ⟨⟨⟨_,rfl,.inl ⟨rfl,Za'⟩⟩,trivial⟩,?_⟩
   refine RW.any (is:=[9]) rfl ⟨?_,trivial⟩
   refine RWat.h rfl rfl rfl ?_
   refine (ZG' (xs:=(l.take i).map (·.2)) (ys:=[e.2]) sl36 u32E z24 (Z7' u32E [e.2] rfl) (by simp;omega) (fun a4 n4 c4=>?_))
   refine ⟨trivial,?_⟩
   refine RW.any (is:=[10]) rfl ⟨?_,trivial⟩
   refine RWat.h rfl rfl rfl<|HO.of_eo Zb' ?_
   refine ⟨trivial,?_⟩
   refine RW.any (is:=[11]) rfl ⟨?_,trivial⟩
   refine RWat.h rfl rfl rfl<|HO.of_eo Zb' ?_
   refine ⟨trivial,?_⟩
   refine RW.done<|PO.blockN<|PO.next<|WP.reg<|WL.e (ZE' rfl rfl (Zt' (by omega) (by omega)))<|WL.e Za'<|WL.nil ?_
   rw [show (l.take i).map (·.1)++[e.1]=(l.take (i+1)).map (·.1) by rw [ZA' he,List.map_append];rfl,show (l.take i).map (·.2)++[e.2]=(l.take (i+1)).map (·.2) by rw [ZA' he,List.map_append];rfl]
   exact PO.againK (i+1,⟨a3,n3,c3⟩,⟨a4,n4,c4⟩) (by simp only;omega) (by simp only;omega)
 ·rw [List.take_of_length_le (show l.length≤i by rw [decide_eq_false_iff_not] at h1;omega)]
  obtain ⟨a1,n1,c1⟩:=w1
  obtain ⟨a2,n2,c2⟩:=w2
  refine WP.exit<|PO.past nofun<|PO.round nofun<|PO.blockX<|PO.next<|WP.seq<|WP.reg<|WL.e Za'<|WL.e Za'<|WL.e Zb'<|WL.e Zb'<|WL.next<|WP.ret ?_
  exact PO.fin Tryz.results180 (Zd' (Zd' Zf')) (hK a1 n1 c1 a2 n2 c2)
theorem Zij_ {g:World} {c1 c2 c3:Nat} {w1 w2:SV} {n:UInt32} {l:List (UInt32 × UInt32)} (hn:l.length≤68719476000) (w:UInt32) (b:Bool) (hb:b=true↔Reach (KJ' (l.map (·.1)) (l.map (·.2)) (l.map (·.1)).length) w n):Spec Tryz.prog g 182 [.int .u32 w.toNat,.pointer (some ⟨c1,0,none⟩),.pointer (some ⟨c2,0,none⟩),.pointer (some ⟨c3,0,none⟩)] [cl c1 36 [w1.v],cl c2 36 [w2.v],cl c3 24 [.int .u32 n.toNat],Sl 24 1 u32C (w1.v) (l.map (fun x:UInt32 × UInt32=>x.1)),Sl 24 1 u32C (w2.v) (l.map (fun x:UInt32 × UInt32=>x.2))] fun K R=>K (.bool b) (cl c1 36 [w1.v]::cl c2 36 [w2.v]::cl c3 24 [.int .u32 n.toNat]::Sl 24 1 u32C (w1.v) (l.map (fun x:UInt32 × UInt32=>x.1))::Sl 24 1 u32C (w2.v) (l.map (fun x:UInt32 × UInt32=>x.2))::R):=by
 refine Spec.intro Tryz.func182 rfl Tryz.ntmps182 rfl fun R K hK=>?_
 refine WP.seq<|WP.reg<|WL.e Zb'<|WL.next<|WP.seq<|WP.reg<|WL.e (Zc' a36)<|WL.e (Zc' a36)<|WL.e (Zc' a24)<|WL.e Za' ?_
 refine WL.h (Zg' (Zf6_ (fs:=l.map (·.1)) (ts:=l.map (·.2)) n w Zr' Zr' (by simp) (by simpa using hn)) k183 ?_)
 intro b2 hb2
 obtain rfl:b2=b:=by rw [Bool.eq_iff_iff,hb2,hb]
 refine WL.e Za'<|WL.e Ze'<|WL.e Ze'<|WL.e Zb'<|WL.e Zb'<|WL.next<|WP.seq<|WP.reg<|WL.e Za'<|WL.e Zb'<|WL.next<|WP.ret ?_
 exact PO.fin Tryz.results182 (Zd' Zf') hK
theorem Zgi_ {g:World} {A B:HP} {u y:Value} {xs:List UInt32} {p:UInt32→Bool} (hA:RL A 1 u32C u xs) (hn:xs.length≤68719476736) (hy:∀ x:UInt32,CallV Tryz.prog g y [.int .u32 x.toNat] [B] fun K R=>K (.bool (p x)) (B::R)) :
  Spec Tryz.prog g 189 [u,y] [A,B] fun K R=>K (.int .i64 (if xs.any p then (xs.findIdx p:Nat) else -1)) (A::B::R):=by
 refine Spec.intro Tryz.func189 rfl Tryz.ntmps189 rfl fun R K hK=>?_
 refine WP.seq<|WP.reg<|WL.e Zb'<|WL.next<|WP.seq<|WP.seq<|WP.reg<|WL.e Za'<|WL.e (ZD' (xs:=xs) sl36 hA)<|WL.e Za'<|WL.next<|WP.block<|WP.loopK (fun (i:Nat)=>[(8,.int .i64 i)]) (fun (i:Nat)=>A::B::R) [(0,_),(1,_),(7,_)] (fun (i:Nat)=>i≤xs.length∧(xs.take i).any p=false) (fun (i:Nat)=>xs.length - i) 0 (⟨Nat.zero_le _,by simp⟩) ?_
 rintro i ⟨h1,h2⟩
 refine WP.seq<|WP.reg<|WL.e Z3'<|WL.next<|WP.seq ?_
 refine WP.cond rfl (fun h3=>?_) (fun h3=>?_)
 ·have hlt:i < xs.length:=by rw [decide_eq_true_eq] at h3;omega
  obtain ⟨x,hx⟩:∃ x,xs[i]?=some x:=⟨_,List.getElem?_eq_getElem hlt⟩
  refine WP.skip<|PO.next<|WP.seq<|WP.block<|WP.seq<|WP.reg<|WL.e Za'<|WL.e Zb'<|WL.next<|WP.seq<|WP.reg<|WL.e Za'<|WL.e Za'<|WL.e Za'<|WL.e (ZZ' (j:=i) (xs:=xs) sl36 hA hlt)<|WL.e (Ys' (j:=i) (a:=x) a24 u32E hA hx) ?_
  refine WL.h (YE' (hy x) ?_)
  refine WL.next ?_
  refine WP.cond rfl (fun h4=>?_) (fun h4=>?_)
  ·skip
   refine WP.seq<|WP.reg<|WL.e Za'<|WL.e Zb'<|WL.next<|WP.ret<|PO.blockR<|PO.past nofun<|PO.round nofun<|PO.blockR<|PO.past nofun ?_
   exact PO.finE Tryz.results189 (Zd' Zf') (by rw [Vw' h2 hx h4];rfl) hK
  ·skip
   refine WP.skip<|PO.blockN<|PO.next<|WP.reg<|WL.e (ZE' rfl rfl (Zt' (by omega) (by omega)))<|WL.e Za'<|WL.nil ?_
   exact PO.againK (i+1) ⟨by omega,by rw [ZA' hx,List.any_append,h2];simp [h4]⟩ (by omega)
 ·have hall:xs.any p=false:=by rw [decide_eq_false_iff_not] at h3;rwa [List.take_of_length_le (by omega)] at h2
  refine WP.exit<|PO.past nofun<|PO.round nofun<|PO.blockX<|PO.next<|WP.seq<|WP.reg<|WL.e Zb'<|WL.next<|WP.ret ?_
  exact PO.finE Tryz.results189 (Zd' Zf') (by rw [hall];rfl) hK
theorem Zc5_ {g:World} {A B:HP} {u y:Value} {xs:List UInt32} {p:UInt32→Bool} (hA:RL A 1 u32C u xs) (hn:xs.length≤68719476736) (hy:∀ x:UInt32,CallV Tryz.prog g y [.int .u32 x.toNat] [B] fun K R=>K (.bool (p x)) (B::R)) :
  Spec Tryz.prog g 181 [u,y] [A,B] fun K R=>K (.bool (xs.any p)) (A::B::R):=by
 refine Spec.intro Tryz.func181 rfl Tryz.ntmps181 rfl fun R K hK=>?_
 refine WP.seq<|WP.reg<|WL.e Zb'<|WL.next<|WP.seq<|WP.reg<|WL.e Za'<|WL.e Za' ?_
 refine WL.h (Zg' (Zgi_ hA hn hy) k189 ?_)
 refine WL.e YD'<|WL.e Zb'<|WL.next<|WP.ret ?_
 exact PO.finE Tryz.results181 (Zd' Zf') (by cases h:xs.any p <;> simp) hK
open Classical in
theorem Zj7_ {g:World} {c1 c2 c3:Nat} {w1 w2:SV} {n:UInt32} {l:List (UInt32 × UInt32)} (hn:l.length≤68719476000) (w:UInt32):CallV Tryz.prog g (.func (.func 182) #[] #[.pointer (some ⟨c1,0,none⟩),.pointer (some ⟨c2,0,none⟩),.pointer (some ⟨c3,0,none⟩)]) [.int .u32 w.toNat] [bun [cl c1 36 [w1.v],cl c2 36 [w2.v],cl c3 24 [.int .u32 n.toNat],Sl 24 1 u32C (w1.v) (l.map (fun x:UInt32 × UInt32=>x.1)),Sl 24 1 u32C (w2.v) (l.map (fun x:UInt32 × UInt32=>x.2))]] fun K R=>K (.bool (decide (Reach (KJ' (l.map (·.1)) (l.map (·.2)) (l.map (·.1)).length) w n))) (bun [cl c1 36 [w1.v],cl c2 36 [w2.v],cl c3 24 [.int .u32 n.toNat],Sl 24 1 u32C (w1.v) (l.map (fun x:UInt32 × UInt32=>x.1)),Sl 24 1 u32C (w2.v) (l.map (fun x:UInt32 × UInt32=>x.2))]::R):=
 CallV.bun (CallV.of_spec (fs:=[]) (cs:=[.pointer (some ⟨c1,0,none⟩),.pointer (some ⟨c2,0,none⟩),.pointer (some ⟨c3,0,none⟩)]) (Zij_ (c1:=c1) (c2:=c2) (c3:=c3) (w1:=w1) (w2:=w2) (n:=n) (l:=l) hn w _ (decide_eq_true_iff)) k182)
set_option maxHeartbeats 4000000 in
theorem Zj8_ {g:World} {A:HP} {u:Value} {p dp b:Nat} {s:StV} {way:List UInt32} (n:UInt32) (hs:AlphaOk s b) (hA:RL A 1 u32C u way) (hwl:way.length≤68719476736):Spec Tryz.prog g 168 [.pointer (some ⟨p,0,none⟩),.int .u32 n.toNat,u] [As p dp s,TxsU TPA s.txs,A] fun K R=>K (.bool (Vh' s.txs n way)) (As p dp s::TxsU TPA s.txs::A::R):=by
 refine Spec.intro Tryz.func168 rfl Tryz.ntmps168 rfl fun R K hK=>?_
 refine WP.opn (Qc' (p:=p) (dp:=dp) (s:=s)) fun x=>?_
 obtain ⟨lp,mp,kp,mb⟩:=x
 dsimp only
 have hbb:=hs.st.bb
 have hEl:(Kx' s.txs n).length≤64000000000:=by have h1:=Zg3_ (ts:=s.txs) (n:=n) (left:=s.txs) (fun t ht=>hs.waits t ht);rw [Zg2_] at h1;have h2:=hs.st.tl;have h3:=hs.st.bb;have h4:s.txs.length * (2 * b)≤32 * 2000000000:=Nat.mul_le_mul h2 (by omega);omega
 refine WP.seq<|WP.reg ?_
 refine WL.h (ZL' fun b1=>?_)
 refine WL.e Zb'<|WL.next<|WP.seq<|WP.reg<|WL.e Zb'<|WL.next<|WP.seq<|WP.seq<|WP.reg<|WL.e Za'<|WL.e Zk'<|WL.e (e_fa Ka')<|WL.e (Zc' a132) ?_
 refine WL.h (Xt' (kvs:=List.map kvU s.txs) Tryz.underlying132 fun it=>?_)
 refine WL.next<|WP.block<|WP.nils 285 2 edC none ?_
 refine WP.loopK (fun (x:List TxT × List (UInt32 × UInt32) × SV × Option (UInt32 × Value))=>[(7,x.2.2.1.v)]) (fun (x:List TxT × List (UInt32 × UInt32) × SV × Option (UInt32 × Value))=>Sl 285 2 edC (x.2.2.1.v) (x.2.1)::MpIt eU32 (.map (some mb)) it (List.map kvU s.txs) (List.map kvU x.1) (x.2.2.2)::cl b1 24 [.int .u32 n.toNat]::cl p 136 [.pointer (some ⟨lp,0,none⟩),.pointer (some ⟨mp,0,none⟩),.int .u32 (UInt32.ofNat s.H.length).toNat,.map (some mb),.pointer (some ⟨kp,0,none⟩)]::cl lp 166 [.pointer (some ⟨dp,0,none⟩),.int .i64 s.at_]::Dk dp s.d::Mm mp s.rows::Lk kp s.locks::TxsU TPA s.txs::A::R) [(0,_),(2,_),(4,_),(6,_),(18,_)] (fun (x:List TxT × List (UInt32 × UInt32) × SV × Option (UInt32 × Value))=>(x.2.1++edW s.txs n x.1).Perm (Kx' s.txs n)∧∀ t ∈ x.1,t ∈ s.txs) (fun (x:List TxT × List (UInt32 × UInt32) × SV × Option (UInt32 × Value))=>x.1.length) (s.txs,[],⟨none,0,0⟩,none) (⟨by simp only [List.nil_append];rw [Zg2_],fun t h=>h⟩) ?_
 rintro ⟨left,l,w7,cur⟩ ⟨hx1,hx2⟩
 simp only at hx1 hx2
 dsimp only
 refine WP.seq<|WP.reg ?_
 refine WL.h (XY' (fun h0=>?_) (fun a y0 b0 hx=>?_))
 ·have hl0:left=[]:=by simpa using h0
  subst hl0
  have hpl:l.Perm (Kx' s.txs n):=by simpa [edW] using hx1
  refine WL.e Ze'<|WL.next<|WP.seq<|WP.cond_f rfl<|WP.exit<|PO.past nofun<|PO.round nofun<|PO.blockX<|PO.next<|WP.seq<|WP.reg<|WL.e Za' ?_
  refine WL.h (Zg' (Zii_ (l:=l) Zr' (by rw [hpl.length_eq];omega)) k180 ?_)
  intro a1 n1 c1 a2 n2 c2
  refine WL.e Za'<|WL.e Ze'<|WL.e Ze' ?_
  refine WL.h (Zu' z36 fun b2=>?_)
  refine WL.h (Zu' z36 fun b3=>?_)
  refine WL.h' (Zj' s36 ?_)
  refine WL.h' (Zj' s36 ?_)
  refine WL.next<|WP.seq<|WP.reg<|WL.e Za'<|WL.e Ym'<|WL.cls (A:=bun [cl b2 36 [.slice a1 n1 c1],cl b3 36 [.slice a2 n2 c2],cl b1 24 [.int .u32 n.toNat],Sl 24 1 u32C (.slice a1 n1 c1) (l.map (fun x:UInt32 × UInt32=>x.1)),Sl 24 1 u32C (.slice a2 n2 c2) (l.map (fun x:UInt32 × UInt32=>x.2))]) (B:=[cl b2 36 [.slice a1 n1 c1],cl b3 36 [.slice a2 n2 c2],cl b1 24 [.int .u32 n.toNat],Sl 24 1 u32C (.slice a1 n1 c1) (l.map (fun x:UInt32 × UInt32=>x.1)),Sl 24 1 u32C (.slice a2 n2 c2) (l.map (fun x:UInt32 × UInt32=>x.2))]) (fun S h=>h) ?_
  refine WL.h (Zg' (Zc5_ (xs:=way) hA hwl (fun w=>Zj7_ (c1:=b2) (c2:=b3) (c3:=b1) (w1:=⟨a1,n1,c1⟩) (w2:=⟨a2,n2,c2⟩) (n:=n) (l:=l) (by rw [hpl.length_eq];omega) w)) k181 ?_)
  classical
  rw [ZlL_ (ts:=s.txs) (n:=n) (fun w=>by rw [decide_eq_true_iff];exact ZlK_ hpl w n)]
  refine WL.e Zb'<|WL.next<|WP.ret<|PO.cls (A:=As p dp (s)) (B:=[cl p 136 [.pointer (some ⟨lp,0,none⟩),.pointer (some ⟨mp,0,none⟩),.int .u32 (UInt32.ofNat s.H.length).toNat,.map (some mb),.pointer (some ⟨kp,0,none⟩)],cl lp 166 [.pointer (some ⟨dp,0,none⟩),.int .i64 s.at_],Dk dp s.d,Mm mp s.rows,Mp eU32 (.map (some mb)) (List.map kvU s.txs),Lk kp s.locks]) (fun S h=>⟨(lp,mp,kp,mb),h⟩) ?_
  exact PO.fin Tryz.results168 (Zd' Zf') hK
 ·obtain ⟨A1,t,B1,hl,rfl,rfl,rfl⟩:=Xw' hx
  have htk:=ZlJ_ hx1 hl
  have hts:t ∈ s.txs:=hx2 t (by rw [hl];simp)
  obtain ⟨A0,B0,hAB0⟩:=KZ' hts
  have hwt:=hs.waits t hts
  refine WL.e Ze'<|WL.next<|WP.seq<|WP.cond_t rfl<|WP.opn (Y5' (TP:=TPA) hAB0) fun _=>?_
  refine WP.opn (ZaV_ (t:=t)) fun x=>?_
  obtain ⟨s1,s2⟩:=x
  dsimp only
  refine WP.skip<|PO.next<|WP.block<|WP.seq<|WP.reg<|WL.e Xi'<|WL.e Ze'<|WL.e Ze'<|WL.e Zb'<|WL.e Zb'<|WL.next<|WP.seq<|WP.reg<|WL.e Za'<|WL.e Zk'<|WL.e (e_fa Zfk_)<|WL.e (Zc' a36)<|WL.e (ZD' (xs:=t.x.waits) sl36 Zr')<|WL.e Za'<|WL.next<|WP.block<|WP.loopK (fun (x:Nat × List (UInt32 × UInt32) × SV)=>[(29,.int .i64 x.1),(7,x.2.2.v)]) (fun (x:Nat × List (UInt32 × UInt32) × SV)=>Sl 285 2 edC (x.2.2.v) (x.2.1)::MpIt eU32 (.map (some mb)) it (List.map kvU s.txs) (List.map kvU A1++List.map kvU B1) (some (kvU t))::cl b1 24 [.int .u32 n.toNat]::cl p 136 [.pointer (some ⟨lp,0,none⟩),.pointer (some ⟨mp,0,none⟩),.int .u32 (UInt32.ofNat s.H.length).toNat,.map (some mb),.pointer (some ⟨kp,0,none⟩)]::cl lp 166 [.pointer (some ⟨dp,0,none⟩),.int .i64 s.at_]::Dk dp s.d::Mm mp s.rows::Lk kp s.locks::cl t.q 269 [s1.v,s2.v]::Sl 179 3 ChgM.c s1.v t.x.own::Sl 24 1 u32C s2.v t.x.waits::TxsU TPA (A0++B0)::A::R) [(0,_),(2,_),(4,_),(6,_),(8,_),(9,_),(18,_),(19,_),(20,_),(21,_),(22,_),(23,_),(24,_),(25,_),(26,_),(27,_),(28,_)] (fun (x:Nat × List (UInt32 × UInt32) × SV)=>x.1≤t.x.waits.length∧x.2.1=l++edT s.txs n t x.1) (fun (x:Nat × List (UInt32 × UInt32) × SV)=>t.x.waits.length - x.1) (0,l,w7) (⟨Nat.zero_le _,by simp [edT]⟩) ?_
  rintro ⟨k,l2,w8⟩ ⟨hk,hl2⟩
  simp only at hk hl2
  dsimp only
  have hel:=Zof_ (k:=k) htk
  rw [← hl2] at hel
  refine WP.seq<|WP.reg<|WL.e Z3'<|WL.next<|WP.seq ?_
  refine WP.cond rfl (fun h3=>?_) (fun h3=>?_)
  ·have hlt:k < t.x.waits.length:=by rw [decide_eq_true_eq] at h3;omega
   obtain ⟨w,hw⟩:∃ w,t.x.waits[k]?=some w:=⟨_,List.getElem?_eq_getElem hlt⟩
   refine WP.skip<|PO.next<|WP.seq<|WP.block<|WP.seq<|WP.reg<|WL.e (ZZ' (j:=k) (xs:=t.x.waits) sl36 Zr' hlt)<|WL.e (Ys' (j:=k) (a:=w) a24 u32E Zr' hw)<|WL.e Zb'<|WL.next<|WP.seq<|WP.reg<|WL.e Za'<|WL.e (Zc' a24)<|WL.e (XE')<|WL.e Za' ?_
   refine WL.bool 36 rfl (fun hg=>?_) (fun hg=>?_)
   ·replace hg:t.id≠n:=(show ¬ (kvU t).1=n by simpa using hg)
    refine WL.e Za'<|WL.e Zk'<|WL.e (e_fa Ka')<|WL.e (Zc' a132)<|WL.e Za'<|WL.e (ZlM_ (n:=w) (ts:=s.txs) Tryz.underlying132 (ZQ' Tryz.underlying24) Zcu_)<|WL.e (JX' Zct_)<|WL.e Zn'<|WL.next ?_
    refine WP.cond rfl (fun h6=>?_) (fun h6=>?_)
    ·replace h6:(Zs' s.txs w).isSome=true:=by cases e:Zs' s.txs w with
      | none=>rw [e] at h6;cases h6
      | some t=>rfl
     refine WP.reg<|WL.e Za'<|WL.e Za'<|WL.e Za'<|WL.e (Zv' z285 p285 (.o (.tmp 46) rfl<|.o (.tmp 47) rfl<|.n)) ?_
     refine WL.h (h_bs ZdW_ z285 (.a2 (.tmp 48) rfl<|.n) fun b4=>?_)
     refine WL.h (ZG' (xs:=l2) (ys:=[(t.id,w)]) ZdW_ edE z285 (Z7' edE [(t.id,w)] rfl) (by simp only [List.length_singleton];omega) (fun a5 n5 c5=>?_))
     refine WL.e Zb'<|WL.nil<|PO.blockN<|PO.next<|WP.reg<|WL.e (ZE' rfl rfl (Zt' (by omega) (by omega)))<|WL.e Za'<|WL.nil ?_
     exact PO.againK (k+1,l2++[(t.id,w)],⟨a5,n5,c5⟩) ⟨by simp only;omega,by simp only;rw [hl2,Zni_ hg hw h6,List.append_assoc]⟩ (by simp only;omega)
    ·replace h6:(Zs' s.txs w).isSome=false:=by cases e:Zs' s.txs w with
      | none=>rfl
      | some t=>rw [e] at h6;cases h6
     refine WP.skip<|PO.blockN<|PO.next<|WP.reg<|WL.e (ZE' rfl rfl (Zt' (by omega) (by omega)))<|WL.e Za'<|WL.nil ?_
     exact PO.againK (k+1,l2,w8) ⟨by simp only;omega,by simp only;rw [hl2,Zj2_ hw (.inr h6)]⟩ (by simp only;omega)
   ·replace hg:t.id=n:=(show (kvU t).1=n by simpa using hg)
    refine WL.skip<|WL.skip<|WL.skip<|WL.skip<|WL.skip<|WL.skip<|WL.skip<|WL.e Zl'<|WL.next<|WP.cond_f rfl<|WP.skip<|PO.blockN<|PO.next<|WP.reg<|WL.e (ZE' rfl rfl (Zt' (by omega) (by omega)))<|WL.e Za'<|WL.nil ?_
    exact PO.againK (k+1,l2,w8) ⟨by simp only;omega,by simp only;rw [hl2,Zj2_ hw (.inl hg)]⟩ (by simp only;omega)
  ·obtain rfl:k=t.x.waits.length:=by rw [decide_eq_false_iff_not] at h3;omega
   refine WP.exit<|PO.past nofun<|PO.round nofun<|PO.blockX<|PO.blockN<|PO.cls (A:=TxA_ t) (B:=[cl t.q 269 [s1.v,s2.v],Sl 179 3 ChgM.c s1.v t.x.own,Sl 24 1 u32C s2.v t.x.waits]) (fun S h=>⟨(s1,s2),h⟩) ?_
   refine PO.cls (A:=TxsU TPA s.txs) (B:=[TxA_ t,TxsU TPA (A0++B0)]) (fun S h=>hAB0 ▸ Yb' (TP:=TPA) (t:=t) S h) ?_
   rw [← List.map_append]
   exact PO.againK (A1++B1,l2,w8,_) ⟨by simp only;rw [hl2,List.append_assoc];exact htk,fun t ht=>hx2 t (by rw [hl];rcases List.mem_append.1 ht with h | h <;> simp [h])⟩ (by simp only [hl,List.length_append,List.length_cons];omega)
end Go.SL
