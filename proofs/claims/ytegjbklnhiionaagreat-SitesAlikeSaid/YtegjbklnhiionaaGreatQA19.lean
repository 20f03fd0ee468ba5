/- WC MA: rules and walks, several texts in one. -/
import Derived.Test.YtegjbklnhiionaaGreatQA18
import Derived.Test.YtegjbklnhiionaaGreatProg
import Derived.KernelRfl
set_option linter.unusedSimpArgs false
set_option linter.unusedVariables false
namespace Go.SL.Fc
open Go Go.Proofs Go.SL
theorem a114:ZJ' Tryz.prog 114=some none:=by kernel_rfl
theorem a148:ZJ' Tryz.prog 148=some none:=by kernel_rfl
theorem a149:ZJ' Tryz.prog 149=some none:=by kernel_rfl
theorem a150:ZJ' Tryz.prog 150=some none:=by kernel_rfl
theorem a351:ZJ' Tryz.prog 351=some none:=by kernel_rfl
theorem ZjT_:ZP' Tryz.prog 152 2=some 2:=by kernel_rfl
theorem Zcy_:ZP' Tryz.prog 152 3=some 3:=by kernel_rfl
theorem Uh':ZP' Tryz.prog 152 4=some 4:=by kernel_rfl
theorem J4':ZP' Tryz.prog 152 5=some 5:=by kernel_rfl
theorem J5':ZP' Tryz.prog 353 0=some 0:=by kernel_rfl
theorem Kr':ZP' Tryz.prog 355 0=some 0:=by kernel_rfl
theorem J6':ZP' Tryz.prog 355 1=some 1:=by kernel_rfl
theorem ZjU_:ZP' Tryz.prog 360 0=some 0:=by kernel_rfl
theorem Znw_:ZP' Tryz.prog 360 1=some 1:=by kernel_rfl
theorem k261:Zh' Tryz.prog 261=true:=by kernel_rfl
theorem k262:Zh' Tryz.prog 262=true:=by kernel_rfl
theorem k263:Zh' Tryz.prog 263=true:=by kernel_rfl
theorem k264:Zh' Tryz.prog 264=true:=by kernel_rfl
theorem k265:Zh' Tryz.prog 265=true:=by kernel_rfl
theorem k266:Zh' Tryz.prog 266=true:=by kernel_rfl
theorem k267:Zh' Tryz.prog 267=true:=by kernel_rfl
theorem k268:Zh' Tryz.prog 268=true:=by kernel_rfl
theorem p353:Ya' Tryz.prog 353=some [(0,1)]:=by kernel_rfl
theorem p355:Ya' Tryz.prog 355=some [(0,1),(1,1)]:=by kernel_rfl
theorem ZnX_:XW' Tryz.prog 114=true:=by kernel_rfl
theorem s150:szOf Tryz.prog 150=some 1:=by kernel_rfl
theorem s355:szOf Tryz.prog 355=some 2:=by kernel_rfl
theorem z353:ZH' Tryz.prog 353=some [.int .u32 0]:=by kernel_rfl
theorem z355:ZH' Tryz.prog 355=some [.int .u32 0,.slice none 0 0]:=by kernel_rfl
end Go.SL.Fc
namespace Go.SL
open Go Go.Proofs Fc
def Gs (p dp:Nat) (s:GamV):HP:=fun S=>∃ x:GI,Zm' [cl p 152 [.pointer (some ⟨x.lp,0,none⟩),.pointer (some ⟨x.mp,0,none⟩),x.nm,.int .u32 s.last.toNat,x.sv.v,x.lm],cl x.lp 166 [.pointer (some ⟨dp,0,none⟩),.int .i64 s.at_],Dk dp s.d,Mm x.mp s.rows,Mp eStr x.nm (List.map numC s.nums),Sl 360 3 Ye' (x.sv.v) s.looks,Mp eU32 x.lm (List.map kvT s.txs)] S
theorem JS' {p dp:Nat} {s:GamV}:∀ S,Gs p dp s S→∃ x:GI,Zm' [cl p 152 [.pointer (some ⟨x.lp,0,none⟩),.pointer (some ⟨x.mp,0,none⟩),x.nm,.int .u32 s.last.toNat,x.sv.v,x.lm],cl x.lp 166 [.pointer (some ⟨dp,0,none⟩),.int .i64 s.at_],Dk dp s.d,Mm x.mp s.rows,Mp eStr x.nm (List.map numC s.nums),Sl 360 3 Ye' (x.sv.v) s.looks,Mp eU32 x.lm (List.map kvT s.txs)] S:=fun _ h=>h
def TxL (t:TxV):List HP:=[cl t.q 355 [.int .u32 t.num.toNat,t.sv.v],Sl 179 3 ChgM.c t.sv.v t.own]
def TxP (t:TxV):HP:=bun (TxL t)
def Txs (ts:List TxV):HP:=bun (ts.map TxP)
theorem Ui' {ts A B:List TxV} {t:TxV} (h:ts=A++t::B):∀ S,Txs ts S→∃ _:Unit,Zm' [cl t.q 355 [.int .u32 t.num.toNat,t.sv.v],Sl 179 3 ChgM.c t.sv.v t.own,Txs (A++B)] S:=fun S hS=>by
 subst h
 refine ⟨(),?_⟩
 unfold Txs bun at hS
 rw [List.map_append,List.map_cons] at hS
 have h1:=Y7' hS
 have h2:Zm' (TxL t++(A.map TxP++B.map TxP)) S:=Yx' h1
 refine ZV' (fun S h=>ZV' (fun S h=>?_) h) h2
 show Zm' [bun ((A++B).map TxP)] S
 rw [List.map_append]
 have:=Yz' (L:=A.map TxP++B.map TxP) (M:=[]) (S:=S) (by simpa using h)
 exact this
theorem K3' {A B:List TxV} {t:TxV}:∀ S,Zm' [cl t.q 355 [.int .u32 t.num.toNat,t.sv.v],Sl 179 3 ChgM.c t.sv.v t.own,Txs (A++B)] S→Txs (A++t::B) S:=fun S hS=>by
 unfold Txs bun
 rw [List.map_append,List.map_cons]
 refine X0'<|Yz' (L:=TxL t) ?_
 refine ZV' (fun S h=>ZV' (fun S h=>?_) h) hS
 have h':Zm' (bun ((A++B).map TxP)::[]) S:=h
 rw [List.map_append] at h'
 have:=Yx' h'
 simpa using this
theorem ZjV_ {g:World} (n:UInt32):Spec Tryz.prog g 259 [.int .u32 n.toNat] [] fun K R=>∀ a m c,K (.slice a m c) (Sl 5 1 eB (.slice a m c) (numB n 4)::R):=by
 refine Spec.intro Tryz.func259 rfl Tryz.ntmps259 rfl fun R K hK=>?_
 refine WP.seq<|WP.reg<|WL.e Zb'<|WL.next<|WP.seq<|WP.reg<|WL.e Za'<|WL.e (V9' (k:=.u32) (a:=n.toNat) (m:=24) (by decide))<|WL.e (e_c8 (by rw [Tryz.underlying24];rfl) Tryz.underlying5)<|WL.e Za'<|WL.e (V9' (k:=.u32) (a:=n.toNat) (m:=16) (by decide))<|WL.e (e_c8 (by rw [Tryz.underlying24];rfl) Tryz.underlying5)<|WL.e Za'<|WL.e (V9' (k:=.u32) (a:=n.toNat) (m:=8) (by decide))<|WL.e (e_c8 (by rw [Tryz.underlying24];rfl) Tryz.underlying5)<|WL.e Za'<|WL.e (e_c8 (by rw [Tryz.underlying24];rfl) Tryz.underlying5) ?_
 refine WL.h (h_bs Z5' z5 (.o (.tmp 5) rfl<|.o (.tmp 8) rfl<|.o (.tmp 11) rfl<|.o (.tmp 13) rfl<|.n) fun b1=>?_)
 refine WL.e Zb'<|WL.next<|WP.ret ?_
 have e4:numB n 4=[UInt8.ofNat (n.toNat / 2 ^ 24),UInt8.ofNat (n.toNat / 2 ^ 16),UInt8.ofNat (n.toNat / 2 ^ 8),UInt8.ofNat n.toNat]:=by simp [numB]
 rw [e4] at hK
 refine PO.conv (YP' (B:=Sl 5 1 eB (.slice (some ⟨b1,0,none⟩) 4 4) [UInt8.ofNat (n.toNat / 2 ^ 24),UInt8.ofNat (n.toNat / 2 ^ 16),UInt8.ofNat (n.toNat / 2 ^ 8),UInt8.ofNat n.toNat]) (Zgn_ Yo' [UInt8.ofNat (n.toNat / 2 ^ 24),UInt8.ofNat (n.toNat / 2 ^ 16),UInt8.ofNat (n.toNat / 2 ^ 8),UInt8.ofNat n.toNat] rfl rfl (by decide)) (by repeat first | exact .z | apply Put.s)) ?_
 exact PO.fin Tryz.results259 (Zd' Ze') (hK _ _ _)
theorem Ks' {g:World} {p dp:Nat} {s:GamV}:Spec Tryz.prog g 257 [.pointer (some ⟨p,0,none⟩)] [Gs p dp s] fun K R=>K (.bool true) (Gs p dp s::R):=by
 refine Spec.intro Tryz.func257 rfl Tryz.ntmps257 rfl fun R K hK=>?_
 refine WP.opn (JS' (p:=p) (dp:=dp) (s:=s)) fun x=>?_
 obtain ⟨lp,mp,nm,lm,sv⟩:=x
 dsimp only
 refine WP.seq<|WP.reg<|WL.e Zb'<|WL.next<|WP.seq<|WP.reg<|WL.e Za'<|WL.e (JO' ZnX_)<|WL.e Za' ?_
 refine WL.bool 5 rfl (fun h=>?_) (fun h=>?_)
 ·skip
  refine WL.e Za'<|WL.e Zj'<|WL.e (e_fa J4')<|WL.e (Zc' a149)<|WL.e (Zb1_ Tryz.underlying149)<|WL.e Zn'<|WL.e Zb'<|WL.next<|WP.ret<|PO.cls (A:=Gs p dp (s)) (B:=[cl p 152 [.pointer (some ⟨lp,0,none⟩),.pointer (some ⟨mp,0,none⟩),nm,.int .u32 s.last.toNat,sv.v,lm],cl lp 166 [.pointer (some ⟨dp,0,none⟩),.int .i64 s.at_],Dk dp s.d,Mm mp s.rows,Mp eStr nm (List.map numC s.nums),Sl 360 3 Ye' (sv.v) s.looks,Mp eU32 lm (List.map kvT s.txs)]) (fun S h=>⟨⟨lp,mp,nm,lm,sv⟩,h⟩) ?_
  exact PO.fin Tryz.results257 (Zd' Ze') hK
 ·cases h 
theorem ZjW_ {g:World} {A:HP} {u:Value} {p dp:Nat} {s:GamV} {cs:List ChgM} (num:UInt32) (hA:RL A 3 ChgM.c u cs) (hn:cs.length≤68719476736):Spec Tryz.prog g 62 [.pointer (some ⟨p,0,none⟩),.int .u32 num.toNat,u] [Gs p dp s,A] fun K R=>K (.tuple #[]) (Gs p dp { s with nums:=JD' s.nums num cs }::A::R):=by
 refine Spec.intro Tryz.func62 rfl Tryz.ntmps62 rfl fun R K hK=>?_
 refine WP.opn (JS' (p:=p) (dp:=dp) (s:=s)) fun x=>?_
 obtain ⟨lp,mp,nm,lm,sv⟩:=x
 dsimp only
 refine WP.seq<|WP.reg<|WL.e Za'<|WL.e (ZC' (xs:=cs) Yw' hA)<|WL.e Za'<|WL.next<|WP.block<|WP.loopK (fun (i:Nat)=>[(10,.int .i64 i)]) (fun (i:Nat)=>cl p 152 [.pointer (some ⟨lp,0,none⟩),.pointer (some ⟨mp,0,none⟩),nm,.int .u32 s.last.toNat,sv.v,lm]::cl lp 166 [.pointer (some ⟨dp,0,none⟩),.int .i64 s.at_]::Dk dp s.d::Mm mp s.rows::Mp eStr nm (List.map numC (JD' s.nums num (cs.take i)))::Sl 360 3 Ye' (sv.v) s.looks::Mp eU32 lm (List.map kvT s.txs)::A::R) [(0,_),(1,_),(8,_),(9,_)] (fun (i:Nat)=>i≤cs.length) (fun (i:Nat)=>cs.length - i) 0 (Nat.zero_le _) ?_
 intro i hi
 refine WP.seq<|WP.reg<|WL.e ZZ'<|WL.next<|WP.seq ?_
 refine WP.cond rfl (fun h2=>?_) (fun h2=>?_)
 ·have hlt:i < cs.length:=by rw [decide_eq_true_eq] at h2;omega
  obtain ⟨c,hc⟩:∃ c,cs[i]?=some c:=⟨_,List.getElem?_eq_getElem hlt⟩
  refine WP.skip<|PO.next<|WP.seq<|WP.block<|WP.seq<|WP.reg<|WL.e (ZM' (xs:=cs) Yw' hA hlt)<|WL.e (Yh' (a:=c) a179 chgE hA hc) ?_
  refine WL.h (Zu' z179 fun b1=>?_)
  refine WL.h' (Zk' s179 ?_)
  refine WL.next<|WP.draws Zq' 8<|RW.e 0 rfl Za'<|RW.e 1 rfl Zj'<|RW.e 2 rfl (e_fa ZjT_)<|RW.e 3 rfl (Zc' a148)<|RW.e 4 rfl (e_fa Xq')<|RW.e 5 rfl (Zc' a9)<|RW.e 6 rfl Za' ?_
  refine RW.any (is:=[7]) rfl ⟨?_,trivial⟩
  refine RWat.h' rfl rfl rfl ?_
  refine (YG' (k:=c.key) (kvs:=List.map numC (JD' s.nums num (cs.take i))) Tryz.underlying148 (KG' Tryz.underlying9) ?_)
  refine ⟨trivial,?_⟩
  refine RW.done<|PO.blockN<|PO.next<|WP.reg<|WL.e (ZK' rfl rfl (Zt' (by omega) (by omega)))<|WL.e Za'<|WL.nil ?_
  rw [ZkI_,← Zb6_,← ZA' hc]
  exact PO.againK (i+1) (by omega) (by omega)
 ·rw [List.take_of_length_le (show cs.length≤i by rw [decide_eq_false_iff_not] at h2;omega)]
  refine WP.exit<|PO.past nofun<|PO.round nofun<|PO.blockX<|PO.cls (A:=Gs p dp ({ s with nums:=JD' s.nums num cs })) (B:=[cl p 152 [.pointer (some ⟨lp,0,none⟩),.pointer (some ⟨mp,0,none⟩),nm,.int .u32 s.last.toNat,sv.v,lm],cl lp 166 [.pointer (some ⟨dp,0,none⟩),.int .i64 s.at_],Dk dp s.d,Mm mp s.rows,Mp eStr nm (List.map numC (JD' s.nums num cs)),Sl 360 3 Ye' (sv.v) s.looks,Mp eU32 lm (List.map kvT s.txs)]) (fun S h=>⟨⟨lp,mp,nm,lm,sv⟩,h⟩) ?_
  exact PO.fin Tryz.results62 Ze' hK
theorem Zf1_ {g:World} {p dp:Nat} {s:GamV} (n:UInt32) (hf:Z7' s.txs n=none):Spec Tryz.prog g 256 [.pointer (some ⟨p,0,none⟩),.int .u32 n.toNat] [Gs p dp s,Txs s.txs] fun K R=>∀ q,K (.tuple #[]) (Gs p dp { s with last:=s.last+1,txs:=s.txs++[⟨n,s.last+1,[],q,⟨none,0,0⟩⟩] }::Txs (s.txs++[⟨n,s.last+1,[],q,⟨none,0,0⟩⟩])::R):=by
 refine Spec.intro Tryz.func256 rfl Tryz.ntmps256 rfl fun R K hK=>?_
 refine WP.opn (JS' (p:=p) (dp:=dp) (s:=s)) fun x=>?_
 obtain ⟨lp,mp,nm,lm,sv⟩:=x
 dsimp only
 refine WP.seq<|WP.reg<|WL.e Za'<|WL.e Zj'<|WL.e (e_fa Zcy_)<|WL.e (Zc' a24)<|WL.e (ZaD_ (b:=1))<|WL.e Zj'<|WL.e (e_fa Zcy_) ?_
 refine WL.h' (Zk' s24 ?_)
 refine WL.next<|WP.draws Zq' 13<|RW.e 0 rfl Za'<|RW.e 1 rfl Zj'<|RW.e 2 rfl (e_fa J4')<|RW.e 3 rfl (Zc' a149)<|RW.e 4 rfl Za'<|RW.e 5 rfl Za'<|RW.e 6 rfl Zj'<|RW.e 7 rfl (e_fa Zcy_)<|RW.e 8 rfl (Zc' a24)<|RW.e 9 rfl (Zw' z353 p353 (.o (.tmp 19) rfl<|.n))<|RW.e 10 rfl (Zw' z355 p355 (.a1 (.tmp 20) rfl<|.z (.slice none 0 0)<|.n)) ?_
 refine RW.any (is:=[11]) rfl ⟨?_,trivial⟩
 refine RWat.h rfl rfl rfl ?_
 refine (ZL' fun b1=>?_)
 refine ⟨⟨⟨_,rfl,.inl ⟨rfl,Za'⟩⟩,⟨_,rfl,.inl ⟨rfl,(Zc' a149)⟩⟩,⟨_,rfl,.inl ⟨rfl,(e_fa J4')⟩⟩,⟨_,rfl,.inl ⟨rfl,Zj'⟩⟩,⟨_,rfl,.inl ⟨rfl,Za'⟩⟩,trivial⟩,?_⟩
 refine RW.any (is:=[12]) rfl ⟨?_,trivial⟩
 refine RWat.h' rfl rfl rfl ?_
 refine (YG' (k:=n) (kvs:=List.map kvT s.txs) Tryz.underlying149 (ZQ' Tryz.underlying24) ?_)
 rw [ZmF_ s.txs ⟨n,s.last+1,[],b1,⟨none,0,0⟩⟩ hf]
 refine ⟨trivial,?_⟩
 refine RW.done<|PO.nils 179 3 ChgM.c none ?_
 refine PO.cls (A:=Gs p dp ({ s with last:=s.last+1,txs:=s.txs++[⟨n,s.last+1,[],b1,⟨none,0,0⟩⟩] })) (B:=[cl p 152 [.pointer (some ⟨lp,0,none⟩),.pointer (some ⟨mp,0,none⟩),nm,.int .u32 (s.last+1).toNat,sv.v,lm],cl lp 166 [.pointer (some ⟨dp,0,none⟩),.int .i64 s.at_],Dk dp s.d,Mm mp s.rows,Mp eStr nm (List.map numC s.nums),Sl 360 3 Ye' (sv.v) s.looks,Mp eU32 lm (List.map kvT (s.txs++[⟨n,s.last+1,[],b1,⟨none,0,0⟩⟩]))]) (fun S h=>⟨⟨lp,mp,nm,lm,sv⟩,h⟩) ?_
 refine PO.cls (A:=Txs (s.txs++[⟨n,s.last+1,[],b1,⟨none,0,0⟩⟩])) (B:=[cl b1 355 [.int .u32 (s.last+1).toNat,.slice none 0 0],Sl 179 3 ChgM.c (.slice none 0 0) [],Txs s.txs]) (fun S h=>K3' (A:=s.txs) (B:=[]) (t:=⟨n,s.last+1,[],b1,⟨none,0,0⟩⟩) S (by rw [List.append_nil];exact h)) ?_
 exact PO.fin Tryz.results256 Ze' (hK b1)
theorem Zh1_ {g:World} (x:UInt32 × SpanM) {b:Nat} (m:UInt32):Spec Tryz.prog g 263 [.agg (Ye' x).toArray,.pointer (some ⟨b,0,none⟩)] [cl b 24 [.int .u32 m.toNat]] fun K R=>K (.bool (decide (x.1 < m))) (cl b 24 [.int .u32 m.toNat]::R):=by
 refine Spec.intro Tryz.func263 rfl Tryz.ntmps263 rfl fun R K hK=>?_
 refine WP.seq<|WP.reg ?_
 refine WL.h (ZL' fun b1=>?_)
 refine WL.e Zb'<|WL.next<|WP.seq<|WP.reg<|WL.e (e_fa ZjU_)<|WL.e (e_fa J5')<|WL.e (Zc' a24)<|WL.e (Zc' a24)<|WL.e (V8')<|WL.e Zb'<|WL.next<|WP.ret ?_
 exact PO.fin Tryz.results263 (Zd' Ze') hK
theorem Zav_ {g:World} {p dp:Nat} {s:GamV} (n:UInt32) (hn:s.looks.length≤68719476736):Spec Tryz.prog g 258 [.pointer (some ⟨p,0,none⟩),.int .u32 n.toNat] [Gs p dp s,Txs (delT s.txs n)] fun K R=>K (.tuple #[]) (Gs p dp (Yl' s n)::Txs (delT s.txs n)::R):=by
 refine Spec.intro Tryz.func258 rfl Tryz.ntmps258 rfl fun R K hK=>?_
 refine WP.opn (JS' (p:=p) (dp:=dp) (s:=s)) fun x=>?_
 obtain ⟨lp,mp,nm,lm,sv⟩:=x
 dsimp only
 refine WP.seq<|WP.reg<|WL.e Za'<|WL.e Zj'<|WL.e (e_fa J4')<|WL.e (Zc' a149)<|WL.e Za' ?_
 refine WL.h' (X8' (k:=n) (kvs:=List.map kvT s.txs) Tryz.underlying149 (ZQ' Tryz.underlying24) ?_)
 rw [ZmE_]
 refine WL.next<|WP.seq<|WP.reg<|WL.e Za'<|WL.e Zj'<|WL.e (e_fa Zcy_)<|WL.e (Zc' a24) ?_
 refine WL.h (Zu' z24 fun b1=>?_)
 refine WL.h' (Zk' s24 ?_)
 refine WL.next<|WP.seq<|WP.seq<|WP.reg<|WL.e Za'<|WL.e Zj'<|WL.e (e_fa J4')<|WL.e (Zc' a149) ?_
 refine WL.h (Xh' (kvs:=List.map kvT (delT s.txs n)) Tryz.underlying149 fun it=>?_)
 refine WL.next<|WP.block<|WP.loopK (fun (x:List TxV × UInt32 × Option (UInt32 × Value))=>[]) (fun (x:List TxV × UInt32 × Option (UInt32 × Value))=>MpIt eU32 lm it (List.map kvT (delT s.txs n)) (List.map kvT x.1) x.2.2::cl b1 24 [.int .u32 x.2.1.toNat]::Txs (delT s.txs n)::cl p 152 [.pointer (some ⟨lp,0,none⟩),.pointer (some ⟨mp,0,none⟩),nm,.int .u32 s.last.toNat,sv.v,lm]::cl lp 166 [.pointer (some ⟨dp,0,none⟩),.int .i64 s.at_]::Dk dp s.d::Mm mp s.rows::Mp eStr nm (List.map numC s.nums)::Sl 360 3 Ye' (sv.v) s.looks::R) [(0,_),(4,_),(20,_)] (fun (x:List TxV × UInt32 × Option (UInt32 × Value))=>(∀ t ∈ x.1,t ∈ (delT s.txs n))∧minL x.1 x.2.1=minL (delT s.txs n) s.last) (fun (x:List TxV × UInt32 × Option (UInt32 × Value))=>x.1.length) ((delT s.txs n),s.last,none) (⟨fun _ h=>h,rfl⟩) ?_
 rintro ⟨left,m,cur⟩ ⟨hx1,hx2⟩
 simp only at hx1 hx2
 dsimp only
 refine WP.seq<|WP.reg ?_
 refine WL.h (XP' (fun h0=>?_) (fun a y b hx=>?_))
 ·have hl0:left=[]:=by simpa using h0
  subst hl0
  refine WL.e Zf'<|WL.next<|WP.seq<|WP.cond_f rfl<|WP.exit<|PO.past nofun<|PO.round nofun<|PO.blockX<|PO.next<|WP.reg<|WL.e Za'<|WL.e Za'<|WL.e Zj'<|WL.e (e_fa Uh')<|WL.e (Zc' a150)<|WL.e Yj' ?_
  refine WL.h (Zg' (ZjS_ (p:=fun x=>decide (x.1 < m)) hn (fun x=>CallV.of_spec (fs:=[]) (cs:=[.pointer (some ⟨b1,0,none⟩)]) (Zh1_ x m) k263)) k262 ?_)
  intro a3 m3 c3
  refine WL.e Zj'<|WL.e (e_fa Uh') ?_
  refine WL.h' (Zk' s150 ?_)
  refine WL.nil ?_
  rw [show m=minL (delT s.txs n) s.last from hx2]
  refine PO.cls (A:=Gs p dp ((Yl' s n))) (B:=[cl p 152 [.pointer (some ⟨lp,0,none⟩),.pointer (some ⟨mp,0,none⟩),nm,.int .u32 s.last.toNat,.slice a3 m3 c3,lm],cl lp 166 [.pointer (some ⟨dp,0,none⟩),.int .i64 s.at_],Dk dp s.d,Mm mp s.rows,Mp eStr nm (List.map numC s.nums),Sl 360 3 Ye' (.slice a3 m3 c3) (s.looks.filter fun x=>!decide (x.1 < minL (delT s.txs n) s.last)),Mp eU32 lm (List.map kvT (delT s.txs n))]) (fun S h=>⟨⟨lp,mp,nm,lm,⟨a3,m3,c3⟩⟩,h⟩) ?_
  exact PO.fin Tryz.results258 Ze' hK
 ·obtain ⟨A,t,B,hl,rfl,rfl,rfl⟩:=Xj' hx
  obtain ⟨A2,B2,hAB⟩:=KN' (hx1 t (by simp [hl]))
  refine WL.opn (Ui' hAB) fun _=>?_
  refine WL.e Zf'<|WL.next<|WP.seq<|WP.cond_t rfl<|WP.skip<|PO.next<|WP.block<|WP.seq<|WP.reg<|WL.e Y9'<|WL.e Zf'<|WL.e Zb'<|WL.next<|WP.draws Zq' 8<|RW.e 0 rfl (Zc' a24)<|RW.e 1 rfl Za'<|RW.e 2 rfl Zj'<|RW.e 3 rfl (e_fa Kr')<|RW.e 4 rfl (e_fa J5')<|RW.e 5 rfl (Zc' a24)<|RW.e 6 rfl Zma_ ?_
  refine RW.any (is:=[7]) rfl ⟨?_,trivial⟩
  refine RWat.h' rfl rfl rfl ?_
  refine (Zk' s24 ?_)
  refine ⟨trivial,?_⟩
  refine RW.done<|PO.blockN ?_
  rw [← List.map_append]
  refine PO.cls (A:=Txs (delT s.txs n)) (B:=[cl t.q 355 [.int .u32 t.num.toNat,t.sv.v],Sl 179 3 ChgM.c t.sv.v t.own,Txs (A2++B2)]) (fun S h=>hAB ▸ K3' S h) ?_
  exact PO.againK (A++B,(if t.num < m then t.num else m),_) ⟨fun y hy=>hx1 y (by rw [hl];simp only [List.mem_append,List.mem_cons] at hy ⊢;rcases hy with h | h;exact .inl h;exact .inr (.inr h)),by simp only;rw [← Zlp_,← hl];exact hx2⟩ (by simp only [hl,List.length_append,List.length_cons];omega)
theorem ZjX_ {g:World} (c:ChgM) {b:Nat} (sp:SpanM):Spec Tryz.prog g 268 [.agg (ChgM.c c).toArray,.pointer (some ⟨b,0,none⟩)] [cl b 45 [.string sp.a,.string sp.b]] fun K R=>K (.bool (meet (one c.key) sp)) (cl b 45 [.string sp.a,.string sp.b]::R):=by
 refine Spec.intro Tryz.func268 rfl Tryz.ntmps268 rfl fun R K hK=>?_
 refine WP.seq<|WP.reg ?_
 refine WL.h (ZL' fun b1=>?_)
 refine WL.e Zb'<|WL.next<|WP.seq<|WP.draws Zq' 6<|RW.e 0 rfl (e_fa Xq')<|RW.e 1 rfl (Zc' a9)<|RW.e 3 rfl (Zo' a45) ?_
 refine RW.any (is:=[2]) rfl ⟨?_,trivial⟩
 refine RWat.h rfl rfl rfl ?_
 refine (Zg' (Zd9_ _) k264 ?_)
 refine ⟨⟨⟨_,rfl,.inl ⟨rfl,(Zo' a45)⟩⟩,trivial⟩,?_⟩
 refine RW.any (is:=[4]) rfl ⟨?_,trivial⟩
 refine RWat.h rfl rfl rfl ?_
 refine (Zg' (Y4' ⟨_,_⟩ ⟨_,_⟩) k30 ?_)
 refine ⟨trivial,?_⟩
 refine RW.e 5 rfl Zb'<|RW.done<|PO.next<|WP.ret ?_
 exact PO.fin Tryz.results268 (Zd' Ze') hK
def numV (n:UInt32):List Value:=[.int .u32 n.toNat]
theorem Zcz_ {g:World} {c1 c2 c3 p dp:Nat} {s:GamV} {t:TxV} {A B:List TxV} {sp:SpanM} (hts:s.txs=A++t::B) (hnd:(s.txs.map (·.id)).Nodup) (hown:∀ x ∈ s.txs,x.own.length≤68719476736) :
  ZlM_ (cl t.q 355 [.int .u32 t.num.toNat,t.sv.v]) Tryz.prog g 267 (fun y=>[]++[y]++[.pointer (some ⟨c1,0,none⟩),.pointer (some ⟨c2,0,none⟩),.pointer (some ⟨c3,0,none⟩)]) [cl c1 114 [.pointer (some ⟨p,0,none⟩)],cl c2 45 [.string sp.a,.string sp.b],cl c3 351 [.pointer (some ⟨t.q,0,none⟩)],Gs p dp s,Txs (A++B),cl t.q 355 [.int .u32 t.num.toNat,t.sv.v]] numV (fun _=>pu True) (fun xs=>xs.Perm (Yv' s.txs t.id sp)) (fun pre=>∃ r,(pre++r).Perm (Yv' s.txs t.id sp)) [Gs p dp s,Txs (A++B),cl t.q 355 [.int .u32 t.num.toNat,t.sv.v]]:=by
 intro y J X cont hy
 refine Spec.intro Tryz.func267 rfl Tryz.ntmps267 rfl fun R K hK=>?_
 refine WP.opn (JS' (p:=p) (dp:=dp) (s:=s)) fun x=>?_
 obtain ⟨lp,mp,nm,lm,sv⟩:=x
 dsimp only
 refine WP.seq<|WP.reg<|WL.e (Zc' a114)<|WL.e Zj'<|WL.e (e_fa J4')<|WL.e (Zc' a149) ?_
 refine WL.h (Xh' (kvs:=List.map kvT s.txs) Tryz.underlying149 fun it=>?_)
 refine WL.next<|WP.block<|WP.loopK (fun (x:List TxV × List UInt32 × Option (UInt32 × Value))=>[]) (fun (x:List TxV × List UInt32 × Option (UInt32 × Value))=>MpIt eU32 lm it (List.map kvT s.txs) (List.map kvT x.1) x.2.2::J x.2.1::cl p 152 [.pointer (some ⟨lp,0,none⟩),.pointer (some ⟨mp,0,none⟩),nm,.int .u32 s.last.toNat,sv.v,lm]::cl lp 166 [.pointer (some ⟨dp,0,none⟩),.int .i64 s.at_]::Dk dp s.d::Mm mp s.rows::Mp eStr nm (List.map numC s.nums)::Sl 360 3 Ye' (sv.v) s.looks::cl c1 114 [.pointer (some ⟨p,0,none⟩)]::cl c2 45 [.string sp.a,.string sp.b]::cl c3 351 [.pointer (some ⟨t.q,0,none⟩)]::Txs (A++B)::cl t.q 355 [.int .u32 t.num.toNat,t.sv.v]::R) [(0,_),(2,_),(3,_),(12,_)] (fun (x:List TxV × List UInt32 × Option (UInt32 × Value))=>(∀ y ∈ x.1,y ∈ s.txs)∧(x.2.1++Yv' x.1 t.id sp).Perm (Yv' s.txs t.id sp)∧Hist cont x.2.1) (fun (x:List TxV × List UInt32 × Option (UInt32 × Value))=>x.1.length) (s.txs,[],none) (⟨fun _ h=>h,.refl _,Hist.nil⟩) ?_
 rintro ⟨left,pre,cur⟩ ⟨hx1,hx2,hx3⟩
 simp only at hx1 hx2 hx3
 dsimp only
 refine WP.seq<|WP.reg ?_
 refine WL.h (XP' (fun h0=>?_) (fun a y0 b hx=>Zlq_ hx t.id (fun A1 y B1 hl ha hy0 hb hid=>?_) (fun A1 y B1 hl ha hy0 hb hid=>?_)))
 ·have hl0:left=[]:=by simpa using h0
  subst hl0
  refine WL.e Zf'<|WL.next<|WP.seq<|WP.cond_f rfl<|WP.exit<|PO.past nofun<|PO.round nofun<|PO.blockX<|PO.cls (A:=Gs p dp (s)) (B:=[cl p 152 [.pointer (some ⟨lp,0,none⟩),.pointer (some ⟨mp,0,none⟩),nm,.int .u32 s.last.toNat,sv.v,lm],cl lp 166 [.pointer (some ⟨dp,0,none⟩),.int .i64 s.at_],Dk dp s.d,Mm mp s.rows,Mp eStr nm (List.map numC s.nums),Sl 360 3 Ye' (sv.v) s.looks,Mp eU32 lm (List.map kvT s.txs)]) (fun S h=>⟨⟨lp,mp,nm,lm,sv⟩,h⟩) ?_
  exact PO.fin Tryz.results267 Ze' (hK.1 pre (by simpa [Yv'] using hx2) hx3)
 ·subst ha hy0 hb
  have hsub:∀ z ∈ A1++B1,z ∈ s.txs:=fun z hz=>hx1 z (by rw [hl];simp only [List.mem_append,List.mem_cons] at hz ⊢;rcases hz with h | h;exact .inl h;exact .inr (.inr h))
  obtain rfl:y=t:=Zh0_ hts hnd (hx1 y (by simp [hl])) hid
  refine WL.e Zf'<|WL.next<|WP.seq<|WP.cond_t rfl<|WP.skip<|PO.next<|WP.block<|WP.seq<|WP.reg<|WL.e Y9'<|WL.e Zf'<|WL.e Zb'<|WL.next<|WP.seq<|WP.reg<|WL.e Yj'<|WL.e Zb'<|WL.next<|WP.seq<|WP.reg<|WL.e Za'<|WL.e (Zc' a351)<|WL.e (e_pp (q:=true) (.inr rfl) Tryz.underlying351 s355 (by decide) rfl rfl (.inl ⟨rfl,rfl,rfl⟩))<|WL.e Za' ?_
  refine WL.bool 21 rfl (fun hg=>?_) (fun hg=>?_)
  ·cases hg 
  ·skip
   refine WL.skip<|WL.skip<|WL.skip<|WL.skip<|WL.skip<|WL.skip<|WL.e Zl'<|WL.e Za'<|WL.skip<|WL.skip<|WL.skip<|WL.skip<|WL.skip<|WL.skip<|WL.skip<|WL.skip<|WL.e Zl'<|WL.next<|WP.cond_f rfl<|WP.skip<|PO.blockN ?_
   rw [← List.map_append]
   exact PO.againK (A1++B1,pre,_) ⟨hsub,by simp only;rwa [hl,UI',UH',if_pos hid,List.nil_append,← K2'] at hx2,hx3⟩ (by simp only [hl,List.length_append,List.length_cons];omega)
 ·subst ha hy0 hb
  have hsub:∀ z ∈ A1++B1,z ∈ s.txs:=fun z hz=>hx1 z (by rw [hl];simp only [List.mem_append,List.mem_cons] at hz ⊢;rcases hz with h | h;exact .inl h;exact .inr (.inr h))
  have hyin:=hx1 y (by simp [hl])
  obtain ⟨A2,B2,hAB⟩:=KN' (Zf0_ hts hyin hid)
  have hpp:Qg' y sp=true→(pre++Yv' left t.id sp).Perm (pre++([y.num]++(Yv' A1 t.id sp++Yv' B1 t.id sp))):=fun h=>by rw [hl,UI',UH',if_neg hid,h,if_pos rfl];exact (List.Perm.append_left _ (List.perm_append_comm_assoc _ _ _))
  refine WL.opn (Ui' hAB) fun _=>?_
  refine WL.e Zf'<|WL.next<|WP.seq<|WP.cond_t rfl<|WP.skip<|PO.next<|WP.block<|WP.seq<|WP.reg<|WL.e Y9'<|WL.e Zf'<|WL.e Zb'<|WL.next<|WP.seq<|WP.reg<|WL.e Yj'<|WL.e Zb'<|WL.next<|WP.seq<|WP.reg<|WL.e Za'<|WL.e (Zc' a351)<|WL.e (e_pp (q:=false) (.inr rfl) Tryz.underlying351 s355 (by decide) rfl rfl (.inr ⟨rfl,_,_,_,_,_,_,by repeat first | exact .z | apply Pick.s,by repeat first | exact .z | apply Pick.s⟩))<|WL.e Za' ?_
  refine WL.bool 21 rfl (fun hg=>?_) (fun hg=>?_)
  ·skip
   refine WL.e Za'<|WL.e Zj'<|WL.e (e_fa J6')<|WL.e (Zc' a138)<|WL.e Za' ?_
   refine WL.h (Zg' (Uc' (p:=fun c=>meet (one c.key) sp) Zr' (hown y hyin) (fun x=>CallV.of_spec (fs:=[]) (cs:=[.pointer (some ⟨c2,0,none⟩)]) (ZjX_ x sp) k268)) k80 ?_)
   refine WL.e Zn'<|WL.e Za' ?_
   refine WL.bool 29 rfl (fun hch=>?_) (fun hch=>?_)
   ·skip
    refine WL.e Za'<|WL.e Za'<|WL.e Zj'<|WL.e (e_fa Kr')<|WL.e (e_fa J5')<|WL.e (Zc' a24) ?_
    refine WL.h (HO.conv (fun S h=>Yr' trivial h) (YC' (hy pre y.num ⟨_,by rw [List.append_assoc];exact (hpp hch).symm.trans hx2⟩ hx3) ?_))
    refine ⟨fun hcc=>?_,fun hcc=>?_⟩
    ·skip
     refine WL.e Zz'<|WL.e Zn'<|WL.next<|WP.cond_f rfl<|WP.skip<|PO.blockN ?_
     rw [← List.map_append]
     refine PO.cls (A:=Txs (A++B)) (B:=[cl y.q 355 [.int .u32 y.num.toNat,y.sv.v],Sl 179 3 ChgM.c y.sv.v y.own,Txs (A2++B2)]) (fun S h=>hAB ▸ K3' S h) ?_
     exact PO.againK (A1++B1,pre++[y.num],_) ⟨hsub,by simp only;rw [K2',List.append_assoc];exact (hpp hch).symm.trans hx2,hx3.snoc hcc⟩ (by simp only [hl,List.length_append,List.length_cons];omega)
    ·skip
     refine WL.e Zz'<|WL.e Zn'<|WL.next<|WP.cond_t rfl<|WP.ret<|PO.blockR<|PO.round nofun<|PO.blockR<|PO.cls (A:=Txs (A++B)) (B:=[cl y.q 355 [.int .u32 y.num.toNat,y.sv.v],Sl 179 3 ChgM.c y.sv.v y.own,Txs (A2++B2)]) (fun S h=>hAB ▸ K3' S h) ?_
     refine PO.conv (YP' (A:=MpIt eU32 lm it (List.map kvT s.txs) _ _) (B:=Mp eU32 lm (List.map kvT s.txs)) JK' (by repeat first | exact .z | apply Put.s)) ?_
     refine PO.cls (A:=Gs p dp (s)) (B:=[cl p 152 [.pointer (some ⟨lp,0,none⟩),.pointer (some ⟨mp,0,none⟩),nm,.int .u32 s.last.toNat,sv.v,lm],cl lp 166 [.pointer (some ⟨dp,0,none⟩),.int .i64 s.at_],Dk dp s.d,Mm mp s.rows,Mp eStr nm (List.map numC s.nums),Sl 360 3 Ye' (sv.v) s.looks,Mp eU32 lm (List.map kvT s.txs)]) (fun S h=>⟨⟨lp,mp,nm,lm,sv⟩,h⟩) ?_
     exact PO.fin Tryz.results267 Ze' (hK.2 pre y.num ⟨_,by rw [List.append_assoc];exact (hpp hch).symm.trans hx2⟩ hx3 hcc)
   ·skip
    refine WL.skip<|WL.skip<|WL.skip<|WL.skip<|WL.skip<|WL.skip<|WL.skip<|WL.skip<|WL.e Zl'<|WL.next<|WP.cond_f rfl<|WP.skip<|PO.blockN ?_
    rw [← List.map_append]
    refine PO.cls (A:=Txs (A++B)) (B:=[cl y.q 355 [.int .u32 y.num.toNat,y.sv.v],Sl 179 3 ChgM.c y.sv.v y.own,Txs (A2++B2)]) (fun S h=>hAB ▸ K3' S h) ?_
    exact PO.againK (A1++B1,pre,_) ⟨hsub,by simp only;rwa [hl,UI',UH',if_neg hid,show Qg' y sp=false from hch,if_neg (by simp),List.nil_append,← K2'] at hx2,hx3⟩ (by simp only [hl,List.length_append,List.length_cons];omega)
  ·cases hg 
theorem ZcA_ {g:World} {p q:Nat} (sp:SpanM):Spec Tryz.prog g 261 [.pointer (some ⟨p,0,none⟩),.pointer (some ⟨q,0,none⟩),sp.v] [] fun K R=>∀ c1 c2 c3,K (.func (.func 267) #[] #[.pointer (some ⟨c1,0,none⟩),.pointer (some ⟨c2,0,none⟩),.pointer (some ⟨c3,0,none⟩)]) (cl c1 114 [.pointer (some ⟨p,0,none⟩)]::cl c2 45 [.string sp.a,.string sp.b]::cl c3 351 [.pointer (some ⟨q,0,none⟩)]::R):=by
 refine Spec.intro Tryz.func261 rfl Tryz.ntmps261 rfl fun R K hK=>?_
 refine WP.seq<|WP.reg ?_
 refine WL.h (ZL' fun b1=>?_)
 refine WL.h (ZL' fun b2=>?_)
 refine WL.h (ZL' fun b3=>?_)
 refine WL.e Zb'<|WL.next<|WP.seq<|WP.reg<|WL.e Yj'<|WL.e Zb'<|WL.next<|WP.ret ?_
 exact PO.fin Tryz.results261 (Zd' Ze') (hK b1 b3 b2)
theorem Zh2_ {g:World} (x:UInt32 × SpanM) {b1 b2:Nat} (t:TxV) (sp:SpanM):Spec Tryz.prog g 266 [.agg (Ye' x).toArray,.pointer (some ⟨b1,0,none⟩),.pointer (some ⟨b2,0,none⟩)] [cl b1 351 [.pointer (some ⟨t.q,0,none⟩)],cl b2 45 [.string sp.a,.string sp.b],cl t.q 355 [.int .u32 t.num.toNat,t.sv.v]] fun K R=>K (.bool (decide (t.num < x.1) && meet x.2 sp)) (cl b1 351 [.pointer (some ⟨t.q,0,none⟩)]::cl b2 45 [.string sp.a,.string sp.b]::cl t.q 355 [.int .u32 t.num.toNat,t.sv.v]::R):=by
 refine Spec.intro Tryz.func266 rfl Tryz.ntmps266 rfl fun R K hK=>?_
 refine WP.seq<|WP.reg ?_
 refine WL.h (ZL' fun b1=>?_)
 refine WL.e Zb'<|WL.next<|WP.seq<|WP.draws Zq' 16<|RW.e 0 rfl (e_fa ZjU_)<|RW.e 1 rfl (e_fa J5')<|RW.e 2 rfl (Zc' a24)<|RW.e 3 rfl (Zc' a351)<|RW.e 4 rfl Zj'<|RW.e 5 rfl (e_fa Kr')<|RW.e 6 rfl (e_fa J5')<|RW.e 7 rfl (Zc' a24)<|RW.e 8 rfl (Qa')<|RW.e 9 rfl Za' ?_
 refine RW.bool 14 rfl (fun h=>?_) (fun h=>?_)
 ·skip
  refine RW.e 10 rfl (e_fa Znw_)<|RW.e 11 rfl (Zo' a45)<|RW.e 12 rfl (Zo' a45) ?_
  refine RW.any (is:=[13]) rfl ⟨?_,trivial⟩
  refine RWat.h rfl rfl rfl ?_
  refine (Zg' (Y4' ⟨_,_⟩ ⟨_,_⟩) k30 ?_)
  refine ⟨trivial,?_⟩
  refine RW.e 14 rfl Zn'<|RW.e 15 rfl Zb'<|RW.done<|PO.next<|WP.ret ?_
  exact PO.finE Tryz.results266 (Zd' Ze') (by simp [h]) hK
 ·skip
  refine RW.skip 10 rfl<|RW.skip 11 rfl<|RW.skip 12 rfl<|RW.skip 13 rfl<|RW.e 14 rfl Zl'<|RW.e 15 rfl Zb'<|RW.done<|PO.next<|WP.ret ?_
  exact PO.finE Tryz.results266 (Zd' Ze') (by simp [h]) hK
def LtJ (b1 b3 q:Nat) (b:Bool):HP:=fun S=>∃ _:Unit,Zm' [cl b1 351 [.pointer (some ⟨q,0,none⟩)],cl b3 4 [.bool b]] S
def LtX (b1 b3 q:Nat) (j:Code):HP:=fun S=>∃ _:{ u:Unit // j=.ret },Zm' [cl b1 351 [.pointer (some ⟨q,0,none⟩)],cl b3 4 [.bool true]] S
theorem ZjY_ {g:World} {p dp:Nat} {s:GamV} {t:TxV} {A B:List TxV} (sp:SpanM) (w:Bool) (hts:s.txs=A++t::B) (hnd:(s.txs.map (·.id)).Nodup) (hown:∀ x ∈ s.txs,x.own.length≤68719476736) (hn:s.looks.length≤68719476736) :
  Spec Tryz.prog g 260 [.pointer (some ⟨p,0,none⟩),.pointer (some ⟨t.q,0,none⟩),sp.v,.bool w] [Gs p dp s,Txs (A++B),cl t.q 355 [.int .u32 t.num.toNat,t.sv.v]] fun K R=>K (.bool (Kx' s t sp w)) (Gs p dp s::Txs (A++B)::cl t.q 355 [.int .u32 t.num.toNat,t.sv.v]::R):=by
 refine Spec.intro Tryz.func260 rfl Tryz.ntmps260 rfl fun R K hK=>?_
 refine WP.opn (JS' (p:=p) (dp:=dp) (s:=s)) fun x=>?_
 obtain ⟨lp,mp,nm,lm,sv⟩:=x
 dsimp only
 refine WP.seq<|WP.reg ?_
 refine WL.h (ZL' fun b1=>?_)
 refine WL.h (ZL' fun b2=>?_)
 refine WL.h (Zu' z4 fun b3=>?_)
 refine WL.next<|WP.seq<|WP.seq<|WP.reg<|WL.e Za'<|WL.e Zj'<|WL.e (e_fa ZjT_)<|WL.e (Zc' a148) ?_
 refine WL.h (Xh' (kvs:=List.map numC s.nums) Tryz.underlying148 fun it=>?_)
 refine WL.next<|WP.block<|WP.loopK (fun (x:List (ByteArray × UInt32) × Option (ByteArray × Value))=>[]) (fun (x:List (ByteArray × UInt32) × Option (ByteArray × Value))=>MpIt eStr nm it (List.map numC s.nums) (List.map numC x.1) x.2::cl p 152 [.pointer (some ⟨lp,0,none⟩),.pointer (some ⟨mp,0,none⟩),nm,.int .u32 s.last.toNat,sv.v,lm]::cl lp 166 [.pointer (some ⟨dp,0,none⟩),.int .i64 s.at_]::Dk dp s.d::Mm mp s.rows::Sl 360 3 Ye' (sv.v) s.looks::Mp eU32 lm (List.map kvT s.txs)::cl b1 351 [.pointer (some ⟨t.q,0,none⟩)]::cl b2 45 [.string sp.a,.string sp.b]::cl b3 4 [.bool false]::cl t.q 355 [.int .u32 t.num.toNat,t.sv.v]::Txs (A++B)::R) [(0,_),(3,_),(5,_),(6,_),(8,_),(16,_)] (fun (x:List (ByteArray × UInt32) × Option (ByteArray × Value))=>Xx' x.1 t.num sp=Xx' s.nums t.num sp) (fun (x:List (ByteArray × UInt32) × Option (ByteArray × Value))=>x.1.length) (s.nums,none) (rfl) ?_
 rintro ⟨left,cur⟩ hx1
 simp only at hx1
 dsimp only
 refine WP.seq<|WP.reg ?_
 refine WL.h (XP' (fun h0=>?_) (fun a y0 b hx=>?_))
 ·have hl0:left=[]:=by simpa using h0
  subst hl0
  have hl1:Xx' s.nums t.num sp=false:=by rw [← hx1];rfl
  refine WL.e Zf'<|WL.next<|WP.seq<|WP.cond_f rfl<|WP.exit<|PO.past nofun<|PO.round nofun<|PO.blockX<|PO.next<|WP.seq<|WP.seq<|WP.reg<|WL.e Za'<|WL.e Zz'<|WL.next ?_
  refine WP.cond rfl (fun hw=>?_) (fun hw=>?_)
  ·replace hw:w=false:=by simpa using hw
   refine WP.seq<|WP.reg ?_
   refine WL.h' (Zk' s4 ?_)
   refine WL.next<|WP.ret<|PO.past nofun<|PO.cls (A:=Gs p dp (s)) (B:=[cl p 152 [.pointer (some ⟨lp,0,none⟩),.pointer (some ⟨mp,0,none⟩),nm,.int .u32 s.last.toNat,sv.v,lm],cl lp 166 [.pointer (some ⟨dp,0,none⟩),.int .i64 s.at_],Dk dp s.d,Mm mp s.rows,Mp eStr nm (List.map numC s.nums),Sl 360 3 Ye' (sv.v) s.looks,Mp eU32 lm (List.map kvT s.txs)]) (fun S h=>⟨⟨lp,mp,nm,lm,sv⟩,h⟩) ?_
   exact PO.fin Tryz.results260 (YS' a4 Ze') (by simpa [Kx',hl1,hw] using hK)
  ·replace hw:w=true:=by simpa using hw
   refine WP.skip<|PO.next<|WP.seq<|WP.seq<|WP.reg<|WL.e Za'<|WL.e (Zc' a351)<|WL.e (Zo' a45) ?_
   refine WL.h (Zg' (ZcA_ sp) k261 ?_)
   intro c1 c2 c3
   refine WL.next<|WP.block<|WP.cls (A:=Gs p dp (s)) (B:=[cl p 152 [.pointer (some ⟨lp,0,none⟩),.pointer (some ⟨mp,0,none⟩),nm,.int .u32 s.last.toNat,sv.v,lm],cl lp 166 [.pointer (some ⟨dp,0,none⟩),.int .i64 s.at_],Dk dp s.d,Mm mp s.rows,Mp eStr nm (List.map numC s.nums),Sl 360 3 Ye' (sv.v) s.looks,Mp eU32 lm (List.map kvT s.txs)]) (fun S h=>⟨⟨lp,mp,nm,lm,sv⟩,h⟩) ?_
   refine WP.cls (A:=LtJ b1 b3 t.q false) (B:=[cl b1 351 [.pointer (some ⟨t.q,0,none⟩)],cl b3 4 [.bool false]]) (fun S h=>⟨(),h⟩) ?_
   refine WP.rangeL (R:=?RR) (f:=267) (fs:=[]) (cs:=[.pointer (some ⟨c1,0,none⟩),.pointer (some ⟨c2,0,none⟩),.pointer (some ⟨c3,0,none⟩)]) (fun _=>LtJ b1 b3 t.q false) (fun _ _=>LtX b1 b3 t.q) (fun _ x=>¬ t.num < x) (Zcz_ (c1:=c1) (c2:=c2) (c3:=c3) (p:=p) (dp:=dp) (s:=s) (t:=t) (A:=A) (B:=B) (sp:=sp) hts hnd hown) k267 ?hLL ?_ ?_ ?_ (fun _=>rfl)
   case hLL=>repeat first | exact .nil | exact Pick.z | apply Pick.s | apply Split.cons
   ·rintro lb db fn tmps pre x R2 hp hh
    refine WP.opn (B:=fun _:Unit=>[cl b1 351 [.pointer (some ⟨t.q,0,none⟩)],cl b3 4 [.bool false]]) (fun _ h=>h) fun _=>?_
    refine WP.reg<|WL.e Zb'<|WL.nil<|PO.asg rfl (by repeat first | exact .z | apply Put.s)<|WP.block<|WP.seq<|WP.reg<|WL.e Za'<|WL.e (Zc' a351)<|WL.e Zj'<|WL.e (e_fa Kr')<|WL.e (e_fa J5')<|WL.e (Zc' a24)<|WL.e (Qa')<|WL.next ?_
    refine WP.cond rfl (fun h5=>?_) (fun h5=>?_)
    ·skip
     refine WP.seq<|WP.reg ?_
     refine WL.h' (Zk' s4 ?_)
     refine WL.next<|WP.ret<|PO.blockR<|PO.cls (A:=LtX b1 b3 t.q .ret) (B:=[cl b1 351 [.pointer (some ⟨t.q,0,none⟩)],cl b3 4 [.bool true]]) (fun S h=>⟨⟨(),rfl⟩,h⟩) ?_
     exact PO.rnd_ret (by simpa using h5) (by repeat first | exact .refl | exact Pick.z | apply Pick.s | apply Sub.cons | apply Sub.drop)
    ·skip
     refine WP.skip<|PO.blockN<|PO.cls (A:=LtJ b1 b3 t.q false) (B:=[cl b1 351 [.pointer (some ⟨t.q,0,none⟩)],cl b3 4 [.bool false]]) (fun S h=>⟨(),h⟩) ?_
     exact PO.rnd (by simpa using h5) (by repeat first | exact .refl | exact Pick.z | apply Pick.s | apply Sub.cons | apply Sub.drop)
   ·intro db xs hx hh
    have hu1:(Yv' s.txs t.id sp).any (fun n=>decide (t.num < n))=false:=by rw [List.any_eq_false];intro n hn;have:=Up' hh n (hx.symm.subset hn);simpa using this
    refine PO.opn (B:=fun _:Unit=>[cl b1 351 [.pointer (some ⟨t.q,0,none⟩)],cl b3 4 [.bool false]]) (fun _ h=>h) fun _=>?_
    refine PO.opn (JS' (p:=p) (dp:=dp) (s:=s)) fun x=>?_
    obtain ⟨lp,mp,nm,lm,sv⟩:=x
    dsimp only
    refine PO.blockN<|PO.next<|WP.seq<|WP.reg<|WL.e Za'<|WL.e Zj'<|WL.e (e_fa Uh')<|WL.e (Zc' a150)<|WL.e Yj'<|WL.cls (A:=bun [cl b1 351 [.pointer (some ⟨t.q,0,none⟩)],cl b2 45 [.string sp.a,.string sp.b],cl t.q 355 [.int .u32 t.num.toNat,t.sv.v]]) (B:=[cl b1 351 [.pointer (some ⟨t.q,0,none⟩)],cl b2 45 [.string sp.a,.string sp.b],cl t.q 355 [.int .u32 t.num.toNat,t.sv.v]]) (fun S h=>h) ?_
    refine WL.h (Zg' (ZcZ_ Zr' hn (fun x=>CallV.bun (CallV.of_spec (fs:=[]) (cs:=[.pointer (some ⟨b1,0,none⟩),.pointer (some ⟨b2,0,none⟩)]) (Zh2_ x t sp) k266))) k265 ?_)
    show WL _ _ _ _ _ _ _ _
    refine WL.open_ (k:=?_)
    refine WL.h' (Zk' s4 ?_)
    refine WL.next<|WP.ret<|PO.cls (A:=Gs p dp (s)) (B:=[cl p 152 [.pointer (some ⟨lp,0,none⟩),.pointer (some ⟨mp,0,none⟩),nm,.int .u32 s.last.toNat,sv.v,lm],cl lp 166 [.pointer (some ⟨dp,0,none⟩),.int .i64 s.at_],Dk dp s.d,Mm mp s.rows,Mp eStr nm (List.map numC s.nums),Sl 360 3 Ye' (sv.v) s.looks,Mp eU32 lm (List.map kvT s.txs)]) (fun S h=>⟨⟨lp,mp,nm,lm,sv⟩,h⟩) ?_
    exact PO.finM (by repeat first | exact .z | apply Put.s) Tryz.results260 (YS' a4 Ze') (by simpa [Kx',hl1,hw,hu1] using hK)
   ·intro db pre x j hp hh hc
    have hu1:(Yv' s.txs t.id sp).any (fun n=>decide (t.num < n))=true:=by obtain ⟨r,hr⟩:=hp;rw [List.any_eq_true];exact ⟨x,hr.subset (by simp),by simpa using hc⟩
    refine WP.opn (B:=fun sv:{ u:Unit // j=.ret }=>[cl b1 351 [.pointer (some ⟨t.q,0,none⟩)],cl b3 4 [.bool true]]) (fun _ h=>h) fun u=>?_
    obtain ⟨_,rfl⟩:=u
    refine WP.ret<|PO.blockR<|PO.past nofun ?_
    exact PO.finM (by repeat first | exact .z | apply Put.s) Tryz.results260 (YS' a4 Ze') (by simpa [Kx',hl1,hw,hu1] using hK)
 ·obtain ⟨A1,y,B1,hl,rfl,rfl,rfl⟩:=Xj' hx
  refine WL.e Zf'<|WL.next<|WP.seq<|WP.cond_t rfl<|WP.skip<|PO.next<|WP.block<|WP.seq<|WP.reg<|WL.e Y9'<|WL.e Zf'<|WL.e Zf'<|WL.e Zb'<|WL.e Zb'<|WL.next<|WP.seq<|WP.draws Zq' 13<|RW.e 0 rfl Za'<|RW.e 1 rfl (Zc' a351)<|RW.e 2 rfl Zj'<|RW.e 3 rfl (e_fa Kr')<|RW.e 4 rfl (e_fa J5')<|RW.e 5 rfl (Zc' a24)<|RW.e 6 rfl (Qa') ?_
  refine RW.e 7 rfl Za' ?_
  refine RW.bool 29 rfl (fun h2=>?_) (fun h2=>?_)
  ·skip
   refine RW.e 8 rfl Za'<|RW.e 10 rfl (Zo' a45) ?_
   refine RW.any (is:=[9]) rfl ⟨?_,trivial⟩
   refine RWat.h rfl rfl rfl ?_
   refine (Zg' (Zd9_ _) k264 ?_)
   refine ⟨⟨⟨_,rfl,.inl ⟨rfl,(Zo' a45)⟩⟩,trivial⟩,?_⟩
   refine RW.any (is:=[11]) rfl ⟨?_,trivial⟩
   refine RWat.h rfl rfl rfl ?_
   refine (Zg' (Y4' ⟨_,_⟩ ⟨_,_⟩) k30 ?_)
   refine ⟨trivial,?_⟩
   refine RW.e 12 rfl Zn'<|RW.done<|PO.next ?_
   refine WP.cond rfl (fun h3=>?_) (fun h3=>?_)
   ·replace h3:meet (one y.1) sp=true:=h3
    have h9:Xx' s.nums t.num sp=true:=by rw [← hx1,hl,Vn',h2,h3];simp
    refine WP.seq<|WP.reg ?_
    refine WL.h' (Zk' s4 ?_)
    refine WL.next<|WP.ret<|PO.blockR<|PO.round nofun<|PO.blockR<|PO.past nofun<|PO.conv (YP' (A:=MpIt eStr nm it (List.map numC s.nums) _ _) (B:=Mp eStr nm (List.map numC s.nums)) JK' (by repeat first | exact .z | apply Put.s)) ?_
    refine PO.cls (A:=Gs p dp (s)) (B:=[cl p 152 [.pointer (some ⟨lp,0,none⟩),.pointer (some ⟨mp,0,none⟩),nm,.int .u32 s.last.toNat,sv.v,lm],cl lp 166 [.pointer (some ⟨dp,0,none⟩),.int .i64 s.at_],Dk dp s.d,Mm mp s.rows,Mp eStr nm (List.map numC s.nums),Sl 360 3 Ye' (sv.v) s.looks,Mp eU32 lm (List.map kvT s.txs)]) (fun S h=>⟨⟨lp,mp,nm,lm,sv⟩,h⟩) ?_
    exact PO.fin Tryz.results260 (YS' a4 Ze') (by simpa [Kx',h9] using hK)
   ·replace h3:meet (one y.1) sp=false:=h3
    refine WP.skip<|PO.blockN ?_
    rw [← List.map_append]
    exact PO.againK (A1++B1,_) (by simp only;rw [← hx1,hl,Vn',h2];simp [h3]) (by simp only [hl,List.length_append,List.length_cons];omega)
  ·skip
   refine RW.skip 8 rfl<|RW.skip 9 rfl<|RW.skip 10 rfl<|RW.skip 11 rfl<|RW.e 12 rfl Zl'<|RW.done<|PO.next<|WP.cond_f rfl<|WP.skip<|PO.blockN ?_
   rw [← List.map_append]
   exact PO.againK (A1++B1,_) (by simp only;rw [← hx1,hl,Vn',h2];simp) (by simp only [hl,List.length_append,List.length_cons];omega)
end Go.SL
set_option linter.unusedSectionVars false
namespace Go.SL
open Go
inductive DoR
  | err (s:GamV) (e:Nat)
  | put (t:TxV) (c:ChgM)
  | look (t:TxV)
def doG (s:GamV) (n:UInt32) (x:OpM):DoR:=
  if opOk x then match Z7' s.txs n with
    | none=>.err s 6
    | some t=>if Kx' s t (Zi' x) (Zp' x) then .err (Yl' s n) 9
      else if (Yv' s.txs t.id (Zi' x)).any (fun m=>decide (m < t.num)) then .err s 8
      else if Zp' x then .put t (Z1' x) else .look t
  else .err s 1
def putT (ts:List TxV) (n:UInt32) (c:ChgM) (sv:SV):List TxV:=ts.map fun o=>if o.id=n then { o with own:=o.own++[c],sv:=sv } else o
def putG (s:GamV) (n:UInt32) (c:ChgM) (sv:SV):GamV:={ s with txs:=putT s.txs n c sv }
def Q4' (s:GamV) (t:TxV) (p:SpanM):GamV:={ s with looks:=s.looks++[(t.num,p)] }
theorem ZgI_ (ts:List TxV) (n:UInt32) (c:ChgM) (sv:SV):(putT ts n c sv).map kvT=ts.map kvT:=by
  unfold putT
  rw [List.map_map]
  apply List.map_congr_left
  intro o _
  simp only [Function.comp]
  split <;> rfl
theorem UJ' {A B:List TxV} {t:TxV} (h:((A++t::B).map (·.id)).Nodup) (c:ChgM) (sv:SV):putT (A++t::B) t.id c sv=A++{ t with own:=t.own++[c],sv:=sv }::B:=by
  have hn:=Zat_ h
  unfold putT
  rw [List.map_append,List.map_cons,if_pos rfl]
  have e1:∀ l:List TxV,(∀ x ∈ l,x.id≠t.id)→l.map (fun o=>if o.id=t.id then { o with own:=o.own++[c],sv:=sv } else o)=l:=fun l hl=>by
    conv=>rhs;rw [← List.map_id l]
    apply List.map_congr_left
    intro o ho
    rw [if_neg (hl o ho)];rfl
  rw [e1 A (fun x hx=>hn x (by simp [hx])),e1 B (fun x hx=>hn x (by simp [hx]))]
theorem ZjZ_ {p dp:Nat} {s:GamV} {ts:List TxV} (h:ts.map kvT=s.txs.map kvT):∀ S,Gs p dp s S→Gs p dp { s with txs:=ts } S:=fun S hS=>by
  obtain ⟨x,hx⟩:=hS
  exact ⟨x,by simp only [h];exact hx⟩
def recG (t:TxV):List UInt8:=numB t.num 4++Yk' t.own
def Ky' (s:GamV) (t:TxV):Prop:=(recG t).length≤16384∧s.at_+secs (recG t).length≤s.d.sure.length
instance (s:GamV) (t:TxV):Decidable (Ky' s t):=by unfold Ky';infer_instance
def Qw' (s:GamV) (n:UInt32) (t:TxV):GamV:=
  let e:=Yl' s n
  if Ky' s t then { e with d:=(addW s.d s.at_ (frame (recG t)) (secs (recG t).length)).sync,at_:=s.at_+secs (recG t).length,rows:=Zv' s.rows t.own,nums:=JD' s.nums t.num t.own } else e
theorem GamOk.bad {s:GamV} {b:Nat} (h:GamOk s b) {t:TxV} (ht:t ∈ s.txs):t.own.any (fun c=>!ZR' c)=false:=by
  rw [List.any_eq_false]
  intro c hc
  simp [h.own t ht c hc]
theorem YW' {ts:List TxV} {n:UInt32} {t:TxV} (h:Z7' ts n=some t):t ∈ ts:=List.mem_of_find?_eq_some h
def comG (s:GamV) (n:UInt32):GamV:=match Z7' s.txs n with
  | none=>s
  | some t=>Qw' s n t
def X7' (s:GamV) (n:UInt32):Nat:=match Z7' s.txs n with
  | none=>6
  | some t=>if Ky' s t then 0 else 5
def XT' (s:GamV) (n:UInt32):UInt32:=match Z7' s.txs n with
  | none=>0
  | some t=>if Ky' s t then t.num else 0
def XE' (s:GamV) (n:UInt32):Nat:=if n=0 then 1 else if (Z7' s.txs n).isSome then 7 else if 32≤s.txs.length then 5 else 0
def begG (s:GamV) (n:UInt32) (q:Nat):GamV:=if XE' s n=0 then { s with last:=s.last+1,txs:=s.txs++[⟨n,s.last+1,[],q,⟨none,0,0⟩⟩] } else s
def K4' (s:GamV) (n:UInt32):Nat:=if (Z7' s.txs n).isSome then 0 else 6
def aboG (s:GamV) (n:UInt32):GamV:=if (Z7' s.txs n).isSome then Yl' s n else s
theorem Qh' {s:GamV} {n:UInt32} {t:TxV} (h:Z7' s.txs n=some t):(comG s n).txs=delT s.txs n:=by
  unfold comG;rw [h];simp only [Qw'];split <;> rfl
theorem UK' (t:TxV):(recG t).length=6+(t.own.flatMap chgB).length:=by
  simp only [recG,Yk',List.length_append,Yi'];omega
theorem Zlr_ {s:GamV} {t:TxV} (h:¬ t.own.length≤4096):¬ Ky' s t:=fun hf=>by
  have h1:=hf.1
  rw [UK'] at h1
  have:=(Xy' t.own).1
  omega
end Go.SL
