import Derived.Test.YtegjbklnhiionaaGreatQP18
set_option linter.unusedSimpArgs false
set_option linter.unusedVariables false
namespace Go.SL.Fc
open Go Go.Proofs Go.SL
theorem a114:ZK' Tryz.prog 114=some none:=by kernel_rfl
theorem a148:ZK' Tryz.prog 148=some none:=by kernel_rfl
theorem a149:ZK' Tryz.prog 149=some none:=by kernel_rfl
theorem a150:ZK' Tryz.prog 150=some none:=by kernel_rfl
theorem a351:ZK' Tryz.prog 351=some none:=by kernel_rfl
theorem Zkn_:ZO' Tryz.prog 152 2=some 2:=by kernel_rfl
theorem ZcF_:ZO' Tryz.prog 152 3=some 3:=by kernel_rfl
theorem Uo':ZO' Tryz.prog 152 4=some 4:=by kernel_rfl
theorem Kd':ZO' Tryz.prog 152 5=some 5:=by kernel_rfl
theorem Ke':ZO' Tryz.prog 353 0=some 0:=by kernel_rfl
theorem KC':ZO' Tryz.prog 355 0=some 0:=by kernel_rfl
theorem Kf':ZO' Tryz.prog 355 1=some 1:=by kernel_rfl
theorem Zko_:ZO' Tryz.prog 360 0=some 0:=by kernel_rfl
theorem Zoj_:ZO' Tryz.prog 360 1=some 1:=by kernel_rfl
theorem k261:Zh' Tryz.prog 261=true:=by kernel_rfl
theorem k262:Zh' Tryz.prog 262=true:=by kernel_rfl
theorem k263:Zh' Tryz.prog 263=true:=by kernel_rfl
theorem k264:Zh' Tryz.prog 264=true:=by kernel_rfl
theorem k265:Zh' Tryz.prog 265=true:=by kernel_rfl
theorem k266:Zh' Tryz.prog 266=true:=by kernel_rfl
theorem k267:Zh' Tryz.prog 267=true:=by kernel_rfl
theorem k268:Zh' Tryz.prog 268=true:=by kernel_rfl
theorem p353:Ya' Tryz.prog 353=some [(0,1)]:=by kernel_rfl
theorem p355:Ya' Tryz.prog 355=some [(0,1),(1,1)]:=by kernel_rfl
theorem ZoJ_:X3' Tryz.prog 114=true:=by kernel_rfl
theorem s150:szOf Tryz.prog 150=some 1:=by kernel_rfl
theorem s355:szOf Tryz.prog 355=some 2:=by kernel_rfl
theorem z353:ZH' Tryz.prog 353=some [.int .u32 0]:=by kernel_rfl
theorem z355:ZH' Tryz.prog 355=some [.int .u32 0,.slice none 0 0]:=by kernel_rfl
end Go.SL.Fc
namespace Go.SL
open Go Go.Proofs Fc
def Gs (p dp:Nat) (s:GamV):HP:=fun S=>∃ x:GI,Zo' [cl p 152 [.pointer (some ⟨x.lp,0,none⟩),.pointer (some ⟨x.mp,0,none⟩),x.nm,.int .u32 s.last.toNat,x.sv.v,x.lm],cl x.lp 166 [.pointer (some ⟨dp,0,none⟩),.int .i64 s.at_],Dk dp s.d,Mm x.mp s.rows,Mp eStr x.nm (List.map numC s.nums),Sl 360 3 Ye' (x.sv.v) s.looks,Mp eU32 x.lm (List.map kvT s.txs)] S
theorem J1' {p dp:Nat} {s:GamV}:∀ S,Gs p dp s S→∃ x:GI,Zo' [cl p 152 [.pointer (some ⟨x.lp,0,none⟩),.pointer (some ⟨x.mp,0,none⟩),x.nm,.int .u32 s.last.toNat,x.sv.v,x.lm],cl x.lp 166 [.pointer (some ⟨dp,0,none⟩),.int .i64 s.at_],Dk dp s.d,Mm x.mp s.rows,Mp eStr x.nm (List.map numC s.nums),Sl 360 3 Ye' (x.sv.v) s.looks,Mp eU32 x.lm (List.map kvT s.txs)] S:=fun _ h=>h
def TxL (t:TxV):List HP:=[cl t.q 355 [.int .u32 t.num.toNat,t.sv.v],Sl 179 3 ChgM.c t.sv.v t.own]
def TxP (t:TxV):HP:=bun (TxL t)
def Txs (ts:List TxV):HP:=bun (ts.map TxP)
theorem Up' {ts A B:List TxV} {t:TxV} (h:ts=A++t::B):∀ S,Txs ts S→∃ _:Unit,Zo' [cl t.q 355 [.int .u32 t.num.toNat,t.sv.v],Sl 179 3 ChgM.c t.sv.v t.own,Txs (A++B)] S:=fun S hS=>by
 subst h
 refine ⟨(),?_⟩
 unfold Txs bun at hS
 rw [List.map_append,List.map_cons] at hS
 have h1:=Xe' hS
 have h2:Zo' (TxL t++(A.map TxP++B.map TxP)) S:=Yx' h1
 refine ZU' (fun S h=>ZU' (fun S h=>?_) h) h2
 show Zo' [bun ((A++B).map TxP)] S
 rw [List.map_append]
 have:=YB' (L:=A.map TxP++B.map TxP) (M:=[]) (S:=S) (by simpa using h)
 exact this
theorem Qg' {A B:List TxV} {t:TxV}:∀ S,Zo' [cl t.q 355 [.int .u32 t.num.toNat,t.sv.v],Sl 179 3 ChgM.c t.sv.v t.own,Txs (A++B)] S→Txs (A++t::B) S:=fun S hS=>by
 unfold Txs bun
 rw [List.map_append,List.map_cons]
 refine X7'<|YB' (L:=TxL t) ?_
 refine ZU' (fun S h=>ZU' (fun S h=>?_) h) hS
 have h':Zo' (bun ((A++B).map TxP)::[]) S:=h
 rw [List.map_append] at h'
 have:=Yx' h'
 simpa using this
theorem Zkp_ {g:World} (n:UInt32):Spec Tryz.prog g 259 [.int .u32 n.toNat] [] fun K R=>∀ a m c,K (.slice a m c) (Sl 5 1 eB (.slice a m c) (numB n 4)::R):=by
 refine Spec.intro Tryz.func259 rfl Tryz.ntmps259 rfl fun R K hK=>?_
 refine WP.seq<|WP.reg<|WL.e Zb'<|WL.next<|WP.seq<|WP.reg<|WL.e Za'<|WL.e (Ug' (k:=.u32) (a:=n.toNat) (m:=24) (by decide))<|WL.e (e_c8 (by rw [Tryz.underlying24];rfl) Tryz.underlying5)<|WL.e Za'<|WL.e (Ug' (k:=.u32) (a:=n.toNat) (m:=16) (by decide))<|WL.e (e_c8 (by rw [Tryz.underlying24];rfl) Tryz.underlying5)<|WL.e Za'<|WL.e (Ug' (k:=.u32) (a:=n.toNat) (m:=8) (by decide))<|WL.e (e_c8 (by rw [Tryz.underlying24];rfl) Tryz.underlying5)<|WL.e Za'<|WL.e (e_c8 (by rw [Tryz.underlying24];rfl) Tryz.underlying5) ?_
 refine WL.h (h_bs Z6' z5 (.o (.tmp 5) rfl<|.o (.tmp 8) rfl<|.o (.tmp 11) rfl<|.o (.tmp 13) rfl<|.n) fun b1=>?_)
 refine WL.e Zb'<|WL.next<|WP.ret ?_
 have e4:numB n 4=[UInt8.ofNat (n.toNat / 2 ^ 24),UInt8.ofNat (n.toNat / 2 ^ 16),UInt8.ofNat (n.toNat / 2 ^ 8),UInt8.ofNat n.toNat]:=by simp [numB]
 rw [e4] at hK
 refine PO.conv (YS' (B:=Sl 5 1 eB (.slice (some ⟨b1,0,none⟩) 4 4) [UInt8.ofNat (n.toNat / 2 ^ 24),UInt8.ofNat (n.toNat / 2 ^ 16),UInt8.ofNat (n.toNat / 2 ^ 8),UInt8.ofNat n.toNat]) (ZgN_ Yp' [UInt8.ofNat (n.toNat / 2 ^ 24),UInt8.ofNat (n.toNat / 2 ^ 16),UInt8.ofNat (n.toNat / 2 ^ 8),UInt8.ofNat n.toNat] rfl rfl (by decide)) (by repeat first | exact .z | apply Put.s)) ?_
 exact PO.fin Tryz.results259 (Zd' Zf') (hK _ _ _)
theorem KD' {g:World} {p dp:Nat} {s:GamV}:Spec Tryz.prog g 257 [.pointer (some ⟨p,0,none⟩)] [Gs p dp s] fun K R=>K (.bool true) (Gs p dp s::R):=by
 refine Spec.intro Tryz.func257 rfl Tryz.ntmps257 rfl fun R K hK=>?_
 refine WP.opn (J1' (p:=p) (dp:=dp) (s:=s)) fun x=>?_
 obtain ⟨lp,mp,nm,lm,sv⟩:=x
 dsimp only
 refine WP.seq<|WP.reg<|WL.e Zb'<|WL.next<|WP.seq<|WP.reg<|WL.e Za'<|WL.e (JX' ZoJ_)<|WL.e Za' ?_
 refine WL.bool 5 rfl (fun h=>?_) (fun h=>?_)
 ·skip
  refine WL.e Za'<|WL.e Zk'<|WL.e (e_fa Kd')<|WL.e (Zc' a149)<|WL.e (Zb8_ Tryz.underlying149)<|WL.e Zn'<|WL.e Zb'<|WL.next<|WP.ret<|PO.cls (A:=Gs p dp (s)) (B:=[cl p 152 [.pointer (some ⟨lp,0,none⟩),.pointer (some ⟨mp,0,none⟩),nm,.int .u32 s.last.toNat,sv.v,lm],cl lp 166 [.pointer (some ⟨dp,0,none⟩),.int .i64 s.at_],Dk dp s.d,Mm mp s.rows,Mp eStr nm (List.map numC s.nums),Sl 360 3 Ye' (sv.v) s.looks,Mp eU32 lm (List.map kvT s.txs)]) (fun S h=>⟨⟨lp,mp,nm,lm,sv⟩,h⟩) ?_
  exact PO.fin Tryz.results257 (Zd' Zf') hK
 ·cases h 
theorem Zkq_ {g:World} {A:HP} {u:Value} {p dp:Nat} {s:GamV} {cs:List ChgM} (num:UInt32) (hA:RL A 3 ChgM.c u cs) (hn:cs.length≤68719476736):Spec Tryz.prog g 62 [.pointer (some ⟨p,0,none⟩),.int .u32 num.toNat,u] [Gs p dp s,A] fun K R=>K (.tuple #[]) (Gs p dp { s with nums:=JI' s.nums num cs }::A::R):=by
 refine Spec.intro Tryz.func62 rfl Tryz.ntmps62 rfl fun R K hK=>?_
 refine WP.opn (J1' (p:=p) (dp:=dp) (s:=s)) fun x=>?_
 obtain ⟨lp,mp,nm,lm,sv⟩:=x
 dsimp only
 refine WP.seq<|WP.reg<|WL.e Za'<|WL.e (ZD' (xs:=cs) Yw' hA)<|WL.e Za'<|WL.next<|WP.block<|WP.loopK (fun (i:Nat)=>[(10,.int .i64 i)]) (fun (i:Nat)=>cl p 152 [.pointer (some ⟨lp,0,none⟩),.pointer (some ⟨mp,0,none⟩),nm,.int .u32 s.last.toNat,sv.v,lm]::cl lp 166 [.pointer (some ⟨dp,0,none⟩),.int .i64 s.at_]::Dk dp s.d::Mm mp s.rows::Mp eStr nm (List.map numC (JI' s.nums num (cs.take i)))::Sl 360 3 Ye' (sv.v) s.looks::Mp eU32 lm (List.map kvT s.txs)::A::R) [(0,_),(1,_),(8,_),(9,_)] (fun (i:Nat)=>i≤cs.length) (fun (i:Nat)=>cs.length - i) 0 (Nat.zero_le _) ?_
 intro i hi
 refine WP.seq<|WP.reg<|WL.e Z3'<|WL.next<|WP.seq ?_
 refine WP.cond rfl (fun h2=>?_) (fun h2=>?_)
 ·have hlt:i < cs.length:=by rw [decide_eq_true_eq] at h2;omega
  obtain ⟨c,hc⟩:∃ c,cs[i]?=some c:=⟨_,List.getElem?_eq_getElem hlt⟩
  refine WP.skip<|PO.next<|WP.seq<|WP.block<|WP.seq<|WP.reg<|WL.e (ZZ' (xs:=cs) Yw' hA hlt)<|WL.e (YA' (a:=c) a179 chgE hA hc) ?_
  refine WL.h (Zu' z179 fun b1=>?_)
  refine WL.h' (Zj' s179 ?_)
  refine WL.next<|WP.draws Zq' 8<|RW.e 0 rfl Za'<|RW.e 1 rfl Zk'<|RW.e 2 rfl (e_fa Zkn_)<|RW.e 3 rfl (Zc' a148)<|RW.e 4 rfl (e_fa XC')<|RW.e 5 rfl (Zc' a9)<|RW.e 6 rfl Za' ?_
  refine RW.any (is:=[7]) rfl ⟨?_,trivial⟩
  refine RWat.h' rfl rfl rfl ?_
  refine (YI' (k:=c.key) (kvs:=List.map numC (JI' s.nums num (cs.take i))) Tryz.underlying148 (KT' Tryz.underlying9) ?_)
  refine ⟨trivial,?_⟩
  refine RW.done<|PO.blockN<|PO.next<|WP.reg<|WL.e (ZE' rfl rfl (Zt' (by omega) (by omega)))<|WL.e Za'<|WL.nil ?_
  rw [Zlh_,← Zcd_,← ZA' hc]
  exact PO.againK (i+1) (by omega) (by omega)
 ·rw [List.take_of_length_le (show cs.length≤i by rw [decide_eq_false_iff_not] at h2;omega)]
  refine WP.exit<|PO.past nofun<|PO.round nofun<|PO.blockX<|PO.cls (A:=Gs p dp ({ s with nums:=JI' s.nums num cs })) (B:=[cl p 152 [.pointer (some ⟨lp,0,none⟩),.pointer (some ⟨mp,0,none⟩),nm,.int .u32 s.last.toNat,sv.v,lm],cl lp 166 [.pointer (some ⟨dp,0,none⟩),.int .i64 s.at_],Dk dp s.d,Mm mp s.rows,Mp eStr nm (List.map numC (JI' s.nums num cs)),Sl 360 3 Ye' (sv.v) s.looks,Mp eU32 lm (List.map kvT s.txs)]) (fun S h=>⟨⟨lp,mp,nm,lm,sv⟩,h⟩) ?_
  exact PO.fin Tryz.results62 Zf' hK
theorem Zgo_ {g:World} {p dp:Nat} {s:GamV} (n:UInt32) (hf:ZV' s.txs n=none):Spec Tryz.prog g 256 [.pointer (some ⟨p,0,none⟩),.int .u32 n.toNat] [Gs p dp s,Txs s.txs] fun K R=>∀ q,K (.tuple #[]) (Gs p dp { s with last:=s.last+1,txs:=s.txs++[⟨n,s.last+1,[],q,⟨none,0,0⟩⟩] }::Txs (s.txs++[⟨n,s.last+1,[],q,⟨none,0,0⟩⟩])::R):=by
 refine Spec.intro Tryz.func256 rfl Tryz.ntmps256 rfl fun R K hK=>?_
 refine WP.opn (J1' (p:=p) (dp:=dp) (s:=s)) fun x=>?_
 obtain ⟨lp,mp,nm,lm,sv⟩:=x
 dsimp only
 refine WP.seq<|WP.reg<|WL.e Za'<|WL.e Zk'<|WL.e (e_fa ZcF_)<|WL.e (Zc' a24)<|WL.e (ZaJ_ (b:=1))<|WL.e Zk'<|WL.e (e_fa ZcF_) ?_
 refine WL.h' (Zj' s24 ?_)
 refine WL.next<|WP.draws Zq' 13<|RW.e 0 rfl Za'<|RW.e 1 rfl Zk'<|RW.e 2 rfl (e_fa Kd')<|RW.e 3 rfl (Zc' a149)<|RW.e 4 rfl Za'<|RW.e 5 rfl Za'<|RW.e 6 rfl Zk'<|RW.e 7 rfl (e_fa ZcF_)<|RW.e 8 rfl (Zc' a24)<|RW.e 9 rfl (Zv' z353 p353 (.o (.tmp 19) rfl<|.n))<|RW.e 10 rfl (Zv' z355 p355 (.a1 (.tmp 20) rfl<|.z (.slice none 0 0)<|.n)) ?_
 refine RW.any (is:=[11]) rfl ⟨?_,trivial⟩
 refine RWat.h rfl rfl rfl ?_
 refine (ZL' fun b1=>?_)
 refine ⟨⟨⟨_,rfl,.inl ⟨rfl,Za'⟩⟩,⟨_,rfl,.inl ⟨rfl,(Zc' a149)⟩⟩,⟨_,rfl,.inl ⟨rfl,(e_fa Kd')⟩⟩,⟨_,rfl,.inl ⟨rfl,Zk'⟩⟩,⟨_,rfl,.inl ⟨rfl,Za'⟩⟩,trivial⟩,?_⟩
 refine RW.any (is:=[12]) rfl ⟨?_,trivial⟩
 refine RWat.h' rfl rfl rfl ?_
 refine (YI' (k:=n) (kvs:=List.map kvT s.txs) Tryz.underlying149 (ZQ' Tryz.underlying24) ?_)
 rw [Znn_ s.txs ⟨n,s.last+1,[],b1,⟨none,0,0⟩⟩ hf]
 refine ⟨trivial,?_⟩
 refine RW.done<|PO.nils 179 3 ChgM.c none ?_
 refine PO.cls (A:=Gs p dp ({ s with last:=s.last+1,txs:=s.txs++[⟨n,s.last+1,[],b1,⟨none,0,0⟩⟩] })) (B:=[cl p 152 [.pointer (some ⟨lp,0,none⟩),.pointer (some ⟨mp,0,none⟩),nm,.int .u32 (s.last+1).toNat,sv.v,lm],cl lp 166 [.pointer (some ⟨dp,0,none⟩),.int .i64 s.at_],Dk dp s.d,Mm mp s.rows,Mp eStr nm (List.map numC s.nums),Sl 360 3 Ye' (sv.v) s.looks,Mp eU32 lm (List.map kvT (s.txs++[⟨n,s.last+1,[],b1,⟨none,0,0⟩⟩]))]) (fun S h=>⟨⟨lp,mp,nm,lm,sv⟩,h⟩) ?_
 refine PO.cls (A:=Txs (s.txs++[⟨n,s.last+1,[],b1,⟨none,0,0⟩⟩])) (B:=[cl b1 355 [.int .u32 (s.last+1).toNat,.slice none 0 0],Sl 179 3 ChgM.c (.slice none 0 0) [],Txs s.txs]) (fun S h=>Qg' (A:=s.txs) (B:=[]) (t:=⟨n,s.last+1,[],b1,⟨none,0,0⟩⟩) S (by rw [List.append_nil];exact h)) ?_
 exact PO.fin Tryz.results256 Zf' (hK b1)
theorem Ziy_ {g:World} (x:UInt32 × SpanM) {b:Nat} (m:UInt32):Spec Tryz.prog g 263 [.agg (Ye' x).toArray,.pointer (some ⟨b,0,none⟩)] [cl b 24 [.int .u32 m.toNat]] fun K R=>K (.bool (decide (x.1 < m))) (cl b 24 [.int .u32 m.toNat]::R):=by
 refine Spec.intro Tryz.func263 rfl Tryz.ntmps263 rfl fun R K hK=>?_
 refine WP.seq<|WP.reg ?_
 refine WL.h (ZL' fun b1=>?_)
 refine WL.e Zb'<|WL.next<|WP.seq<|WP.reg<|WL.e (e_fa Zko_)<|WL.e (e_fa Ke')<|WL.e (Zc' a24)<|WL.e (Zc' a24)<|WL.e (Uf')<|WL.e Zb'<|WL.next<|WP.ret ?_
 exact PO.fin Tryz.results263 (Zd' Zf') hK
theorem ZaC_ {g:World} {p dp:Nat} {s:GamV} (n:UInt32) (hn:s.looks.length≤68719476736):Spec Tryz.prog g 258 [.pointer (some ⟨p,0,none⟩),.int .u32 n.toNat] [Gs p dp s,Txs (delT s.txs n)] fun K R=>K (.tuple #[]) (Gs p dp (Yj' s n)::Txs (delT s.txs n)::R):=by
 refine Spec.intro Tryz.func258 rfl Tryz.ntmps258 rfl fun R K hK=>?_
 refine WP.opn (J1' (p:=p) (dp:=dp) (s:=s)) fun x=>?_
 obtain ⟨lp,mp,nm,lm,sv⟩:=x
 dsimp only
 refine WP.seq<|WP.reg<|WL.e Za'<|WL.e Zk'<|WL.e (e_fa Kd')<|WL.e (Zc' a149)<|WL.e Za' ?_
 refine WL.h' (Jg' (k:=n) (kvs:=List.map kvT s.txs) Tryz.underlying149 (ZQ' Tryz.underlying24) ?_)
 rw [Znm_]
 refine WL.next<|WP.seq<|WP.reg<|WL.e Za'<|WL.e Zk'<|WL.e (e_fa ZcF_)<|WL.e (Zc' a24) ?_
 refine WL.h (Zu' z24 fun b1=>?_)
 refine WL.h' (Zj' s24 ?_)
 refine WL.next<|WP.seq<|WP.seq<|WP.reg<|WL.e Za'<|WL.e Zk'<|WL.e (e_fa Kd')<|WL.e (Zc' a149) ?_
 refine WL.h (Xt' (kvs:=List.map kvT (delT s.txs n)) Tryz.underlying149 fun it=>?_)
 refine WL.next<|WP.block<|WP.loopK (fun (x:List TxV × UInt32 × Option (UInt32 × Value))=>[]) (fun (x:List TxV × UInt32 × Option (UInt32 × Value))=>MpIt eU32 lm it (List.map kvT (delT s.txs n)) (List.map kvT x.1) x.2.2::cl b1 24 [.int .u32 x.2.1.toNat]::Txs (delT s.txs n)::cl p 152 [.pointer (some ⟨lp,0,none⟩),.pointer (some ⟨mp,0,none⟩),nm,.int .u32 s.last.toNat,sv.v,lm]::cl lp 166 [.pointer (some ⟨dp,0,none⟩),.int .i64 s.at_]::Dk dp s.d::Mm mp s.rows::Mp eStr nm (List.map numC s.nums)::Sl 360 3 Ye' (sv.v) s.looks::R) [(0,_),(4,_),(20,_)] (fun (x:List TxV × UInt32 × Option (UInt32 × Value))=>(∀ t ∈ x.1,t ∈ (delT s.txs n))∧minL x.1 x.2.1=minL (delT s.txs n) s.last) (fun (x:List TxV × UInt32 × Option (UInt32 × Value))=>x.1.length) ((delT s.txs n),s.last,none) (⟨fun _ h=>h,rfl⟩) ?_
 rintro ⟨left,m,cur⟩ ⟨hx1,hx2⟩
 simp only at hx1 hx2
 dsimp only
 refine WP.seq<|WP.reg ?_
 refine WL.h (XY' (fun h0=>?_) (fun a y b hx=>?_))
 ·have hl0:left=[]:=by simpa using h0
  subst hl0
  refine WL.e Ze'<|WL.next<|WP.seq<|WP.cond_f rfl<|WP.exit<|PO.past nofun<|PO.round nofun<|PO.blockX<|PO.next<|WP.reg<|WL.e Za'<|WL.e Za'<|WL.e Zk'<|WL.e (e_fa Uo')<|WL.e (Zc' a150)<|WL.e Ym' ?_
  refine WL.h (Zg' (Zkm_ (p:=fun x=>decide (x.1 < m)) hn (fun x=>CallV.of_spec (fs:=[]) (cs:=[.pointer (some ⟨b1,0,none⟩)]) (Ziy_ x m) k263)) k262 ?_)
  intro a3 m3 c3
  refine WL.e Zk'<|WL.e (e_fa Uo') ?_
  refine WL.h' (Zj' s150 ?_)
  refine WL.nil ?_
  rw [show m=minL (delT s.txs n) s.last from hx2]
  refine PO.cls (A:=Gs p dp ((Yj' s n))) (B:=[cl p 152 [.pointer (some ⟨lp,0,none⟩),.pointer (some ⟨mp,0,none⟩),nm,.int .u32 s.last.toNat,.slice a3 m3 c3,lm],cl lp 166 [.pointer (some ⟨dp,0,none⟩),.int .i64 s.at_],Dk dp s.d,Mm mp s.rows,Mp eStr nm (List.map numC s.nums),Sl 360 3 Ye' (.slice a3 m3 c3) (s.looks.filter fun x=>!decide (x.1 < minL (delT s.txs n) s.last)),Mp eU32 lm (List.map kvT (delT s.txs n))]) (fun S h=>⟨⟨lp,mp,nm,lm,⟨a3,m3,c3⟩⟩,h⟩) ?_
  exact PO.fin Tryz.results258 Zf' hK
 ·obtain ⟨A,t,B,hl,rfl,rfl,rfl⟩:=Xw' hx
  obtain ⟨A2,B2,hAB⟩:=KZ' (hx1 t (by simp [hl]))
  refine WL.opn (Up' hAB) fun _=>?_
  refine WL.e Ze'<|WL.next<|WP.seq<|WP.cond_t rfl<|WP.skip<|PO.next<|WP.block<|WP.seq<|WP.reg<|WL.e Xi'<|WL.e Ze'<|WL.e Zb'<|WL.next<|WP.draws Zq' 8<|RW.e 0 rfl (Zc' a24)<|RW.e 1 rfl Za'<|RW.e 2 rfl Zk'<|RW.e 3 rfl (e_fa KC')<|RW.e 4 rfl (e_fa Ke')<|RW.e 5 rfl (Zc' a24)<|RW.e 6 rfl ZmS_ ?_
  refine RW.any (is:=[7]) rfl ⟨?_,trivial⟩
  refine RWat.h' rfl rfl rfl ?_
  refine (Zj' s24 ?_)
  refine ⟨trivial,?_⟩
  refine RW.done<|PO.blockN ?_
  rw [← List.map_append]
  refine PO.cls (A:=Txs (delT s.txs n)) (B:=[cl t.q 355 [.int .u32 t.num.toNat,t.sv.v],Sl 179 3 ChgM.c t.sv.v t.own,Txs (A2++B2)]) (fun S h=>hAB ▸ Qg' S h) ?_
  exact PO.againK (A++B,(if t.num < m then t.num else m),_) ⟨fun y hy=>hx1 y (by rw [hl];simp only [List.mem_append,List.mem_cons] at hy ⊢;rcases hy with h | h;exact .inl h;exact .inr (.inr h)),by simp only;rw [← ZlY_,← hl];exact hx2⟩ (by simp only [hl,List.length_append,List.length_cons];omega)
theorem Zkr_ {g:World} (c:ChgM) {b:Nat} (sp:SpanM):Spec Tryz.prog g 268 [.agg (ChgM.c c).toArray,.pointer (some ⟨b,0,none⟩)] [cl b 45 [.string sp.a,.string sp.b]] fun K R=>K (.bool (meet (one c.key) sp)) (cl b 45 [.string sp.a,.string sp.b]::R):=by
 refine Spec.intro Tryz.func268 rfl Tryz.ntmps268 rfl fun R K hK=>?_
 refine WP.seq<|WP.reg ?_
 refine WL.h (ZL' fun b1=>?_)
 refine WL.e Zb'<|WL.next<|WP.seq<|WP.draws Zq' 6<|RW.e 0 rfl (e_fa XC')<|RW.e 1 rfl (Zc' a9)<|RW.e 3 rfl (Zm' a45) ?_
 refine RW.any (is:=[2]) rfl ⟨?_,trivial⟩
 refine RWat.h rfl rfl rfl ?_
 refine (Zg' (Zen_ _) k264 ?_)
 refine ⟨⟨⟨_,rfl,.inl ⟨rfl,(Zm' a45)⟩⟩,trivial⟩,?_⟩
 refine RW.any (is:=[4]) rfl ⟨?_,trivial⟩
 refine RWat.h rfl rfl rfl ?_
 refine (Zg' (Y8' ⟨_,_⟩ ⟨_,_⟩) k30 ?_)
 refine ⟨trivial,?_⟩
 refine RW.e 5 rfl Zb'<|RW.done<|PO.next<|WP.ret ?_
 exact PO.fin Tryz.results268 (Zd' Zf') hK
def numV (n:UInt32):List Value:=[.int .u32 n.toNat]
theorem ZcG_ {g:World} {c1 c2 c3 p dp:Nat} {s:GamV} {t:TxV} {A B:List TxV} {sp:SpanM} (hts:s.txs=A++t::B) (hnd:(s.txs.map (·.id)).Nodup) (hown:∀ x ∈ s.txs,x.own.length≤68719476736) :
  Zmv_ (cl t.q 355 [.int .u32 t.num.toNat,t.sv.v]) Tryz.prog g 267 (fun y=>[]++[y]++[.pointer (some ⟨c1,0,none⟩),.pointer (some ⟨c2,0,none⟩),.pointer (some ⟨c3,0,none⟩)]) [cl c1 114 [.pointer (some ⟨p,0,none⟩)],cl c2 45 [.string sp.a,.string sp.b],cl c3 351 [.pointer (some ⟨t.q,0,none⟩)],Gs p dp s,Txs (A++B),cl t.q 355 [.int .u32 t.num.toNat,t.sv.v]] numV (fun _=>pu True) (fun xs=>xs.Perm (Yl' s.txs t.id sp)) (fun pre=>∃ r,(pre++r).Perm (Yl' s.txs t.id sp)) [Gs p dp s,Txs (A++B),cl t.q 355 [.int .u32 t.num.toNat,t.sv.v]]:=by
 intro y J X cont hy
 refine Spec.intro Tryz.func267 rfl Tryz.ntmps267 rfl fun R K hK=>?_
 refine WP.opn (J1' (p:=p) (dp:=dp) (s:=s)) fun x=>?_
 obtain ⟨lp,mp,nm,lm,sv⟩:=x
 dsimp only
 refine WP.seq<|WP.reg<|WL.e (Zc' a114)<|WL.e Zk'<|WL.e (e_fa Kd')<|WL.e (Zc' a149) ?_
 refine WL.h (Xt' (kvs:=List.map kvT s.txs) Tryz.underlying149 fun it=>?_)
 refine WL.next<|WP.block<|WP.loopK (fun (x:List TxV × List UInt32 × Option (UInt32 × Value))=>[]) (fun (x:List TxV × List UInt32 × Option (UInt32 × Value))=>MpIt eU32 lm it (List.map kvT s.txs) (List.map kvT x.1) x.2.2::J x.2.1::cl p 152 [.pointer (some ⟨lp,0,none⟩),.pointer (some ⟨mp,0,none⟩),nm,.int .u32 s.last.toNat,sv.v,lm]::cl lp 166 [.pointer (some ⟨dp,0,none⟩),.int .i64 s.at_]::Dk dp s.d::Mm mp s.rows::Mp eStr nm (List.map numC s.nums)::Sl 360 3 Ye' (sv.v) s.looks::cl c1 114 [.pointer (some ⟨p,0,none⟩)]::cl c2 45 [.string sp.a,.string sp.b]::cl c3 351 [.pointer (some ⟨t.q,0,none⟩)]::Txs (A++B)::cl t.q 355 [.int .u32 t.num.toNat,t.sv.v]::R) [(0,_),(2,_),(3,_),(12,_)] (fun (x:List TxV × List UInt32 × Option (UInt32 × Value))=>(∀ y ∈ x.1,y ∈ s.txs)∧(x.2.1++Yl' x.1 t.id sp).Perm (Yl' s.txs t.id sp)∧Hist cont x.2.1) (fun (x:List TxV × List UInt32 × Option (UInt32 × Value))=>x.1.length) (s.txs,[],none) (⟨fun _ h=>h,.refl _,Hist.nil⟩) ?_
 rintro ⟨left,pre,cur⟩ ⟨hx1,hx2,hx3⟩
 simp only at hx1 hx2 hx3
 dsimp only
 refine WP.seq<|WP.reg ?_
 refine WL.h (XY' (fun h0=>?_) (fun a y0 b hx=>ZlZ_ hx t.id (fun A1 y B1 hl ha hy0 hb hid=>?_) (fun A1 y B1 hl ha hy0 hb hid=>?_)))
 ·have hl0:left=[]:=by simpa using h0
  subst hl0
  refine WL.e Ze'<|WL.next<|WP.seq<|WP.cond_f rfl<|WP.exit<|PO.past nofun<|PO.round nofun<|PO.blockX<|PO.cls (A:=Gs p dp (s)) (B:=[cl p 152 [.pointer (some ⟨lp,0,none⟩),.pointer (some ⟨mp,0,none⟩),nm,.int .u32 s.last.toNat,sv.v,lm],cl lp 166 [.pointer (some ⟨dp,0,none⟩),.int .i64 s.at_],Dk dp s.d,Mm mp s.rows,Mp eStr nm (List.map numC s.nums),Sl 360 3 Ye' (sv.v) s.looks,Mp eU32 lm (List.map kvT s.txs)]) (fun S h=>⟨⟨lp,mp,nm,lm,sv⟩,h⟩) ?_
  exact PO.fin Tryz.results267 Zf' (hK.1 pre (by simpa [Yl'] using hx2) hx3)
 ·subst ha hy0 hb
  have hsub:∀ z ∈ A1++B1,z ∈ s.txs:=fun z hz=>hx1 z (by rw [hl];simp only [List.mem_append,List.mem_cons] at hz ⊢;rcases hz with h | h;exact .inl h;exact .inr (.inr h))
  obtain rfl:y=t:=Zix_ hts hnd (hx1 y (by simp [hl])) hid
  refine WL.e Ze'<|WL.next<|WP.seq<|WP.cond_t rfl<|WP.skip<|PO.next<|WP.block<|WP.seq<|WP.reg<|WL.e Xi'<|WL.e Ze'<|WL.e Zb'<|WL.next<|WP.seq<|WP.reg<|WL.e Ym'<|WL.e Zb'<|WL.next<|WP.seq<|WP.reg<|WL.e Za'<|WL.e (Zc' a351)<|WL.e (e_pp (q:=true) (.inr rfl) Tryz.underlying351 s355 (by decide) rfl rfl (.inl ⟨rfl,rfl,rfl⟩))<|WL.e Za' ?_
  refine WL.bool 21 rfl (fun hg=>?_) (fun hg=>?_)
  ·cases hg 
  ·skip
   refine WL.skip<|WL.skip<|WL.skip<|WL.skip<|WL.skip<|WL.skip<|WL.e Zl'<|WL.e Za'<|WL.skip<|WL.skip<|WL.skip<|WL.skip<|WL.skip<|WL.skip<|WL.skip<|WL.skip<|WL.e Zl'<|WL.next<|WP.cond_f rfl<|WP.skip<|PO.blockN ?_
   rw [← List.map_append]
   exact PO.againK (A1++B1,pre,_) ⟨hsub,by simp only;rwa [hl,UO',UN',if_pos hid,List.nil_append,← Qf'] at hx2,hx3⟩ (by simp only [hl,List.length_append,List.length_cons];omega)
 ·subst ha hy0 hb
  have hsub:∀ z ∈ A1++B1,z ∈ s.txs:=fun z hz=>hx1 z (by rw [hl];simp only [List.mem_append,List.mem_cons] at hz ⊢;rcases hz with h | h;exact .inl h;exact .inr (.inr h))
  have hyin:=hx1 y (by simp [hl])
  obtain ⟨A2,B2,hAB⟩:=KZ' (Zgn_ hts hyin hid)
  have hpp:Qu' y sp=true→(pre++Yl' left t.id sp).Perm (pre++([y.num]++(Yl' A1 t.id sp++Yl' B1 t.id sp))):=fun h=>by rw [hl,UO',UN',if_neg hid,h,if_pos rfl];exact (List.Perm.append_left _ (List.perm_append_comm_assoc _ _ _))
  refine WL.opn (Up' hAB) fun _=>?_
  refine WL.e Ze'<|WL.next<|WP.seq<|WP.cond_t rfl<|WP.skip<|PO.next<|WP.block<|WP.seq<|WP.reg<|WL.e Xi'<|WL.e Ze'<|WL.e Zb'<|WL.next<|WP.seq<|WP.reg<|WL.e Ym'<|WL.e Zb'<|WL.next<|WP.seq<|WP.reg<|WL.e Za'<|WL.e (Zc' a351)<|WL.e (e_pp (q:=false) (.inr rfl) Tryz.underlying351 s355 (by decide) rfl rfl (.inr ⟨rfl,_,_,_,_,_,_,by repeat first | exact .z | apply Pick.s,by repeat first | exact .z | apply Pick.s⟩))<|WL.e Za' ?_
  refine WL.bool 21 rfl (fun hg=>?_) (fun hg=>?_)
  ·skip
   refine WL.e Za'<|WL.e Zk'<|WL.e (e_fa Kf')<|WL.e (Zc' a138)<|WL.e Za' ?_
   refine WL.h (Zg' (Uj' (p:=fun c=>meet (one c.key) sp) Zr' (hown y hyin) (fun x=>CallV.of_spec (fs:=[]) (cs:=[.pointer (some ⟨c2,0,none⟩)]) (Zkr_ x sp) k268)) k80 ?_)
   refine WL.e Zn'<|WL.e Za' ?_
   refine WL.bool 29 rfl (fun hch=>?_) (fun hch=>?_)
   ·skip
    refine WL.e Za'<|WL.e Za'<|WL.e Zk'<|WL.e (e_fa KC')<|WL.e (e_fa Ke')<|WL.e (Zc' a24) ?_
    refine WL.h (HO.conv (fun S h=>Yt' trivial h) (YE' (hy pre y.num ⟨_,by rw [List.append_assoc];exact (hpp hch).symm.trans hx2⟩ hx3) ?_))
    refine ⟨fun hcc=>?_,fun hcc=>?_⟩
    ·skip
     refine WL.e Zx'<|WL.e Zn'<|WL.next<|WP.cond_f rfl<|WP.skip<|PO.blockN ?_
     rw [← List.map_append]
     refine PO.cls (A:=Txs (A++B)) (B:=[cl y.q 355 [.int .u32 y.num.toNat,y.sv.v],Sl 179 3 ChgM.c y.sv.v y.own,Txs (A2++B2)]) (fun S h=>hAB ▸ Qg' S h) ?_
     exact PO.againK (A1++B1,pre++[y.num],_) ⟨hsub,by simp only;rw [Qf',List.append_assoc];exact (hpp hch).symm.trans hx2,hx3.snoc hcc⟩ (by simp only [hl,List.length_append,List.length_cons];omega)
    ·skip
     refine WL.e Zx'<|WL.e Zn'<|WL.next<|WP.cond_t rfl<|WP.ret<|PO.blockR<|PO.round nofun<|PO.blockR<|PO.cls (A:=Txs (A++B)) (B:=[cl y.q 355 [.int .u32 y.num.toNat,y.sv.v],Sl 179 3 ChgM.c y.sv.v y.own,Txs (A2++B2)]) (fun S h=>hAB ▸ Qg' S h) ?_
     refine PO.conv (YS' (A:=MpIt eU32 lm it (List.map kvT s.txs) _ _) (B:=Mp eU32 lm (List.map kvT s.txs)) JT' (by repeat first | exact .z | apply Put.s)) ?_
     refine PO.cls (A:=Gs p dp (s)) (B:=[cl p 152 [.pointer (some ⟨lp,0,none⟩),.pointer (some ⟨mp,0,none⟩),nm,.int .u32 s.last.toNat,sv.v,lm],cl lp 166 [.pointer (some ⟨dp,0,none⟩),.int .i64 s.at_],Dk dp s.d,Mm mp s.rows,Mp eStr nm (List.map numC s.nums),Sl 360 3 Ye' (sv.v) s.looks,Mp eU32 lm (List.map kvT s.txs)]) (fun S h=>⟨⟨lp,mp,nm,lm,sv⟩,h⟩) ?_
     exact PO.fin Tryz.results267 Zf' (hK.2 pre y.num ⟨_,by rw [List.append_assoc];exact (hpp hch).symm.trans hx2⟩ hx3 hcc)
   ·skip
    refine WL.skip<|WL.skip<|WL.skip<|WL.skip<|WL.skip<|WL.skip<|WL.skip<|WL.skip<|WL.e Zl'<|WL.next<|WP.cond_f rfl<|WP.skip<|PO.blockN ?_
    rw [← List.map_append]
    refine PO.cls (A:=Txs (A++B)) (B:=[cl y.q 355 [.int .u32 y.num.toNat,y.sv.v],Sl 179 3 ChgM.c y.sv.v y.own,Txs (A2++B2)]) (fun S h=>hAB ▸ Qg' S h) ?_
    exact PO.againK (A1++B1,pre,_) ⟨hsub,by simp only;rwa [hl,UO',UN',if_neg hid,show Qu' y sp=false from hch,if_neg (by simp),List.nil_append,← Qf'] at hx2,hx3⟩ (by simp only [hl,List.length_append,List.length_cons];omega)
  ·cases hg 
theorem ZcH_ {g:World} {p q:Nat} (sp:SpanM):Spec Tryz.prog g 261 [.pointer (some ⟨p,0,none⟩),.pointer (some ⟨q,0,none⟩),sp.v] [] fun K R=>∀ c1 c2 c3,K (.func (.func 267) #[] #[.pointer (some ⟨c1,0,none⟩),.pointer (some ⟨c2,0,none⟩),.pointer (some ⟨c3,0,none⟩)]) (cl c1 114 [.pointer (some ⟨p,0,none⟩)]::cl c2 45 [.string sp.a,.string sp.b]::cl c3 351 [.pointer (some ⟨q,0,none⟩)]::R):=by
 refine Spec.intro Tryz.func261 rfl Tryz.ntmps261 rfl fun R K hK=>?_
 refine WP.seq<|WP.reg ?_
 refine WL.h (ZL' fun b1=>?_)
 refine WL.h (ZL' fun b2=>?_)
 refine WL.h (ZL' fun b3=>?_)
 refine WL.e Zb'<|WL.next<|WP.seq<|WP.reg<|WL.e Ym'<|WL.e Zb'<|WL.next<|WP.ret ?_
 exact PO.fin Tryz.results261 (Zd' Zf') (hK b1 b3 b2)
theorem Ziz_ {g:World} (x:UInt32 × SpanM) {b1 b2:Nat} (t:TxV) (sp:SpanM):Spec Tryz.prog g 266 [.agg (Ye' x).toArray,.pointer (some ⟨b1,0,none⟩),.pointer (some ⟨b2,0,none⟩)] [cl b1 351 [.pointer (some ⟨t.q,0,none⟩)],cl b2 45 [.string sp.a,.string sp.b],cl t.q 355 [.int .u32 t.num.toNat,t.sv.v]] fun K R=>K (.bool (decide (t.num < x.1) && meet x.2 sp)) (cl b1 351 [.pointer (some ⟨t.q,0,none⟩)]::cl b2 45 [.string sp.a,.string sp.b]::cl t.q 355 [.int .u32 t.num.toNat,t.sv.v]::R):=by
 refine Spec.intro Tryz.func266 rfl Tryz.ntmps266 rfl fun R K hK=>?_
 refine WP.seq<|WP.reg ?_
 refine WL.h (ZL' fun b1=>?_)
 refine WL.e Zb'<|WL.next<|WP.seq<|WP.draws Zq' 16<|RW.e 0 rfl (e_fa Zko_)<|RW.e 1 rfl (e_fa Ke')<|RW.e 2 rfl (Zc' a24)<|RW.e 3 rfl (Zc' a351)<|RW.e 4 rfl Zk'<|RW.e 5 rfl (e_fa KC')<|RW.e 6 rfl (e_fa Ke')<|RW.e 7 rfl (Zc' a24)<|RW.e 8 rfl (Qm')<|RW.e 9 rfl Za' ?_
 refine RW.bool 14 rfl (fun h=>?_) (fun h=>?_)
 ·skip
  refine RW.e 10 rfl (e_fa Zoj_)<|RW.e 11 rfl (Zm' a45)<|RW.e 12 rfl (Zm' a45) ?_
  refine RW.any (is:=[13]) rfl ⟨?_,trivial⟩
  refine RWat.h rfl rfl rfl ?_
  refine (Zg' (Y8' ⟨_,_⟩ ⟨_,_⟩) k30 ?_)
  refine ⟨trivial,?_⟩
  refine RW.e 14 rfl Zn'<|RW.e 15 rfl Zb'<|RW.done<|PO.next<|WP.ret ?_
  exact PO.finE Tryz.results266 (Zd' Zf') (by simp [h]) hK
 ·skip
  refine RW.skip 10 rfl<|RW.skip 11 rfl<|RW.skip 12 rfl<|RW.skip 13 rfl<|RW.e 14 rfl Zl'<|RW.e 15 rfl Zb'<|RW.done<|PO.next<|WP.ret ?_
  exact PO.finE Tryz.results266 (Zd' Zf') (by simp [h]) hK
def LtJ (b1 b3 q:Nat) (b:Bool):HP:=fun S=>∃ _:Unit,Zo' [cl b1 351 [.pointer (some ⟨q,0,none⟩)],cl b3 4 [.bool b]] S
def LtX (b1 b3 q:Nat) (j:Code):HP:=fun S=>∃ _:{ u:Unit // j=.ret },Zo' [cl b1 351 [.pointer (some ⟨q,0,none⟩)],cl b3 4 [.bool true]] S
theorem Zks_ {g:World} {p dp:Nat} {s:GamV} {t:TxV} {A B:List TxV} (sp:SpanM) (w:Bool) (hts:s.txs=A++t::B) (hnd:(s.txs.map (·.id)).Nodup) (hown:∀ x ∈ s.txs,x.own.length≤68719476736) (hn:s.looks.length≤68719476736) :
  Spec Tryz.prog g 260 [.pointer (some ⟨p,0,none⟩),.pointer (some ⟨t.q,0,none⟩),sp.v,.bool w] [Gs p dp s,Txs (A++B),cl t.q 355 [.int .u32 t.num.toNat,t.sv.v]] fun K R=>K (.bool (Jm' s t sp w)) (Gs p dp s::Txs (A++B)::cl t.q 355 [.int .u32 t.num.toNat,t.sv.v]::R):=by
 refine Spec.intro Tryz.func260 rfl Tryz.ntmps260 rfl fun R K hK=>?_
 refine WP.opn (J1' (p:=p) (dp:=dp) (s:=s)) fun x=>?_
 obtain ⟨lp,mp,nm,lm,sv⟩:=x
 dsimp only
 refine WP.seq<|WP.reg ?_
 refine WL.h (ZL' fun b1=>?_)
 refine WL.h (ZL' fun b2=>?_)
 refine WL.h (Zu' z4 fun b3=>?_)
 refine WL.next<|WP.seq<|WP.seq<|WP.reg<|WL.e Za'<|WL.e Zk'<|WL.e (e_fa Zkn_)<|WL.e (Zc' a148) ?_
 refine WL.h (Xt' (kvs:=List.map numC s.nums) Tryz.underlying148 fun it=>?_)
 refine WL.next<|WP.block<|WP.loopK (fun (x:List (ByteArray × UInt32) × Option (ByteArray × Value))=>[]) (fun (x:List (ByteArray × UInt32) × Option (ByteArray × Value))=>MpIt eStr nm it (List.map numC s.nums) (List.map numC x.1) x.2::cl p 152 [.pointer (some ⟨lp,0,none⟩),.pointer (some ⟨mp,0,none⟩),nm,.int .u32 s.last.toNat,sv.v,lm]::cl lp 166 [.pointer (some ⟨dp,0,none⟩),.int .i64 s.at_]::Dk dp s.d::Mm mp s.rows::Sl 360 3 Ye' (sv.v) s.looks::Mp eU32 lm (List.map kvT s.txs)::cl b1 351 [.pointer (some ⟨t.q,0,none⟩)]::cl b2 45 [.string sp.a,.string sp.b]::cl b3 4 [.bool false]::cl t.q 355 [.int .u32 t.num.toNat,t.sv.v]::Txs (A++B)::R) [(0,_),(3,_),(5,_),(6,_),(8,_),(16,_)] (fun (x:List (ByteArray × UInt32) × Option (ByteArray × Value))=>Xv' x.1 t.num sp=Xv' s.nums t.num sp) (fun (x:List (ByteArray × UInt32) × Option (ByteArray × Value))=>x.1.length) (s.nums,none) (rfl) ?_
 rintro ⟨left,cur⟩ hx1
 simp only at hx1
 dsimp only
 refine WP.seq<|WP.reg ?_
 refine WL.h (XY' (fun h0=>?_) (fun a y0 b hx=>?_))
 ·have hl0:left=[]:=by simpa using h0
  subst hl0
  have hl1:Xv' s.nums t.num sp=false:=by rw [← hx1];rfl
  refine WL.e Ze'<|WL.next<|WP.seq<|WP.cond_f rfl<|WP.exit<|PO.past nofun<|PO.round nofun<|PO.blockX<|PO.next<|WP.seq<|WP.seq<|WP.reg<|WL.e Za'<|WL.e Zx'<|WL.next ?_
  refine WP.cond rfl (fun hw=>?_) (fun hw=>?_)
  ·replace hw:w=false:=by simpa using hw
   refine WP.seq<|WP.reg ?_
   refine WL.h' (Zj' s4 ?_)
   refine WL.next<|WP.ret<|PO.past nofun<|PO.cls (A:=Gs p dp (s)) (B:=[cl p 152 [.pointer (some ⟨lp,0,none⟩),.pointer (some ⟨mp,0,none⟩),nm,.int .u32 s.last.toNat,sv.v,lm],cl lp 166 [.pointer (some ⟨dp,0,none⟩),.int .i64 s.at_],Dk dp s.d,Mm mp s.rows,Mp eStr nm (List.map numC s.nums),Sl 360 3 Ye' (sv.v) s.looks,Mp eU32 lm (List.map kvT s.txs)]) (fun S h=>⟨⟨lp,mp,nm,lm,sv⟩,h⟩) ?_
   exact PO.fin Tryz.results260 (YV' a4 Zf') (by simpa [Jm',hl1,hw] using hK)
  ·replace hw:w=true:=by simpa using hw
   refine WP.skip<|PO.next<|WP.seq<|WP.seq<|WP.reg<|WL.e Za'<|WL.e (Zc' a351)<|WL.e (Zm' a45) ?_
   refine WL.h (Zg' (ZcH_ sp) k261 ?_)
   intro c1 c2 c3
   refine WL.next<|WP.block<|WP.cls (A:=Gs p dp (s)) (B:=[cl p 152 [.pointer (some ⟨lp,0,none⟩),.pointer (some ⟨mp,0,none⟩),nm,.int .u32 s.last.toNat,sv.v,lm],cl lp 166 [.pointer (some ⟨dp,0,none⟩),.int .i64 s.at_],Dk dp s.d,Mm mp s.rows,Mp eStr nm (List.map numC s.nums),Sl 360 3 Ye' (sv.v) s.looks,Mp eU32 lm (List.map kvT s.txs)]) (fun S h=>⟨⟨lp,mp,nm,lm,sv⟩,h⟩) ?_
   refine WP.cls (A:=LtJ b1 b3 t.q false) (B:=[cl b1 351 [.pointer (some ⟨t.q,0,none⟩)],cl b3 4 [.bool false]]) (fun S h=>⟨(),h⟩) ?_
   refine WP.rangeL (R:=?RR) (f:=267) (fs:=[]) (cs:=[.pointer (some ⟨c1,0,none⟩),.pointer (some ⟨c2,0,none⟩),.pointer (some ⟨c3,0,none⟩)]) (fun _=>LtJ b1 b3 t.q false) (fun _ _=>LtX b1 b3 t.q) (fun _ x=>¬ t.num < x) (ZcG_ (c1:=c1) (c2:=c2) (c3:=c3) (p:=p) (dp:=dp) (s:=s) (t:=t) (A:=A) (B:=B) (sp:=sp) hts hnd hown) k267 ?hLL ?_ ?_ ?_ (fun _=>rfl)
   case hLL=>repeat first | exact .nil | exact Pick.z | apply Pick.s | apply Split.cons
   ·rintro lb db fn tmps pre x R2 hp hh
    refine WP.opn (B:=fun _:Unit=>[cl b1 351 [.pointer (some ⟨t.q,0,none⟩)],cl b3 4 [.bool false]]) (fun _ h=>h) fun _=>?_
    refine WP.reg<|WL.e Zb'<|WL.nil<|PO.asg rfl (by repeat first | exact .z | apply Put.s)<|WP.block<|WP.seq<|WP.reg<|WL.e Za'<|WL.e (Zc' a351)<|WL.e Zk'<|WL.e (e_fa KC')<|WL.e (e_fa Ke')<|WL.e (Zc' a24)<|WL.e (Qm')<|WL.next ?_
    refine WP.cond rfl (fun h5=>?_) (fun h5=>?_)
    ·skip
     refine WP.seq<|WP.reg ?_
     refine WL.h' (Zj' s4 ?_)
     refine WL.next<|WP.ret<|PO.blockR<|PO.cls (A:=LtX b1 b3 t.q .ret) (B:=[cl b1 351 [.pointer (some ⟨t.q,0,none⟩)],cl b3 4 [.bool true]]) (fun S h=>⟨⟨(),rfl⟩,h⟩) ?_
     exact PO.rnd_ret (by simpa using h5) (by repeat first | exact .refl | exact Pick.z | apply Pick.s | apply Sub.cons | apply Sub.drop)
    ·skip
     refine WP.skip<|PO.blockN<|PO.cls (A:=LtJ b1 b3 t.q false) (B:=[cl b1 351 [.pointer (some ⟨t.q,0,none⟩)],cl b3 4 [.bool false]]) (fun S h=>⟨(),h⟩) ?_
     exact PO.rnd (by simpa using h5) (by repeat first | exact .refl | exact Pick.z | apply Pick.s | apply Sub.cons | apply Sub.drop)
   ·intro db xs hx hh
    have hu1:(Yl' s.txs t.id sp).any (fun n=>decide (t.num < n))=false:=by rw [List.any_eq_false];intro n hn;have:=Ux' hh n (hx.symm.subset hn);simpa using this
    refine PO.opn (B:=fun _:Unit=>[cl b1 351 [.pointer (some ⟨t.q,0,none⟩)],cl b3 4 [.bool false]]) (fun _ h=>h) fun _=>?_
    refine PO.opn (J1' (p:=p) (dp:=dp) (s:=s)) fun x=>?_
    obtain ⟨lp,mp,nm,lm,sv⟩:=x
    dsimp only
    refine PO.blockN<|PO.next<|WP.seq<|WP.reg<|WL.e Za'<|WL.e Zk'<|WL.e (e_fa Uo')<|WL.e (Zc' a150)<|WL.e Ym'<|WL.cls (A:=bun [cl b1 351 [.pointer (some ⟨t.q,0,none⟩)],cl b2 45 [.string sp.a,.string sp.b],cl t.q 355 [.int .u32 t.num.toNat,t.sv.v]]) (B:=[cl b1 351 [.pointer (some ⟨t.q,0,none⟩)],cl b2 45 [.string sp.a,.string sp.b],cl t.q 355 [.int .u32 t.num.toNat,t.sv.v]]) (fun S h=>h) ?_
    refine WL.h (Zg' (Zc6_ Zr' hn (fun x=>CallV.bun (CallV.of_spec (fs:=[]) (cs:=[.pointer (some ⟨b1,0,none⟩),.pointer (some ⟨b2,0,none⟩)]) (Ziz_ x t sp) k266))) k265 ?_)
    show WL _ _ _ _ _ _ _ _
    refine WL.open_ (k:=?_)
    refine WL.h' (Zj' s4 ?_)
    refine WL.next<|WP.ret<|PO.cls (A:=Gs p dp (s)) (B:=[cl p 152 [.pointer (some ⟨lp,0,none⟩),.pointer (some ⟨mp,0,none⟩),nm,.int .u32 s.last.toNat,sv.v,lm],cl lp 166 [.pointer (some ⟨dp,0,none⟩),.int .i64 s.at_],Dk dp s.d,Mm mp s.rows,Mp eStr nm (List.map numC s.nums),Sl 360 3 Ye' (sv.v) s.looks,Mp eU32 lm (List.map kvT s.txs)]) (fun S h=>⟨⟨lp,mp,nm,lm,sv⟩,h⟩) ?_
    exact PO.finM (by repeat first | exact .z | apply Put.s) Tryz.results260 (YV' a4 Zf') (by simpa [Jm',hl1,hw,hu1] using hK)
   ·intro db pre x j hp hh hc
    have hu1:(Yl' s.txs t.id sp).any (fun n=>decide (t.num < n))=true:=by obtain ⟨r,hr⟩:=hp;rw [List.any_eq_true];exact ⟨x,hr.subset (by simp),by simpa using hc⟩
    refine WP.opn (B:=fun sv:{ u:Unit // j=.ret }=>[cl b1 351 [.pointer (some ⟨t.q,0,none⟩)],cl b3 4 [.bool true]]) (fun _ h=>h) fun u=>?_
    obtain ⟨_,rfl⟩:=u
    refine WP.ret<|PO.blockR<|PO.past nofun ?_
    exact PO.finM (by repeat first | exact .z | apply Put.s) Tryz.results260 (YV' a4 Zf') (by simpa [Jm',hl1,hw,hu1] using hK)
 ·obtain ⟨A1,y,B1,hl,rfl,rfl,rfl⟩:=Xw' hx
  refine WL.e Ze'<|WL.next<|WP.seq<|WP.cond_t rfl<|WP.skip<|PO.next<|WP.block<|WP.seq<|WP.reg<|WL.e Xi'<|WL.e Ze'<|WL.e Ze'<|WL.e Zb'<|WL.e Zb'<|WL.next<|WP.seq<|WP.draws Zq' 13<|RW.e 0 rfl Za'<|RW.e 1 rfl (Zc' a351)<|RW.e 2 rfl Zk'<|RW.e 3 rfl (e_fa KC')<|RW.e 4 rfl (e_fa Ke')<|RW.e 5 rfl (Zc' a24)<|RW.e 6 rfl (Qm') ?_
  refine RW.e 7 rfl Za' ?_
  refine RW.bool 29 rfl (fun h2=>?_) (fun h2=>?_)
  ·skip
   refine RW.e 8 rfl Za'<|RW.e 10 rfl (Zm' a45) ?_
   refine RW.any (is:=[9]) rfl ⟨?_,trivial⟩
   refine RWat.h rfl rfl rfl ?_
   refine (Zg' (Zen_ _) k264 ?_)
   refine ⟨⟨⟨_,rfl,.inl ⟨rfl,(Zm' a45)⟩⟩,trivial⟩,?_⟩
   refine RW.any (is:=[11]) rfl ⟨?_,trivial⟩
   refine RWat.h rfl rfl rfl ?_
   refine (Zg' (Y8' ⟨_,_⟩ ⟨_,_⟩) k30 ?_)
   refine ⟨trivial,?_⟩
   refine RW.e 12 rfl Zn'<|RW.done<|PO.next ?_
   refine WP.cond rfl (fun h3=>?_) (fun h3=>?_)
   ·replace h3:meet (one y.1) sp=true:=h3
    have h9:Xv' s.nums t.num sp=true:=by rw [← hx1,hl,VA',h2,h3];simp
    refine WP.seq<|WP.reg ?_
    refine WL.h' (Zj' s4 ?_)
    refine WL.next<|WP.ret<|PO.blockR<|PO.round nofun<|PO.blockR<|PO.past nofun<|PO.conv (YS' (A:=MpIt eStr nm it (List.map numC s.nums) _ _) (B:=Mp eStr nm (List.map numC s.nums)) JT' (by repeat first | exact .z | apply Put.s)) ?_
    refine PO.cls (A:=Gs p dp (s)) (B:=[cl p 152 [.pointer (some ⟨lp,0,none⟩),.pointer (some ⟨mp,0,none⟩),nm,.int .u32 s.last.toNat,sv.v,lm],cl lp 166 [.pointer (some ⟨dp,0,none⟩),.int .i64 s.at_],Dk dp s.d,Mm mp s.rows,Mp eStr nm (List.map numC s.nums),Sl 360 3 Ye' (sv.v) s.looks,Mp eU32 lm (List.map kvT s.txs)]) (fun S h=>⟨⟨lp,mp,nm,lm,sv⟩,h⟩) ?_
    exact PO.fin Tryz.results260 (YV' a4 Zf') (by simpa [Jm',h9] using hK)
   ·replace h3:meet (one y.1) sp=false:=h3
    refine WP.skip<|PO.blockN ?_
    rw [← List.map_append]
    exact PO.againK (A1++B1,_) (by simp only;rw [← hx1,hl,VA',h2];simp [h3]) (by simp only [hl,List.length_append,List.length_cons];omega)
  ·skip
   refine RW.skip 8 rfl<|RW.skip 9 rfl<|RW.skip 10 rfl<|RW.skip 11 rfl<|RW.e 12 rfl Zl'<|RW.done<|PO.next<|WP.cond_f rfl<|WP.skip<|PO.blockN ?_
   rw [← List.map_append]
   exact PO.againK (A1++B1,_) (by simp only;rw [← hx1,hl,VA',h2];simp) (by simp only [hl,List.length_append,List.length_cons];omega)
end Go.SL
set_option linter.unusedSectionVars false
namespace Go.SL
open Go
inductive DoR
  | err (s:GamV) (e:Nat)
  | put (t:TxV) (c:ChgM)
  | look (t:TxV)
def doG (s:GamV) (n:UInt32) (x:OpM):DoR:=
  if opOk x then match ZV' s.txs n with
    | none=>.err s 6
    | some t=>if Jm' s t (Zi' x) (Zp' x) then .err (Yj' s n) 9
      else if (Yl' s.txs t.id (Zi' x)).any (fun m=>decide (m < t.num)) then .err s 8
      else if Zp' x then .put t (Z4' x) else .look t
  else .err s 1
def putT (ts:List TxV) (n:UInt32) (c:ChgM) (sv:SV):List TxV:=ts.map fun o=>if o.id=n then { o with own:=o.own++[c],sv:=sv } else o
def putG (s:GamV) (n:UInt32) (c:ChgM) (sv:SV):GamV:={ s with txs:=putT s.txs n c sv }
def Jn' (s:GamV) (t:TxV) (p:SpanM):GamV:={ s with looks:=s.looks++[(t.num,p)] }
theorem Zg8_ (ts:List TxV) (n:UInt32) (c:ChgM) (sv:SV):(putT ts n c sv).map kvT=ts.map kvT:=by
  unfold putT
  rw [List.map_map]
  apply List.map_congr_left
  intro o _
  simp only [Function.comp]
  split <;> rfl
theorem UP' {A B:List TxV} {t:TxV} (h:((A++t::B).map (·.id)).Nodup) (c:ChgM) (sv:SV):putT (A++t::B) t.id c sv=A++{ t with own:=t.own++[c],sv:=sv }::B:=by
  have hn:=ZaA_ h
  unfold putT
  rw [List.map_append,List.map_cons,if_pos rfl]
  have e1:∀ l:List TxV,(∀ x ∈ l,x.id≠t.id)→l.map (fun o=>if o.id=t.id then { o with own:=o.own++[c],sv:=sv } else o)=l:=fun l hl=>by
    conv=>rhs;rw [← List.map_id l]
    apply List.map_congr_left
    intro o ho
    rw [if_neg (hl o ho)];rfl
  rw [e1 A (fun x hx=>hn x (by simp [hx])),e1 B (fun x hx=>hn x (by simp [hx]))]
theorem Zkt_ {p dp:Nat} {s:GamV} {ts:List TxV} (h:ts.map kvT=s.txs.map kvT):∀ S,Gs p dp s S→Gs p dp { s with txs:=ts } S:=fun S hS=>by
  obtain ⟨x,hx⟩:=hS
  exact ⟨x,by simp only [h];exact hx⟩
def recG (t:TxV):List UInt8:=numB t.num 4++Yn' t.own
def JL' (s:GamV) (t:TxV):Prop:=(recG t).length≤16384∧s.at_+secs (recG t).length≤s.d.sure.length
instance (s:GamV) (t:TxV):Decidable (JL' s t):=by unfold JL';infer_instance
def Kr' (s:GamV) (n:UInt32) (t:TxV):GamV:=
  let e:=Yj' s n
  if JL' s t then { e with d:=(addW s.d s.at_ (frame (recG t)) (secs (recG t).length)).sync,at_:=s.at_+secs (recG t).length,rows:=Zw' s.rows t.own,nums:=JI' s.nums t.num t.own } else e
theorem GamOk.bad {s:GamV} {b:Nat} (h:GamOk s b) {t:TxV} (ht:t ∈ s.txs):t.own.any (fun c=>!ZR' c)=false:=by
  rw [List.any_eq_false]
  intro c hc
  simp [h.own t ht c hc]
theorem YZ' {ts:List TxV} {n:UInt32} {t:TxV} (h:ZV' ts n=some t):t ∈ ts:=List.mem_of_find?_eq_some h
def comG (s:GamV) (n:UInt32):GamV:=match ZV' s.txs n with
  | none=>s
  | some t=>Kr' s n t
def Xp' (s:GamV) (n:UInt32):Nat:=match ZV' s.txs n with
  | none=>6
  | some t=>if JL' s t then 0 else 5
def Xh' (s:GamV) (n:UInt32):UInt32:=match ZV' s.txs n with
  | none=>0
  | some t=>if JL' s t then t.num else 0
def Xb' (s:GamV) (n:UInt32):Nat:=if n=0 then 1 else if (ZV' s.txs n).isSome then 7 else if 32≤s.txs.length then 5 else 0
def begG (s:GamV) (n:UInt32) (q:Nat):GamV:=if Xb' s n=0 then { s with last:=s.last+1,txs:=s.txs++[⟨n,s.last+1,[],q,⟨none,0,0⟩⟩] } else s
def Jo' (s:GamV) (n:UInt32):Nat:=if (ZV' s.txs n).isSome then 0 else 6
def aboG (s:GamV) (n:UInt32):GamV:=if (ZV' s.txs n).isSome then Yj' s n else s
theorem Qv' {s:GamV} {n:UInt32} {t:TxV} (h:ZV' s.txs n=some t):(comG s n).txs=delT s.txs n:=by
  unfold comG;rw [h];simp only [Kr'];split <;> rfl
theorem UQ' (t:TxV):(recG t).length=6+(t.own.flatMap chgB).length:=by
  simp only [recG,Yn',List.length_append,Yh'];omega
theorem Zl0_ {s:GamV} {t:TxV} (h:¬ t.own.length≤4096):¬ JL' s t:=fun hf=>by
  have h1:=hf.1
  rw [UQ'] at h1
  have:=(XK' t.own).1
  omega
end Go.SL
