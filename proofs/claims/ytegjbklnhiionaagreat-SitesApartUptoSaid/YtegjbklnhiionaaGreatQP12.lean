import Derived.Test.YtegjbklnhiionaaGreatQP11
set_option linter.unusedSimpArgs false
set_option linter.unusedVariables false
namespace Go.SL.Fc
open Go Go.Proofs Go.SL
theorem k190:Zh' Tryz.prog 190=true:=by kernel_rfl
theorem sl36:slOf Tryz.prog 36=some (24,1,4):=by kernel_rfl
theorem z24:ZH' Tryz.prog 24=some [.int .u32 0]:=by kernel_rfl
theorem zz3:(Tryz.prog.info? 3).bind (·.zero)=some (.int .i64 0):=by kernel_rfl
theorem zz36:(Tryz.prog.info? 36).bind (·.zero)=some (.slice none 0 0):=by kernel_rfl
end Go.SL.Fc
namespace Go.SL
open Go Go.Proofs Fc
set_option maxHeartbeats 2000000 in
theorem Zic_ {g:World} {A B:HP} {u v:Value} {fs ts:List UInt32} (hA:RL A 1 u32C u fs) (hB:RL B 1 u32C v ts) (hl:fs.length=ts.length) (hn:fs.length≤68719476000):Spec Tryz.prog g 190 [u,v] [A,B] fun K R=>∀ mb es,AllOk es fs ts fs.length→K (.map (some mb)) (Mp eU32 (.map (some mb)) (List.map kvE (es))::Ents 24 1 u32C (es)::A::B::R):=by
 refine Spec.intro Tryz.func190 rfl Tryz.ntmps190 rfl fun R K hK=>?_
 refine WP.seq<|WP.reg<|WL.e Zb'<|WL.next<|WP.seq<|WP.reg ?_
 refine WL.h (YN' (ek:=eU32) fun mb=>?_)
 refine WL.e Zb'<|WL.next<|WP.seq<|WP.seq<|WP.reg<|WL.e Za'<|WL.e (ZD' (xs:=fs) sl36 hA)<|WL.e Za'<|WL.next<|WP.block<|WP.conv (fun S h=>Zbu_ (κ:=UInt32) (E:=24) (z:=1) (enc:=u32C) h) ?_
 refine WP.loopK (fun (x:Nat × List (EntV UInt32 UInt32))=>[(13,.int .i64 x.1)]) (fun (x:Nat × List (EntV UInt32 UInt32))=>Ents 24 1 u32C (x.2)::Mp eU32 (.map (some mb)) (List.map kvE (x.2))::A::B::R) [(1,_),(4,_),(5,_),(11,_),(12,_)] (fun (x:Nat × List (EntV UInt32 UInt32))=>x.1≤fs.length∧AllOk x.2 fs ts x.1) (fun (x:Nat × List (EntV UInt32 UInt32))=>fs.length - x.1) (0,[]) (⟨Nat.zero_le _,AllOk.init _ _⟩) ?_
 rintro ⟨i,es⟩ ⟨hi,hO⟩
 simp only at hi hO
 dsimp only
 refine WP.seq<|WP.reg<|WL.e Z3'<|WL.next<|WP.seq ?_
 refine WP.cond rfl (fun h1=>?_) (fun h1=>?_)
 ·have hlt:i < fs.length:=by rw [decide_eq_true_eq] at h1;omega
  obtain ⟨x,hx⟩:∃ x,fs[i]?=some x:=⟨_,List.getElem?_eq_getElem hlt⟩
  obtain ⟨y,hy⟩:∃ y,ts[i]?=some y:=⟨_,List.getElem?_eq_getElem (by omega)⟩
  have hwl:=hO.len x
  refine WP.opn (QZ' es x) fun _=>?_
  refine WP.skip<|PO.next<|WP.seq<|WP.block<|WP.seq<|WP.reg<|WL.e Za'<|WL.e (ZZ' (j:=i) (xs:=fs) sl36 hA hlt)<|WL.e (Ys' (j:=i) (a:=x) a24 u32E hA hx)<|WL.e Zb'<|WL.e Zb'<|WL.next<|WP.seq<|WP.draws Zq' 12<|RW.e 0 rfl Za'<|RW.e 1 rfl Za'<|RW.e 2 rfl Za'<|RW.e 3 rfl Za'<|RW.e 4 rfl (Un' (k:=x) (es:=es) Tryz.underlying298 (ZQ' Tryz.underlying24) zz36)<|RW.e 5 rfl Za'<|RW.e 6 rfl Za'<|RW.e 7 rfl (ZZ' (j:=i) (xs:=ts) sl36 hB (by omega))<|RW.e 8 rfl (Ys' (j:=i) (a:=y) a24 u32E hB hy) ?_
  refine RW.any (is:=[9]) rfl ⟨?_,trivial⟩
  refine RWat.h rfl rfl rfl ?_
  refine (h_bs sl36 z24 (.o (.tmp 26) rfl<|.n) fun b1=>?_)
  refine ⟨⟨⟨_,rfl,.inl ⟨rfl,(Un' (k:=x) (es:=es) Tryz.underlying298 (ZQ' Tryz.underlying24) zz36)⟩⟩,⟨_,rfl,.inl ⟨rfl,Za'⟩⟩,⟨_,rfl,.inl ⟨rfl,Za'⟩⟩,⟨_,rfl,.inl ⟨rfl,Za'⟩⟩,⟨_,rfl,.inl ⟨rfl,Za'⟩⟩,trivial⟩,?_⟩
  refine RW.any (is:=[10]) rfl ⟨?_,trivial⟩
  refine RWat.h rfl rfl rfl ?_
  refine (ZG' (xs:=wsE es x) (ys:=[y]) sl36 u32E z24 (Z7' u32E [y] rfl) (by simp;omega) (fun a5 n5 c5=>?_))
  refine ⟨⟨⟨_,rfl,.inl ⟨rfl,Za'⟩⟩,⟨_,rfl,.inl ⟨rfl,Za'⟩⟩,trivial⟩,?_⟩
  refine RW.any (is:=[11]) rfl ⟨?_,trivial⟩
  refine RWat.h' rfl rfl rfl ?_
  refine (YI' (k:=x) (kvs:=List.map kvE es) Tryz.underlying298 (ZQ' Tryz.underlying24) ?_)
  rw [show mset (List.map kvE es) x (.slice a5 n5 c5)=List.map kvE (setE es x ⟨a5,n5,c5⟩ (wsE es x++[y])) from Qp' es x ⟨a5,n5,c5⟩ _]
  have hO2:=hO.step hx hy ⟨a5,n5,c5⟩
  refine ⟨trivial,?_⟩
  refine RW.done<|PO.next<|WP.seq<|WP.reg<|WL.e Za'<|WL.e Za'<|WL.e Za'<|WL.e (ZZ' (j:=i) (xs:=ts) sl36 hB (by omega))<|WL.e (Ys' (j:=i) (a:=y) a24 u32E hB hy)<|WL.e (ZlF_ (k:=y) (es:=(setE es x ⟨a5,n5,c5⟩ (wsE es x++[y]))) Tryz.underlying298 (ZQ' Tryz.underlying24) zz36)<|WL.e Za'<|WL.e Ze'<|WL.e Ze'<|WL.e Zb'<|WL.e Zb'<|WL.next<|WP.seq<|WP.reg<|WL.e Za'<|WL.e Zx'<|WL.next ?_
  refine WP.cond rfl (fun h6=>?_) (fun h6=>?_)
  ·replace h6:YM' (setE es x ⟨a5,n5,c5⟩ (wsE es x++[y])) y=none:=by cases e:YM' (setE es x ⟨a5,n5,c5⟩ (wsE es x++[y])) y with
    | none=>rfl
    | some z=>rw [e] at h6;cases h6
   refine WP.reg<|WL.e Za'<|WL.e Za'<|WL.e Za'<|WL.e (ZZ' (j:=i) (xs:=ts) sl36 hB (by omega))<|WL.e (Ys' (j:=i) (a:=y) a24 u32E hB hy) ?_
   refine WL.h' (YI' (k:=y) (kvs:=List.map kvE (setE es x ⟨a5,n5,c5⟩ (wsE es x++[y]))) Tryz.underlying298 (ZQ' Tryz.underlying24) ?_)
   rw [show mset (List.map kvE (setE es x ⟨a5,n5,c5⟩ (wsE es x++[y]))) y (.slice none 0 0)=List.map kvE (setE (setE es x ⟨a5,n5,c5⟩ (wsE es x++[y])) y ⟨none,0,0⟩ []) from Qp' (setE es x ⟨a5,n5,c5⟩ (wsE es x++[y])) y ⟨none,0,0⟩ []]
   refine WL.nil<|PO.blockN<|PO.next<|WP.reg<|WL.e (ZE' rfl rfl (Zt' (by omega) (by omega)))<|WL.e Za'<|WL.nil<|PO.cls (A:=Ents 24 1 u32C ((setE es x ⟨a5,n5,c5⟩ (wsE es x++[y])))) (B:=[Sl 24 1 u32C (.slice a5 n5 c5) (wsE es x++[y]),Ents 24 1 u32C (delE es x)]) (JG' es x ⟨a5,n5,c5⟩ (wsE es x++[y])) ?_
   refine PO.conv (YS' (A:=Ents 24 1 u32C ((setE es x ⟨a5,n5,c5⟩ (wsE es x++[y])))) (B:=Ents 24 1 u32C (delE (setE es x ⟨a5,n5,c5⟩ (wsE es x++[y])) y)) (fun S h=>by rw [(Zak_ h6).1];exact h) (by repeat first | exact .z | apply Put.s)) ?_
   refine PO.nils 24 1 u32C none ?_
   refine PO.cls (A:=Ents 24 1 u32C (setE (setE es x ⟨a5,n5,c5⟩ (wsE es x++[y])) y ⟨none,0,0⟩ [])) (B:=[Sl 24 1 u32C (.slice none 0 0) [],Ents 24 1 u32C (delE (setE es x ⟨a5,n5,c5⟩ (wsE es x++[y])) y)]) (JG' (setE es x ⟨a5,n5,c5⟩ (wsE es x++[y])) y ⟨none,0,0⟩ []) ?_
   exact PO.againK (i+1,setE (setE es x ⟨a5,n5,c5⟩ (wsE es x++[y])) y ⟨none,0,0⟩ []) ⟨by simp only;omega,hO2.nil h6 _⟩ (by simp only;omega)
  ·skip
   refine WP.skip<|PO.blockN<|PO.next<|WP.reg<|WL.e (ZE' rfl rfl (Zt' (by omega) (by omega)))<|WL.e Za'<|WL.nil<|PO.cls (A:=Ents 24 1 u32C ((setE es x ⟨a5,n5,c5⟩ (wsE es x++[y])))) (B:=[Sl 24 1 u32C (.slice a5 n5 c5) (wsE es x++[y]),Ents 24 1 u32C (delE es x)]) (JG' es x ⟨a5,n5,c5⟩ (wsE es x++[y])) ?_
   exact PO.againK (i+1,(setE es x ⟨a5,n5,c5⟩ (wsE es x++[y]))) ⟨by simp only;omega,hO2⟩ (by simp only;omega)
 ·obtain rfl:i=fs.length:=by rw [decide_eq_false_iff_not] at h1;omega
  refine WP.exit<|PO.past nofun<|PO.round nofun<|PO.blockX<|PO.next<|WP.seq<|WP.reg<|WL.e Za'<|WL.e Zb'<|WL.next<|WP.ret ?_
  exact PO.fin Tryz.results190 (Zd' Zf') (hK mb es hO)
set_option maxHeartbeats 4000000 in
theorem Zf6_ {g:World} {A B:HP} {u v:Value} {fs ts:List UInt32} (who whom:UInt32) (hA:RL A 1 u32C u fs) (hB:RL B 1 u32C v ts) (hl:fs.length=ts.length) (hn:fs.length≤68719476000):Spec Tryz.prog g 183 [u,v,.int .u32 who.toNat,.int .u32 whom.toNat] [A,B] fun K R=>∀ b,(b=true↔Reach (KJ' fs ts fs.length) whom who)→K (.tuple #[.bool b,.int .i64 0]) (A::B::R):=by
 refine Spec.intro Tryz.func183 rfl Tryz.ntmps183 rfl fun R K hK=>?_
 refine WP.seq<|WP.reg<|WL.e Zb'<|WL.e Zb'<|WL.next<|WP.scope<|WP.seq<|WP.seq<|WP.reg<|WL.e Za'<|WL.e (ZD' (xs:=fs) sl36 hA)<|WL.e Za'<|WL.e (ZD' (xs:=ts) sl36 hB)<|WL.e Z2'<|WL.next ?_
 refine WP.cond rfl (fun h0=>?_) (fun h0=>?_)
 ·(simp at h0;omega)
 ·skip
  refine WP.skip<|PO.next<|WP.seq<|WP.reg<|WL.e Za'<|WL.e Za' ?_
  refine WL.h (Zg' (Zic_ hA hB hl hn) k190 ?_)
  intro mb es hO
  refine WL.e Zb'<|WL.next<|WP.seq<|WP.reg ?_
  refine WL.h (YN' (ek:=eU32) fun sm=>?_)
  refine WL.e Za' ?_
  refine WL.h' (Zk5_ (k:=whom) (kvs:=([]:List (UInt32 × Value))) Tryz.underlying300 (ZQ' Tryz.underlying24) ?_)
  refine WL.e Za'<|WL.e Zb'<|WL.next<|WP.seq<|WP.reg<|WL.e Za' ?_
  refine WL.h (h_bs sl36 z24 (.o (.tmp 27) rfl<|.n) fun b1=>?_)
  refine WL.e Zb'<|WL.next<|WP.seq<|WP.label<|PO.next<|WP.seq<|WP.block<|WP.conv (YS' (A:=cl b1 24 [.int .u32 whom.toNat]) (B:=Sl 24 1 u32C (.slice (some ⟨b1,0,none⟩) 1 1) ([whom])) (ZgN_ u32E [whom] rfl rfl (by decide)) (by repeat first | exact .z | apply Put.s)) ?_
  refine WP.loopK (fun (x:List UInt32 × SV × List UInt32 × Nat)=>[(12,x.2.1.v)]) (fun (x:List UInt32 × SV × List UInt32 × Nat)=>Sl 24 1 u32C (x.2.1.v) (x.2.2.1)::Mp eU32 (.map (some sm)) (List.map QJ' (x.1))::Mp eU32 (.map (some mb)) (List.map kvE (es))::Ents 24 1 u32C (es)::A::B::R) [(2,_),(8,_),(9,_),(10,_),(11,_)] (fun (x:List UInt32 × SV × List UInt32 × Nat)=>DfsOk (KJ' fs ts fs.length) whom x.1 x.2.2.1 x.2.2.2 ts∧x.2.2.2≤ts.length+1) (fun (x:List UInt32 × SV × List UInt32 × Nat)=>x.2.2.2) ([whom],⟨some ⟨b1,0,none⟩,1,1⟩,[whom],ts.length+1) (⟨DfsOk.init _ _ _,Nat.le_refl _⟩) ?_
  rintro ⟨S,w,N,M⟩ ⟨hD,hM⟩
  simp only at hD hM
  dsimp only
  refine WP.seq<|WP.seq<|WP.reg<|WL.e Za'<|WL.e (ZD' (xs:=N) sl36 Zr')<|WL.e YY'<|WL.next ?_
  refine WP.cond rfl (fun h1=>?_) (fun h1=>?_)
  ·have hlt:0 < N.length:=by rw [decide_eq_true_eq] at h1;omega
   obtain ⟨xx,hx⟩:∃ x,N[N.length - 1]?=some x:=⟨_,List.getElem?_eq_getElem (by omega)⟩
   have hmu:=hD.mu
   have hNl:N.length≤ts.length+1:=by omega
   obtain ⟨M1,rfl⟩:∃ k,M=k+1:=⟨M - 1,by omega⟩
   have hI:=hD.pop hx (wsE es xx)
   refine WP.skip<|PO.next<|WP.block<|WP.seq<|WP.reg<|WL.e Za'<|WL.e Za'<|WL.e (ZD' (xs:=N) sl36 Zr')<|WL.e (Y9' (c:=((N.length - 1:Nat):Int)) rfl rfl (by rw [Zt' (by omega) (by omega)];omega))<|WL.e (ZZ' (j:=N.length - 1) (xs:=N) sl36 Zr' (by omega))<|WL.e (Ys' (j:=N.length - 1) (a:=xx) a24 u32E Zr' hx)<|WL.e Zb'<|WL.next<|WP.seq<|WP.reg<|WL.e Za'<|WL.e Za'<|WL.e (ZD' (xs:=N) sl36 Zr')<|WL.e (Y9' (c:=((N.length - 1:Nat):Int)) rfl rfl (by rw [Zt' (by omega) (by omega)];omega))<|WL.e (VH' (hi:=N.length - 1) (xs:=N) sl36 Zr' (by omega))<|WL.e Zb'<|WL.next<|WP.seq<|WP.seq ?_
   refine WP.reg<|WL.e Za'<|WL.e Za'<|WL.e (Jt')<|WL.next ?_
   refine WP.cond rfl (fun h2=>?_) (fun h2=>?_)
   ·have hxw:xx=who:=by simpa using h2
    have hwin:who ∈ S:=hxw ▸ hI.xin
    have hst:who ∈ S↔Reach (KJ' fs ts fs.length) whom who:=⟨hI.can who,fun _=>hwin⟩
    refine WP.exit<|PO.past nofun<|PO.blockY rfl<|PO.round nofun<|PO.blockX<|PO.next<|WP.seq<|WP.reg<|WL.e Za'<|WL.e Za'<|WL.e (ZaT_ (k:=who) (S:=S) Tryz.underlying300 (ZQ' Tryz.underlying24) zz3)<|WL.e YY'<|WL.e Zb'<|WL.e Zb'<|WL.next<|WP.ret<|PO.scopeR ?_
    exact PO.fin Tryz.results183 (Zd' (Zd' Zf')) (hK _ (by rw [← hst];by_cases e:who ∈ S <;> simp [e]))
   ·skip
    refine WP.skip<|PO.next<|WP.seq<|WP.reg<|WL.e Za'<|WL.e Za'<|WL.e (Un' (k:=xx) (es:=es) Tryz.underlying298 (ZQ' Tryz.underlying24) zz36)<|WL.e (ZD' (xs:=wsE es xx) sl36 (Q2' xx))<|WL.e Za'<|WL.next<|WP.block<|WP.conv (YS' (A:=Sl 24 1 u32C (w.v) (N)) (B:=Sl 24 1 u32C (subV w.v 0 (N.length - 1) none 1) (N.take (N.length - 1))) (fun S h=>ZhL_ u32E h (by omega)) (by repeat first | exact .z | apply Put.s)) ?_
    refine WP.sh (u:=subV w.v 0 (N.length - 1) none 1) fun a8 n8 c8 e8=>?_
    rw [e8]
    refine WP.loopK (fun (x:Nat × List UInt32 × SV × List UInt32)=>[(50,.int .i64 x.1),(12,x.2.2.1.v)]) (fun (x:Nat × List UInt32 × SV × List UInt32)=>Sl 24 1 u32C (x.2.2.1.v) (x.2.2.2)::Mp eU32 (.map (some sm)) (List.map QJ' (x.2.1))::Mp eU32 (.map (some mb)) (List.map kvE (es))::Ents 24 1 u32C (es)::A::B::R) [(2,_),(8,_),(9,_),(10,_),(11,_),(13,_),(29,_),(30,_),(31,_),(32,_),(33,_),(34,_),(35,_),(36,_),(37,_),(38,_),(39,_),(40,_),(41,_),(42,_),(43,_),(44,_),(45,_),(46,_),(47,_),(48,_),(49,_)] (fun (x:Nat × List UInt32 × SV × List UInt32)=>x.1≤(wsE es xx).length∧DfsIn (KJ' fs ts fs.length) whom xx (wsE es xx) x.2.1 x.2.2.2 x.1 M1 ts) (fun (x:Nat × List UInt32 × SV × List UInt32)=>(wsE es xx).length - x.1) (0,S,⟨a8,n8,c8⟩,N.take (N.length - 1)) (⟨Nat.zero_le _,hI⟩) ?_
    rintro ⟨k,S2,w2,N2⟩ ⟨hk,hI2⟩
    simp only at hk hI2
    dsimp only
    refine WP.seq<|WP.reg<|WL.e Z3'<|WL.next<|WP.seq ?_
    refine WP.cond rfl (fun h3=>?_) (fun h3=>?_)
    ·have hlt2:k < (wsE es xx).length:=by rw [decide_eq_true_eq] at h3;omega
     obtain ⟨y,hy⟩:∃ y,(wsE es xx)[k]?=some y:=⟨_,List.getElem?_eq_getElem hlt2⟩
     have hRy:=(hO.mem xx y).1 (List.mem_of_getElem? hy)
     have hyt:y ∈ ts:=by obtain ⟨j,_,_,h⟩:=hRy;exact List.mem_of_getElem? h
     have hmu2:=hI2.mu
     have hwsl:=hO.len xx
     refine WP.skip<|PO.next<|WP.seq<|WP.block<|WP.seq<|WP.reg<|WL.e (ZZ' (j:=k) (xs:=wsE es xx) sl36 (Q2' xx) hlt2)<|WL.e (Ys' (j:=k) (a:=y) a24 u32E (Q2' xx) hy)<|WL.e Zb'<|WL.next<|WP.seq<|WP.seq<|WP.reg<|WL.e Za'<|WL.e Za'<|WL.e (ZaT_ (k:=y) (S:=S2) Tryz.underlying300 (ZQ' Tryz.underlying24) zz3)<|WL.e YY'<|WL.next ?_
     refine WP.cond rfl (fun h4=>?_) (fun h4=>?_)
     ·have hin:y ∈ S2:=by by_cases e:y ∈ S2;exact e;rw [if_neg e] at h4;exact absurd h4 (by decide)
      refine WP.exit<|PO.past nofun<|PO.blockX<|PO.next<|WP.reg<|WL.e (ZE' rfl rfl (Zt' (by omega) (by omega)))<|WL.e Za'<|WL.nil ?_
      exact PO.againK (k+1,S2,w2,N2) ⟨by simp only;omega,hI2.old hy hin⟩ (by simp only;omega)
     ·have hin:y ∉ S2:=fun e=>by rw [if_pos e] at h4;exact absurd h4 (by decide)
      refine WP.skip<|PO.next<|WP.seq<|WP.reg<|WL.e Za'<|WL.e Za'<|WL.e (ZaT_ (k:=y) (S:=S2) Tryz.underlying300 (ZQ' Tryz.underlying24) zz3)<|WL.e (ZE' (c:=1) rfl rfl (by rw [if_neg hin];rfl)) ?_
      refine WL.h' (YI' (k:=y) (kvs:=List.map QJ' S2) Tryz.underlying300 (ZQ' Tryz.underlying24) ?_)
      rw [ZjX_ hin]
      refine WL.next<|WP.reg<|WL.e Za'<|WL.e Za' ?_
      refine WL.h (h_bs sl36 z24 (.o (.tmp 63) rfl<|.n) fun b2=>?_)
      refine WL.h (ZG' (xs:=N2) (ys:=[y]) sl36 u32E z24 (Z7' u32E [y] rfl) (by simp;omega) (fun a5 n5 c5=>?_))
      refine WL.e Zb'<|WL.nil<|PO.blockN<|PO.next<|WP.reg<|WL.e (ZE' rfl rfl (Zt' (by omega) (by omega)))<|WL.e Za'<|WL.nil ?_
      exact PO.againK (k+1,S2++[y],⟨a5,n5,c5⟩,N2++[y]) ⟨by simp only;omega,hI2.push hy hin hRy hyt⟩ (by simp only;omega)
    ·have hD2:=hI2.done (by rw [decide_eq_false_iff_not] at h3;omega) (fun y hy=>(hO.mem xx y).2 hy)
     refine WP.exit<|PO.past nofun<|PO.round nofun<|PO.blockX<|PO.blockN ?_
     exact PO.againK (S2,w2,N2,M1) ⟨hD2,by simp only;omega⟩ (by simp only;omega)
  ·have hN0:N=[]:=List.length_eq_zero_iff.1 (by rw [decide_eq_false_iff_not] at h1;omega)
   have hst:=hD.stop (who:=who) hN0
   refine WP.exit<|PO.past nofun<|PO.round nofun<|PO.blockX<|PO.next<|WP.seq<|WP.reg<|WL.e Za'<|WL.e Za'<|WL.e (ZaT_ (k:=who) (S:=S) Tryz.underlying300 (ZQ' Tryz.underlying24) zz3)<|WL.e YY'<|WL.e Zb'<|WL.e Zb'<|WL.next<|WP.ret<|PO.scopeR ?_
   exact PO.fin Tryz.results183 (Zd' (Zd' Zf')) (hK _ (by rw [← hst];by_cases e:who ∈ S <;> simp [e]))
end Go.SL
namespace Go.SL.Fc
open Go Go.Proofs Go.SL
theorem a174:ZK' Tryz.prog 174=some none:=by kernel_rfl
theorem a281:ZK' Tryz.prog 281=some (some 3):=by kernel_rfl
theorem Znf_:Tryz.prog.eqGuardType Tryz.prog.depth 45=false:=by kernel_rfl
theorem Q3':ZO' Tryz.prog 176 0=some 0:=by kernel_rfl
theorem Zfd_:ZO' Tryz.prog 281 0=some 0:=by kernel_rfl
theorem k175:Zh' Tryz.prog 175=true:=by kernel_rfl
theorem p176:Ya' Tryz.prog 176=some [(0,1)]:=by kernel_rfl
theorem ZoE_:X3' Tryz.prog 133=true:=by kernel_rfl
theorem QK':slOf Tryz.prog 278=some (281,3,40):=by kernel_rfl
theorem ZjZ_:Tryz.prog.stoodInHeld 45=false:=by kernel_rfl
theorem z176:ZH' Tryz.prog 176=some [.map none]:=by kernel_rfl
theorem ZmB_:(Tryz.prog.info? 278).bind (·.zero)=some (.slice none 0 0):=by kernel_rfl
end Go.SL.Fc
namespace Go.SL
open Go Go.Proofs Fc
def Lk (p:Nat) (L:LkT):HP:=fun S=>∃ x:Nat × List (EntV UInt32 LockM),Zo' [pu (List.map stE (x.2)=L),cl p 176 [.map (some x.1)],Mp eU32 (.map (some x.1)) (List.map kvE (x.2)),Ents 281 3 LockM.c (x.2)] S
theorem ZdV_ {p:Nat} {L:LkT}:∀ S,Lk p L S→∃ x:Nat × List (EntV UInt32 LockM),Zo' [pu (List.map stE (x.2)=L),cl p 176 [.map (some x.1)],Mp eU32 (.map (some x.1)) (List.map kvE (x.2)),Ents 281 3 LockM.c (x.2)] S:=fun _ h=>h
theorem Zj0_ {g:World}:Spec Tryz.prog g 57 [] [] fun K R=>∀ p,K (.pointer (some ⟨p,0,none⟩)) (Lk p []::R):=by
 refine Spec.intro Tryz.func57 rfl Tryz.ntmps57 rfl fun R K hK=>?_
 refine WP.seq<|WP.reg<|WL.e Zb'<|WL.next<|WP.seq<|WP.reg ?_
 refine WL.h (YN' (ek:=eU32) fun m=>?_)
 refine WL.e (Zv' z176 p176 (.o (.tmp 1) rfl<|.n)) ?_
 refine WL.h (ZL' fun b1=>?_)
 refine WL.e Zb'<|WL.next<|WP.ret<|PO.conv (fun S h=>Zbu_ (κ:=UInt32) (E:=281) (z:=3) (enc:=LockM.c) h) ?_
 refine PO.conv (fun S h=>Yt' (show List.map stE ([]:List (EntV UInt32 LockM))=[] from rfl) h) ?_
 refine PO.cls (A:=Lk b1 []) (B:=[pu (List.map stE ([])=[]),cl b1 176 [.map (some m)],Mp eU32 (.map (some m)) (List.map kvE ([])),Ents 281 3 LockM.c ([])]) (fun S h=>⟨(m,[]),h⟩) ?_
 exact PO.fin Tryz.results57 (Zd' Zf') (hK b1)
theorem V8' {g:World} {p:Nat} {L:LkT}:Spec Tryz.prog g 175 [.pointer (some ⟨p,0,none⟩)] [Lk p L] fun K R=>K (.bool true) (Lk p L::R):=by
 refine Spec.intro Tryz.func175 rfl Tryz.ntmps175 rfl fun R K hK=>?_
 refine WP.opn (ZdV_ (p:=p) (L:=L)) fun x=>?_
 obtain ⟨m,es⟩:=x
 dsimp only
 refine WP.pull (φ:=List.map stE es=L) (k:=fun hes=>?_)
 refine WP.seq<|WP.reg<|WL.e Zb'<|WL.next<|WP.seq<|WP.reg<|WL.e Za'<|WL.e (JX' ZoE_)<|WL.e Za' ?_
 refine WL.bool 5 rfl (fun h=>?_) (fun h=>?_)
 ·skip
  refine WL.e Za'<|WL.e Zk'<|WL.e (e_fa Q3')<|WL.e (Zc' a174)<|WL.e (Zb8_ Tryz.underlying174)<|WL.e Zn'<|WL.e Zb'<|WL.next<|WP.ret<|PO.conv (fun S h=>Yt' (show List.map stE (es)=L from hes) h) ?_
  refine PO.cls (A:=Lk p (L)) (B:=[pu (List.map stE (es)=L),cl p 176 [.map (some m)],Mp eU32 (.map (some m)) (List.map kvE (es)),Ents 281 3 LockM.c (es)]) (fun S h=>⟨(m,es),h⟩) ?_
  exact PO.fin Tryz.results175 (Zd' Zf') hK
 ·cases h 
theorem ZdH_ {g:World} (n:UInt32) (s:SpanM):Spec Tryz.prog g 176 [.int .u32 n.toNat,s.v] [] fun K R=>K (.bool (n != 0 && meet s s)) R:=by
 refine Spec.intro Tryz.func176 rfl Tryz.ntmps176 rfl fun R K hK=>?_
 refine WP.seq<|WP.reg ?_
 refine WL.h (ZL' fun b1=>?_)
 refine WL.e Zb'<|WL.next<|WP.seq<|WP.reg<|WL.e Za'<|WL.e (XE' (b:=0))<|WL.e Za' ?_
 refine WL.bool 7 rfl (fun h=>?_) (fun h=>?_)
 ·skip
  refine WL.e (Zm' a45)<|WL.e (Zm' a45) ?_
  refine WL.h (Zg' (Y8' ⟨_,_⟩ ⟨_,_⟩) k30 ?_)
  refine WL.e Zn'<|WL.e Zb'<|WL.next<|WP.ret ?_
  exact PO.finE Tryz.results176 (Zd' Zf') (by rw [show (n != 0)=true from h];rfl) hK
 ·skip
  refine WL.skip<|WL.skip<|WL.skip<|WL.e Zl'<|WL.e Zb'<|WL.next<|WP.ret ?_
  exact PO.finE Tryz.results176 (Zd' Zf') (by rw [show (n != 0)=false from h];rfl) hK
theorem Zco_ {g:World} {p:Nat} {L:LkT} (n:UInt32):Spec Tryz.prog g 172 [.pointer (some ⟨p,0,none⟩),.int .u32 n.toNat] [Lk p L] fun K R=>∀ k:Nat,K (.int .i64 k) (Lk p (Xn' L n)::R):=by
 refine Spec.intro Tryz.func172 rfl Tryz.ntmps172 rfl fun R K hK=>?_
 refine WP.seq<|WP.reg<|WL.e Zb'<|WL.next<|WP.seq<|WP.seq<|WP.reg<|WL.e Za' ?_
 refine WL.h (Zg' (V8') k175 ?_)
 refine WL.e Zx'<|WL.next<|WP.cond_f rfl<|WP.opn (ZdV_ (p:=p) (L:=L)) fun x=>?_
 obtain ⟨m,es⟩:=x
 dsimp only
 refine WP.pull (φ:=List.map stE es=L) (k:=fun hes=>?_)
 refine WP.skip<|PO.next<|WP.seq<|WP.reg<|WL.e Za'<|WL.e Zk'<|WL.e (e_fa Q3')<|WL.e (Zc' a174)<|WL.e Za'<|WL.e (Un' (k:=n) (es:=es) Tryz.underlying174 (ZQ' Tryz.underlying24) ZmB_)<|WL.e (ZD' (xs:=wsE es n) QK' (Q2' n))<|WL.e Zb'<|WL.next<|WP.seq<|WP.reg<|WL.e Za'<|WL.e Zk'<|WL.e (e_fa Q3')<|WL.e (Zc' a174)<|WL.e Za' ?_
 refine WL.h' (Jg' (k:=n) (kvs:=List.map kvE es) Tryz.underlying174 (ZQ' Tryz.underlying24) ?_)
 rw [ZlG_]
 refine WL.next<|WP.seq<|WP.reg<|WL.e Za'<|WL.e Zb'<|WL.next<|WP.ret<|PO.conv (YS' (A:=Ents 281 3 LockM.c (es)) (B:=Ents 281 3 LockM.c (delE es n)) (fun S h=>ZlH_ h) (by repeat first | exact .z | apply Put.s)) ?_
 refine PO.conv (fun S h=>Yt' (show List.map stE (delE es n)=Xn' L n from (by rw [Znd_,hes])) h) ?_
 refine PO.cls (A:=Lk p (Xn' L n)) (B:=[pu (List.map stE (delE es n)=Xn' L n),cl p 176 [.map (some m)],Mp eU32 (.map (some m)) (List.map kvE (delE es n)),Ents 281 3 LockM.c (delE es n)]) (fun S h=>⟨(m,delE es n),h⟩) ?_
 exact PO.fin Tryz.results172 (Zd' Zf') (hK _)
theorem Zf7_ {g:World} {A B:HP} {u y:Value} {xs:List (LockM)} {p:LockM→Bool} (hA:RL A 3 LockM.c u xs) (hn:xs.length≤68719476736) (hy:∀ x,CallV Tryz.prog g y [.agg (LockM.c x).toArray] [B] fun K R=>K (.bool (p x)) (B::R)) :
  Spec Tryz.prog g 178 [u,y] [A,B] fun K R=>K (.int .i64 (if xs.any p then (xs.findIdx p:Nat) else -1)) (A::B::R):=by
 refine Spec.intro Tryz.func178 rfl Tryz.ntmps178 rfl fun R K hK=>?_
 refine WP.seq<|WP.reg<|WL.e Zb'<|WL.next<|WP.seq<|WP.seq<|WP.reg<|WL.e Za'<|WL.e (ZD' QK' hA)<|WL.e Za'<|WL.next<|WP.block<|WP.loopK (fun (i:Nat)=>[(8,.int .i64 i)]) (fun (i:Nat)=>A::B::R) [(0,_),(1,_),(7,_)] (fun (i:Nat)=>i≤xs.length∧(xs.take i).any p=false) (fun (i:Nat)=>xs.length - i) 0 (⟨Nat.zero_le _,by simp⟩) ?_
 rintro i ⟨h1,h2⟩
 refine WP.seq<|WP.reg<|WL.e Z3'<|WL.next<|WP.seq ?_
 refine WP.cond rfl (fun h3=>?_) (fun h3=>?_)
 ·have hlt:i < xs.length:=by rw [decide_eq_true_eq] at h3;omega
  obtain ⟨x,hx⟩:∃ x,xs[i]?=some x:=⟨_,List.getElem?_eq_getElem hlt⟩
  refine WP.skip<|PO.next<|WP.seq<|WP.block<|WP.seq<|WP.reg<|WL.e Za'<|WL.e Zb'<|WL.next<|WP.seq<|WP.reg<|WL.e Za'<|WL.e Za'<|WL.e Za'<|WL.e (ZZ' QK' hA hlt)<|WL.e (YA' (vs:=LockM.c x) a281 VZ' hA hx (hv:=Zaf_ (VZ'.len x))) ?_
  refine WL.h (YE' (hy x) ?_)
  refine WL.next ?_
  refine WP.cond rfl (fun h4=>?_) (fun h4=>?_)
  ·skip
   refine WP.seq<|WP.reg<|WL.e Za'<|WL.e Zb'<|WL.next<|WP.ret<|PO.blockR<|PO.past nofun<|PO.round nofun<|PO.blockR<|PO.past nofun ?_
   exact PO.finE Tryz.results178 (Zd' Zf') (by rw [Vw' h2 hx h4];rfl) hK
  ·skip
   refine WP.skip<|PO.blockN<|PO.next<|WP.reg<|WL.e (ZE' rfl rfl (Zt' (by omega) (by omega)))<|WL.e Za'<|WL.nil ?_
   exact PO.againK (i+1) ⟨by omega,by rw [ZA' hx,List.any_append,h2];simp [h4]⟩ (by omega)
 ·have hall:xs.any p=false:=by rw [decide_eq_false_iff_not] at h3;rwa [List.take_of_length_le (by omega)] at h2
  refine WP.exit<|PO.past nofun<|PO.round nofun<|PO.blockX<|PO.next<|WP.seq<|WP.reg<|WL.e Zb'<|WL.next<|WP.ret ?_
  exact PO.finE Tryz.results178 (Zd' Zf') (by rw [hall];rfl) hK
theorem Zj1_ {g:World} {q:Nat} (l:LockM) (s:SpanM):Spec Tryz.prog g 179 [.agg (LockM.c l).toArray,.pointer (some ⟨q,0,none⟩)] [cl q 45 (SpanM.c s)] fun K R=>K (.bool (eqS l.s s)) (cl q 45 (SpanM.c s)::R):=by
 refine Spec.intro Tryz.func179 rfl Tryz.ntmps179 rfl fun R K hK=>?_
 refine WP.seq<|WP.reg ?_
 refine WL.h (ZL' fun b1=>?_)
 refine WL.e Zb'<|WL.next<|WP.seq<|WP.reg<|WL.e (e_fa Zfd_)<|WL.e (Zm' a45)<|WL.e (Zm' a45)<|WL.e (Zne_ (a:=l.s) (b:=s) Tryz.underlying45 Tryz.underlying9 a9 ZjZ_ Znf_ rfl rfl)<|WL.e Zb'<|WL.next<|WP.ret ?_
 exact PO.fin Tryz.results179 (Zd' Zf') hK
end Go.SL
set_option linter.unusedSectionVars false
namespace Go.SL
open Go
abbrev ZaU_ (xs:List UInt32):Prop:=xs.Pairwise fun x y=>x≤y
abbrev Ju' (xs:List UInt32):Prop:=xs.Pairwise fun x y=>x < y
theorem Vi' {xs:List UInt32} (h:ZaU_ xs) {i j:Nat} {a b:UInt32} (hij:i≤j) (ha:xs[i]?=some a) (hb:xs[j]?=some b):a≤b:=by
  rcases Nat.lt_or_ge i j with hlt | hge
  · have h1:=Yf' ha
    have h2:=Yf' hb
    have:=List.pairwise_iff_getElem.1 h i j h1 h2 hlt
    rw [List.getElem?_eq_getElem h1] at ha
    rw [List.getElem?_eq_getElem h2] at hb
    cases ha;cases hb;exact this
  · obtain rfl:i=j:=by omega
    rw [ha] at hb;cases hb;exact UInt32.le_refl _
structure CmpI (xs ds:List UInt32) (i c:Nat):Prop where
  len:ds.length=xs.length
  i1:1≤i
  ic:i≤c
  cn:c≤xs.length
  str:Ju' (ds.take i)
  mem:∀ x,x ∈ ds.take i↔x ∈ xs.take c
  rest:∀ j,c - 1≤j→ds[j]?=xs[j]?
  last:ds[i - 1]?=xs[c - 1]?
theorem CmpI.start {xs:List UInt32} {i:Nat} (h:Ju' (xs.take i)) (h1:1≤i) {a:UInt32} (ha:xs[i]?=some a) (hb:xs[i - 1]?=some a):CmpI xs xs i (i+1):=by
  have:=Yf' ha
  refine ⟨rfl,h1,Nat.le_succ _,by omega,h,fun x=>?_,fun _ _=>rfl,by rw [hb,Nat.add_sub_cancel,ha]⟩
  rw [ZA' ha,List.mem_append]
  constructor
  · exact .inl
  · rintro (h | h)
    · exact h
    · simp at h;subst h
      exact List.mem_of_getElem? (i:=i - 1) (by rw [List.getElem?_take_of_lt (by omega)];exact hb)
theorem CmpI.same {xs ds:List UInt32} {i c:Nat} (h:CmpI xs ds i c) {a:UInt32} (ha:xs[c]?=some a) (hb:xs[c - 1]?=some a):CmpI xs ds i (c+1):=by
  have:=Yf' ha
  have:=h.i1;have:=h.ic
  refine ⟨h.len,h.i1,by omega,by omega,h.str,fun x=>?_,fun j hj=>h.rest j (by omega),by rw [h.last,hb,Nat.add_sub_cancel,ha]⟩
  rw [h.mem,ZA' ha,List.mem_append]
  constructor
  · exact .inl
  · rintro (h2 | h2)
    · exact h2
    · simp at h2;subst h2
      exact List.mem_of_getElem? (i:=c - 1) (by rw [List.getElem?_take_of_lt (by omega)];exact hb)
theorem CmpI.put {xs ds:List UInt32} (hs:ZaU_ xs) {i c:Nat} (h:CmpI xs ds i c) {a b:UInt32} (ha:xs[c]?=some a) (hb:xs[c - 1]?=some b) (hne:a≠b):CmpI xs (ds.set i a) (i+1) (c+1):=by
  have hc:=Yf' ha
  have h1:=h.i1;have h2:=h.ic;have h3:=h.len
  have hba:b < a:=UInt32.lt_of_le_of_ne (Vi' hs (Nat.sub_le _ _) hb ha) (fun e=>hne e.symm)
  have ht:(ds.set i a).take (i+1)=ds.take i++[a]:=by
    rw [ZA' (List.getElem?_set_self (by omega)),List.take_set_of_le (Nat.le_refl _)]
  refine ⟨by rw [List.length_set];exact h3,by omega,by omega,by omega,?_,fun x=>?_,fun j hj=>?_,?_⟩
  · rw [ht,Ju',List.pairwise_append]
    refine ⟨h.str,by simp,fun x hx y hy=>?_⟩
    simp at hy;subst hy
    have hx2:=(h.mem x).1 hx
    obtain ⟨j,hj⟩:=List.mem_iff_getElem?.1 hx2
    have hjc:j < c:=by have:=Yf' hj;simp at this;omega
    rw [List.getElem?_take_of_lt hjc] at hj
    have:=Vi' hs (show j≤c - 1 by omega) hj hb
    exact UInt32.lt_of_le_of_lt this hba
  · rw [ht,ZA' ha,List.mem_append,List.mem_append,h.mem]
  · by_cases e:i=j
    · subst e
      have:i=c:=by omega
      subst this
      rw [List.getElem?_set_self (by omega),ha]
    · rw [List.getElem?_set_ne e];exact h.rest j (by omega)
  · rw [Nat.add_sub_cancel,Nat.add_sub_cancel,List.getElem?_set_self (by omega),ha]
theorem Zf8_ {xs:List UInt32} (hs:ZaU_ xs) {i:Nat} (h:Ju' (xs.take i)) (h1:1≤i) {a b:UInt32} (ha:xs[i]?=some a) (hb:xs[i - 1]?=some b) (hne:a≠b):Ju' (xs.take (i+1)):=by
  have hba:b < a:=UInt32.lt_of_le_of_ne (Vi' hs (Nat.sub_le _ _) hb ha) (fun e=>hne e.symm)
  rw [ZA' ha,Ju',List.pairwise_append]
  refine ⟨h,by simp,fun x hx y hy=>?_⟩
  simp at hy;subst hy
  obtain ⟨j,hj⟩:=List.mem_iff_getElem?.1 hx
  have hjc:j < i:=by have:=Yf' hj;simp at this;omega
  rw [List.getElem?_take_of_lt hjc] at hj
  exact UInt32.lt_of_le_of_lt (Vi' hs (show j≤i - 1 by omega) hj hb) hba
def blkL (n:UInt32) (e:EntV UInt32 LockM) (k:Nat):List (UInt32 × LockM):=if e.key=n then [] else (e.ws.take k).map fun l=>(e.key,l)
def lkC (x:UInt32 × LockM):List Value:=[.int .u32 x.1.toNat,.agg (LockM.c x.2).toArray]
theorem Zng_ (n:UInt32) (e:EntV UInt32 LockM):blkL n e e.ws.length=if e.key=n then [] else e.ws.map fun l=>(e.key,l):=by unfold blkL;rw [List.take_length]
theorem Zfe_ {n:UInt32} {e:EntV UInt32 LockM} (hne:e.key≠n) {k:Nat} {l:LockM} (hl:e.ws[k]?=some l):blkL n e (k+1)=blkL n e k++[(e.key,l)]:=by
  unfold blkL;rw [if_neg hne,if_neg hne,ZA' hl,List.map_append];rfl
theorem ZlI_ {n:UInt32} {e:EntV UInt32 LockM} (he:e.key=n) (k j:Nat):blkL n e k=blkL n e j:=by unfold blkL;rw [if_pos he,if_pos he]
theorem Zf9_ {n:UInt32} {es A B:List (EntV UInt32 LockM)} {e:EntV UInt32 LockM} {pre:List (UInt32 × LockM)} {left:List (EntV UInt32 LockM)} (h:(pre++YK' n left).Perm (YK' n es)) (hl:left=A++e::B):(pre++(blkL n e e.ws.length++YK' n (A++B))).Perm (YK' n es):=by
  refine List.Perm.trans ?_ h
  rw [hl,Zh8_,Zh9_,Zng_]
  exact List.Perm.append_left _ (List.perm_append_comm_assoc _ _ _)
theorem Zcp_ {n:UInt32} {e:EntV UInt32 LockM} (hne:e.key≠n) {pre Z W:List (UInt32 × LockM)} (h:(pre++(blkL n e e.ws.length++Z)).Perm W) {k:Nat} {l:LockM} (hl:e.ws[k]?=some l):∃ r,(pre++blkL n e k++[(e.key,l)]++r).Perm W:=by
  refine ⟨((e.ws.drop (k+1)).map fun l=>(e.key,l))++Z,?_⟩
  refine List.Perm.trans (List.Perm.of_eq ?_) h
  have h1:e.ws=e.ws.take (k+1)++e.ws.drop (k+1):=(List.take_append_drop _ _).symm
  have h2:blkL n e e.ws.length=blkL n e (k+1)++(e.ws.drop (k+1)).map fun l=>(e.key,l):=by
    unfold blkL;rw [if_neg hne,if_neg hne,List.take_length,← List.map_append,List.take_append_drop]
  rw [h2,Zfe_ hne hl]
  simp [List.append_assoc]
def inW (w:Bool) (p:SpanM) (x:UInt32 × LockM):Bool:=(w || x.2.alone) && meet x.2.s p
theorem Zod_ {L:LkT} (hk:(L.map (·.1)).Nodup) {n:UInt32} {p:SpanM} {w:Bool} {es:List (EntV UInt32 LockM)} (hes:es.map stE=L) {xs:List (UInt32 × LockM)} (hx:xs.Perm (YK' n es)) {ys zs:List UInt32} (hy:ys.Perm ((xs.filter (inW w p)).map (·.1))) (hz:Ju' zs) (hm:∀ x,x ∈ zs↔x ∈ ys):zs=wayL L n p w:=by
  refine ZjY_ hz (Zib_ hk n p w) fun k=>?_
  rw [hm,hy.mem_iff,ZcY_,List.mem_map]
  constructor
  · rintro ⟨⟨k',l⟩,h,rfl⟩
    obtain ⟨h1,h2⟩:=List.mem_filter.1 h
    obtain ⟨h3,ls,h4,h5⟩:=Zcn_.1 (hx.mem_iff.1 h1)
    rw [hes] at h4
    simp only [inW,Bool.and_eq_true] at h2
    exact ⟨h3,ls,h4,l,h5,h2.1,h2.2⟩
  · rintro ⟨h1,ls,h2,l,h3,h4,h5⟩
    exact ⟨(k,l),List.mem_filter.2 ⟨hx.mem_iff.2 (Zcn_.2 ⟨h1,ls,by rw [hes];exact h2,h3⟩),by simp only [inW,Bool.and_eq_true];exact ⟨h4,h5⟩⟩,rfl⟩
theorem Zff_ {w:Bool} {p:SpanM} {pre:List (UInt32 × LockM)} {x:UInt32 × LockM} (h:inW w p x=true):((pre++[x]).filter (inW w p)).map (·.1)=(pre.filter (inW w p)).map (·.1)++[x.1]:=by
  rw [List.filter_append,List.map_append];simp [h]
theorem ZbE_ {w:Bool} {p:SpanM} {pre:List (UInt32 × LockM)} {x:UInt32 × LockM} (h:inW w p x=false):((pre++[x]).filter (inW w p)).map (·.1)=(pre.filter (inW w p)).map (·.1):=by
  rw [List.filter_append,List.map_append];simp [h]
theorem Zoe_ {ws:List LockM} {p:SpanM} {w:Bool} (h:ws.any (fun l=>eqS l.s p)=false):askL ws p w=ws++[⟨p,w⟩]:=by
  unfold askL
  rw [List.findIdx?_eq_none_iff.2 (fun x hx=>by have:=List.any_eq_false.1 h x hx;simpa using this)]
theorem Znh_ {ws:List LockM} {p:SpanM} {w:Bool} (h:ws.any (fun l=>eqS l.s p)=true):∃ i l,ws.findIdx (fun l=>eqS l.s p)=i∧ws[i]?=some l∧l.s=p∧askL ws p w=ws.set i ⟨p,l.alone || w⟩:=by
  have hlt:ws.findIdx (fun l=>eqS l.s p) < ws.length:=by
    obtain ⟨x,h1,h2⟩:=List.any_eq_true.1 h
    exact List.findIdx_lt_length_of_exists ⟨x,h1,h2⟩
  have hi:ws.findIdx? (fun l=>eqS l.s p)=some (ws.findIdx fun l=>eqS l.s p):=List.findIdx?_eq_some_of_exists (by
    obtain ⟨x,h1,h2⟩:=List.any_eq_true.1 h
    exact ⟨x,h1,h2⟩)
  obtain ⟨l,hl,hs⟩:=UK' hi
  refine ⟨_,l,rfl,hl,hs,?_⟩
  unfold askL
  rw [hi]
  simp only [hl]
theorem ZbF_ {L:LkT} {es:List (EntV UInt32 LockM)} (hes:es.map stE=L) (n:UInt32) (p:SpanM) (w:Bool) (sv:SV):(setE es n sv (askL (wsE es n) p w)).map stE=Y2' L n p w:=by
  rw [ZcT_,hes,Y2',Zah_,hes]
theorem Zg1_ {es:List (EntV UInt32 LockM)} {n:UInt32} {i:Nat} {l:LockM} (h:(wsE es n)[i]?=some l) (ws:List LockM):es.map kvE=(setE es n (svE es n) ws).map kvE:=by
  cases hf:YM' es n with
  | none=>rw [ZbD_ hf] at h;cases h
  | some e=>
    obtain ⟨A,B,h1,_,h2⟩:=VR' hf
    have hk:=(VQ' hf).2
    have hsv:svE es n=e.sv:=by unfold svE;rw [hf]
    rw [h2,hsv]
    conv=>lhs;rw [h1]
    simp only [List.map_append,List.map_cons,kvE,hk]
def edC (x:UInt32 × UInt32):List Value:=[.int .u32 x.1.toNat,.int .u32 x.2.toNat]
theorem edE:EncOk 2 edC:=⟨fun _=>rfl,fun _=>rfl⟩
def edT (ts:List TxT) (n:UInt32) (t:TxT) (k:Nat):List (UInt32 × UInt32):=if t.id=n then [] else ((t.x.waits.take k).filter fun w=>(Zs' ts w).isSome).map fun w=>(t.id,w)
def edW (ts:List TxT) (n:UInt32) (left:List TxT):List (UInt32 × UInt32):=left.flatMap fun t=>edT ts n t t.x.waits.length
theorem Zg2_ (ts:List TxT) (n:UInt32):edW ts n ts=Kx' ts n:=by
  unfold edW Kx' edT
  simp only [List.take_length]
theorem Zg3_ {ts:List TxT} {n:UInt32} {b:Nat}:∀ {left:List TxT},(∀ t ∈ left,t.x.waits.length≤b)→(edW ts n left).length≤left.length * b
  | [],_=>by simp [edW]
  | t::left,h=>by
    have ih:=Zg3_ (ts:=ts) (n:=n) (left:=left) fun t ht=>h t (by simp [ht])
    have h1:=h t (by simp)
    have h2:(edT ts n t t.x.waits.length).length≤t.x.waits.length:=by
      unfold edT
      split
      · simp
      · rw [List.length_map];exact Nat.le_trans (List.length_filter_le _ _) (by simp)
    unfold edW at ih ⊢
    rw [List.flatMap_cons,List.length_append,List.length_cons,Nat.add_mul,Nat.one_mul];omega
theorem ZlJ_ {ts A B left:List TxT} {n:UInt32} {t:TxT} {l:List (UInt32 × UInt32)} {W:List (UInt32 × UInt32)} (h:(l++edW ts n left).Perm W) (hl:left=A++t::B):(l++(edT ts n t t.x.waits.length++edW ts n (A++B))).Perm W:=by
  refine List.Perm.trans ?_ h
  rw [hl]
  unfold edW
  rw [List.flatMap_append,List.flatMap_append,List.flatMap_cons]
  exact List.Perm.append_left _ (List.perm_append_comm_assoc _ _ _)
theorem Zni_ {ts:List TxT} {n:UInt32} {t:TxT} (hne:t.id≠n) {k:Nat} {w:UInt32} (hw:t.x.waits[k]?=some w) (hs:(Zs' ts w).isSome=true):edT ts n t (k+1)=edT ts n t k++[(t.id,w)]:=by
  unfold edT
  rw [if_neg hne,if_neg hne,ZA' hw,List.filter_append,List.map_append]
  simp [hs]
theorem Zj2_ {ts:List TxT} {n:UInt32} {t:TxT} {k:Nat} {w:UInt32} (hw:t.x.waits[k]?=some w) (hs:t.id=n∨(Zs' ts w).isSome=false):edT ts n t (k+1)=edT ts n t k:=by
  unfold edT
  split
  · rfl
  · rename_i hne
    have hs:=hs.resolve_left hne
    rw [ZA' hw,List.filter_append,List.map_append]
    simp [hs]
theorem Zof_ {ts A B:List TxT} {n:UInt32} {t:TxT} {l W:List (UInt32 × UInt32)} {k:Nat} (h:(l++(edT ts n t t.x.waits.length++edW ts n (A++B))).Perm W):(l++edT ts n t k).length≤W.length:=by
  rw [← h.length_eq]
  have:(edT ts n t k).length≤(edT ts n t t.x.waits.length).length:=by
    unfold edT
    split
    · simp
    · rw [List.length_map,List.length_map,List.take_length]
      exact (List.Sublist.filter _ (List.take_sublist _ _)).length_le
  simp only [List.length_append];omega
theorem ZlK_ {l W:List (UInt32 × UInt32)} (h:l.Perm W) (a b:UInt32):Reach (KJ' (l.map (·.1)) (l.map (·.2)) (l.map (·.1)).length) a b↔Reach (fun x y=>(x,y) ∈ W) a b:=by
  have hR:∀ x y,KJ' (l.map (·.1)) (l.map (·.2)) (l.map (·.1)).length x y↔(x,y) ∈ W:=fun x y=>by
    rw [← h.mem_iff]
    constructor
    · rintro ⟨j,_,h1,h2⟩
      rw [List.getElem?_map,Option.map_eq_some_iff] at h1 h2
      obtain ⟨p,h3,rfl⟩:=h1
      obtain ⟨q,h4,rfl⟩:=h2
      rw [h3] at h4;cases h4
      exact List.mem_of_getElem? h3
    · intro h1
      obtain ⟨j,hj⟩:=List.mem_iff_getElem?.1 h1
      exact ⟨j,by rw [List.length_map];exact Yf' hj,by rw [List.getElem?_map,hj];rfl,by rw [List.getElem?_map,hj];rfl⟩
  constructor
  · intro h1
    induction h1 with
    | refl=>exact .refl
    | tail _ h2 ih=>exact ih.tail ((hR _ _).1 h2)
  · intro h1
    induction h1 with
    | refl=>exact .refl
    | tail _ h2 ih=>exact ih.tail ((hR _ _).2 h2)
open Classical in
theorem ZlL_ {ts:List TxT} {n:UInt32} {way:List UInt32} {p:UInt32→Bool} (h:∀ w,p w=true↔Reach (fun x y=>(x,y) ∈ Kx' ts n) w n):way.any p=Vh' ts n way:=by
  unfold Vh'
  rw [Bool.eq_iff_iff,List.any_eq_true,decide_eq_true_iff]
  constructor
  · rintro ⟨w,h1,h2⟩;exact ⟨w,h1,(h w).1 h2⟩
  · rintro ⟨w,h1,h2⟩;exact ⟨w,h1,(h w).2 h2⟩
section
variable {P : Program} {r : Option Nat} {g : World} {Γ : Env} {L M : List HP} {dst : Option Tmp} {t : TypeId} {pos : String} {aft : Array Edge} {gd : Option (Nat × Bool)}
theorem ZlM_ {σ:Type} {x i:Operand} {T e kt:TypeId} {d:TypeDesc} {n:UInt32} {ts:List (TxU UInt32 σ)} {m:Value} {it:Value} {left:List (UInt32 × Value)} {cur:Option (UInt32 × Value)} (ht:P.underlying T=some (.map kt e)) (hk:KeyOk P kt d eU32) (hz:(P.info? e).bind (·.zero)=some (.pointer none)) (hx:ev Γ x=some m:=by rfl) (hi:ev Γ i=some (.int .u32 n.toNat):=by rfl) (hp:Pick L (MpIt eU32 m it (List.map kvU ts) left cur) M:=by repeat first | exact .z | apply Pick.s) :
    EO P g ⟨dst,.lookup T x i false,t,pos,aft,gd⟩ Γ L (.pointer ((Zs' ts n).map fun t=>⟨t.q,0,none⟩)):=by
  have h:=VP' (g:=g) (L:=L) (dst:=dst) (t:=t) (pos:=pos) (aft:=aft) (gd:=gd) (x:=x) (i:=i) (k:=n) ht hk hz ZeB_ hx hi hp
  rw [Zbv_] at h
  cases hf:Zs' ts n with
  | none=>rw [hf] at h;exact h
  | some t=>rw [hf] at h;exact h
end
end Go.SL
namespace Go.SL.Fc
open Go Go.Proofs Go.SL
theorem k113:Zh' Tryz.prog 113=true:=by kernel_rfl
theorem k116:Zh' Tryz.prog 116=true:=by kernel_rfl
theorem k117:Zh' Tryz.prog 117=true:=by kernel_rfl
theorem k118:Zh' Tryz.prog 118=true:=by kernel_rfl
theorem k126:Zh' Tryz.prog 126=true:=by kernel_rfl
theorem k91:Zh' Tryz.prog 91=true:=by kernel_rfl
theorem z3:ZH' Tryz.prog 3=some [.int .i64 0]:=by kernel_rfl
end Go.SL.Fc
namespace Go.SL
open Go Go.Proofs Fc
open Go.Sort
theorem Zfg_ {g:World} (x:UInt32):Spec Tryz.prog g 118 [.int .u32 x.toNat] [] fun K R=>K (.bool false) R:=by
 refine Spec.intro Tryz.func118 rfl Tryz.ntmps118 rfl fun R K hK=>?_
 refine WP.seq<|WP.reg<|WL.e Zb'<|WL.next<|WP.seq<|WP.reg<|WL.e Za'<|WL.e Za'<|WL.e (XE')<|WL.e Zb'<|WL.next<|WP.ret ?_
 exact PO.finE Tryz.results118 (Zd' Zf') (by simp) hK
theorem Yy' {g:World} (x y:UInt32):Spec Tryz.prog g 91 [.int .u32 x.toNat,.int .u32 y.toNat] [] fun K R=>K (.bool (lt32 x y)) R:=by
 refine Spec.intro Tryz.func91 rfl Tryz.ntmps91 rfl fun R K hK=>?_
 refine WP.seq<|WP.reg<|WL.e Zb'<|WL.next<|WP.seq<|WP.reg<|WL.e Za' ?_
 refine WL.h (Zg' (Zfg_ _) k118 ?_)
 refine WL.e Za' ?_
 refine WL.bool 7 rfl (fun h=>?_) (fun h=>?_)
 ·cases h 
 ·skip
  refine WL.skip<|WL.skip<|WL.skip<|WL.e Zl'<|WL.e Za'<|WL.e Za'<|WL.e Za'<|WL.e (Uf')<|WL.e Zl'<|WL.e Zb'<|WL.next<|WP.ret ?_
  exact PO.fin Tryz.results91 (Zd' Zf') hK
theorem Zid_ {g:World} {u:Value} (d:Array UInt32) (a b:Nat) (hb:b≤d.size) (ha:a≤d.size) (hn:d.size≤68719476736):Spec Tryz.prog g 85 [u,.int .i64 a,.int .i64 b] [Sl 24 1 u32C u (d).toList] fun K R=>K (.tuple #[]) (Sl 24 1 u32C u (insertionSort lt32 d a b).toList::R):=by
 refine Spec.intro Tryz.func85 rfl Tryz.ntmps85 rfl fun R K hK=>?_
 refine WP.seq<|WP.reg<|WL.e Za'<|WL.e (ZF' (b:=1))<|WL.e Zb'<|WL.next<|WP.block<|WP.loopK (fun (x:Nat × Array UInt32)=>[(6,.int .i64 x.1)]) (fun (x:Nat × Array UInt32)=>Sl 24 1 u32C u (x.2).toList::R) [(0,_),(1,_),(2,_)] (fun (x:Nat × Array UInt32)=>x.2.size=d.size∧a < x.1∧(x.1≤a+1∨x.1≤b)∧insOuter lt32 a b x.1 x.2=insertionSort lt32 d a b) (fun (x:Nat × Array UInt32)=>b - x.1) (a+1,d) (⟨rfl,by simp only;omega,by simp only;omega,rfl⟩) ?_
 rintro ⟨i,d1⟩ ⟨hs,hi1,hi2,he⟩
 simp only at hs hi1 hi2 he
 dsimp only
 refine WP.seq<|WP.seq<|WP.reg<|WL.e Za'<|WL.e Za'<|WL.e Z3'<|WL.next ?_
 refine WP.cond rfl (fun h1=>?_) (fun h1=>?_)
 ·replace h1:i < b:=by rw [decide_eq_true_eq] at h1;omega
  refine WP.skip<|PO.next<|WP.seq<|WP.block<|WP.seq<|WP.reg<|WL.e Za'<|WL.e Zb'<|WL.next<|WP.block<|WP.loopK (fun (x:Nat × Array UInt32)=>[(7,.int .i64 x.1)]) (fun (x:Nat × Array UInt32)=>Sl 24 1 u32C u (x.2).toList::R) [(0,_),(1,_),(2,_),(6,_),(10,_),(11,_),(12,_),(15,_)] (fun (x:Nat × Array UInt32)=>x.2.size=d.size∧a≤x.1∧x.1≤i∧insInner lt32 a x.1 x.2=insInner lt32 a i d1) (fun (x:Nat × Array UInt32)=>x.1) (i,d1) (⟨hs,by simp only;omega,Nat.le_refl _,rfl⟩) ?_
  rintro ⟨j,d2⟩ ⟨hs2,hj1,hj2,he2⟩
  simp only at hs2 hj1 hj2 he2
  dsimp only
  refine WP.seq<|WP.seq<|WP.draws Zq' 15<|RW.e 0 rfl Za'<|RW.e 1 rfl Za'<|RW.e 2 rfl YY'<|RW.e 3 rfl Za' ?_
  refine RW.bool 19 rfl (fun g=>?_) (fun g=>?_)
  ·have hgj:a < j:=by rw [decide_eq_true_eq] at g;omega
   refine RW.e 4 rfl Za'<|RW.e 5 rfl Za'<|RW.e 6 rfl (Zy' sl36)<|RW.e 7 rfl (Zz' a24)<|RW.e 8 rfl Za'<|RW.e 9 rfl Za'<|RW.e 10 rfl (ZX' (b:=1))<|RW.e 11 rfl (Zy' sl36)<|RW.e 12 rfl (Zz' a24) ?_
   refine RW.any (is:=[13]) rfl ⟨?_,trivial⟩
   refine RWat.h rfl rfl rfl ?_
   refine (Zg' (Yy' _ _) k91 ?_)
   refine ⟨trivial,?_⟩
   refine RW.e 14 rfl Zn'<|RW.done<|PO.next ?_
   refine WP.cond rfl (fun h3=>?_) (fun h3=>?_)
   ·skip
    refine WP.skip<|PO.next<|WP.seq<|WP.block<|WP.draws Zq' 18<|RW.e 0 rfl Za'<|RW.e 1 rfl Za'<|RW.e 2 rfl Za'<|RW.e 3 rfl Za'<|RW.e 4 rfl (ZX' (b:=1))<|RW.e 5 rfl Za'<|RW.e 6 rfl Za'<|RW.e 7 rfl (ZX' (b:=1))<|RW.e 8 rfl (Zy' sl36)<|RW.e 9 rfl (Zz' a24)<|RW.e 10 rfl Za'<|RW.e 11 rfl Za'<|RW.e 12 rfl (Zy' sl36)<|RW.e 13 rfl (Zz' a24)<|RW.e 14 rfl (Zy' sl36) ?_
    refine RW.any (is:=[15]) rfl ⟨?_,trivial⟩
    refine RWat.h' rfl rfl rfl ?_
    refine (ZY' s24 ?_)
    refine ⟨⟨⟨_,rfl,.inl ⟨rfl,(ZX' (b:=1))⟩⟩,⟨_,rfl,.inl ⟨rfl,Za'⟩⟩,⟨_,rfl,.inl ⟨rfl,Za'⟩⟩,trivial⟩,?_⟩
    refine RW.e 16 rfl (Zy' sl36) ?_
    refine RW.any (is:=[17]) rfl ⟨?_,trivial⟩
    refine RWat.h' rfl rfl rfl ?_
    refine (ZY' s24 ?_)
    refine ⟨trivial,?_⟩
    refine RW.done<|PO.blockN<|PO.next<|WP.reg<|WL.e Za'<|WL.e (ZX' (b:=1))<|WL.e Zb'<|WL.nil ?_
    exact PO.againK (j - 1,swp d2 j (j - 1)) ⟨by simp only [Yv'];omega,by simp only;omega,by simp only;omega,by simp only;rw [← he2,ZlB_ hgj h3]⟩ (by simp only;omega)
   ·skip
    refine WP.exit<|PO.past nofun<|PO.round nofun<|PO.blockX<|PO.blockN<|PO.next<|WP.reg<|WL.e Za'<|WL.e (ZF' (b:=1))<|WL.e Zb'<|WL.nil ?_
    exact PO.againK (i+1,d2) ⟨by simp only;omega,by simp only;omega,by simp only;omega,by simp only;rw [← he,ZdF_ h1,← he2,Ze7_ (fun _=>h3)]⟩ (by simp only;omega)
  ·have hgj:¬ a < j:=by rw [decide_eq_false_iff_not] at g;omega
   refine RW.skip 4 rfl<|RW.skip 5 rfl<|RW.skip 6 rfl<|RW.skip 7 rfl<|RW.skip 8 rfl<|RW.skip 9 rfl<|RW.skip 10 rfl<|RW.skip 11 rfl<|RW.skip 12 rfl<|RW.skip 13 rfl<|RW.e 14 rfl Zl'<|RW.done<|PO.next<|WP.cond_f rfl<|WP.exit<|PO.past nofun<|PO.round nofun<|PO.blockX<|PO.blockN<|PO.next<|WP.reg<|WL.e Za'<|WL.e (ZF' (b:=1))<|WL.e Zb' ?_
   refine WL.nil ?_
   exact PO.againK (i+1,d2) ⟨by simp only;omega,by simp only;omega,by simp only;omega,by simp only;rw [← he,ZdF_ h1,← he2,Ze7_ (fun hh=>absurd hh (by omega))]⟩ (by simp only;omega)
 ·replace h1:¬ i < b:=by rw [decide_eq_false_iff_not] at h1;omega
  refine WP.exit<|PO.past nofun<|PO.round nofun<|PO.blockX ?_
  rw [ZjR_ h1] at he
  rw [← he] at hK
  exact PO.fin Tryz.results85 Zf' hK
set_option maxHeartbeats 1000000 in
theorem Zbh_ {g:World} {u:Value} (d:Array UInt32) (root hi fs:Nat) (hb:fs+hi≤d.size) (hr:root≤d.size) (hn:d.size≤68719476736):Spec Tryz.prog g 113 [u,.int .i64 root,.int .i64 hi,.int .i64 fs] [Sl 24 1 u32C u (d).toList] fun K R=>K (.tuple #[]) (Sl 24 1 u32C u (siftDown lt32 hi fs root d).toList::R):=by
 refine Spec.intro Tryz.func113 rfl Tryz.ntmps113 rfl fun R K hK=>?_
 refine WP.seq<|WP.reg<|WL.e Za'<|WL.e Zb'<|WL.next<|WP.block<|WP.loopK (fun (x:Nat × Array UInt32)=>[(8,.int .i64 x.1)]) (fun (x:Nat × Array UInt32)=>Sl 24 1 u32C u (x.2).toList::R) [(0,_),(2,_),(3,_)] (fun (x:Nat × Array UInt32)=>x.2.size=d.size∧x.1≤d.size∧siftDown lt32 hi fs x.1 x.2=siftDown lt32 hi fs root d) (fun (x:Nat × Array UInt32)=>hi - x.1) (root,d) (⟨rfl,hr,rfl⟩) ?_
 rintro ⟨rt,d1⟩ ⟨hs,hr1,he⟩
 simp only at hs hr1 he
 dsimp only
 refine WP.block<|WP.seq<|WP.reg<|WL.e Za'<|WL.e (Ul' (a:=2))<|WL.e (ZF' (b:=1))<|WL.e Zb'<|WL.next<|WP.seq<|WP.seq<|WP.reg<|WL.e Za'<|WL.e Za'<|WL.e YD'<|WL.next ?_
 refine WP.cond rfl (fun h1=>?_) (fun h1=>?_)
 ·replace h1:2 * rt+1≥hi:=by rw [decide_eq_true_eq] at h1;omega
  refine WP.exit<|PO.past nofun<|PO.blockY rfl<|PO.round nofun<|PO.blockX ?_
  rw [Zc0_ h1] at he
  rw [← he] at hK
  exact PO.fin Tryz.results113 Zf' hK
 ·replace h1:¬ (2 * rt+1≥hi):=by rw [decide_eq_false_iff_not] at h1;omega
  refine WP.skip<|PO.next<|WP.seq<|WP.seq<|WP.draws Zq' 20<|RW.e 0 rfl Za'<|RW.e 1 rfl (ZF' (b:=1))<|RW.e 2 rfl Za'<|RW.e 3 rfl Z3'<|RW.e 4 rfl Za' ?_
  refine RW.bool 21 rfl (fun g=>?_) (fun g=>?_)
  ·replace g:2 * rt+1+1 < hi:=by rw [decide_eq_true_eq] at g;omega
   refine RW.e 5 rfl Za'<|RW.e 6 rfl Za'<|RW.e 7 rfl Za'<|RW.e 8 rfl (ZF')<|RW.e 9 rfl (Zy' sl36)<|RW.e 10 rfl (Zz' a24)<|RW.e 11 rfl Za'<|RW.e 12 rfl Za'<|RW.e 13 rfl Za'<|RW.e 14 rfl (ZF')<|RW.e 15 rfl (ZF' (b:=1))<|RW.e 16 rfl (Zy' sl36)<|RW.e 17 rfl (Zz' a24) ?_
   refine RW.any (is:=[18]) rfl ⟨?_,trivial⟩
   refine RWat.h rfl rfl rfl ?_
   refine (Zg' (Yy' _ _) k91 ?_)
   refine ⟨trivial,?_⟩
   refine RW.e 19 rfl Zn'<|RW.done<|PO.next ?_
   refine WP.cond rfl (fun h3=>?_) (fun h3=>?_)
   ·have hst:=sd_r h1 g h3
    refine WP.reg<|WL.e Za'<|WL.e (ZF' (b:=1))<|WL.e Zb'<|WL.next<|WP.seq<|WP.seq<|WP.draws Zq' 14<|RW.e 0 rfl Za'<|RW.e 1 rfl Za'<|RW.e 2 rfl Za'<|RW.e 3 rfl (ZF')<|RW.e 4 rfl (Zy' sl36)<|RW.e 5 rfl (Zz' a24)<|RW.e 6 rfl Za'<|RW.e 7 rfl Za'<|RW.e 8 rfl Za'<|RW.e 9 rfl (ZF')<|RW.e 10 rfl (Zy' sl36)<|RW.e 11 rfl (Zz' a24) ?_
    refine RW.any (is:=[12]) rfl ⟨?_,trivial⟩
    refine RWat.h rfl rfl rfl ?_
    refine (Zg' (Yy' _ _) k91 ?_)
    refine ⟨trivial,?_⟩
    refine RW.e 13 rfl Zx'<|RW.done<|PO.next ?_
    refine WP.cond rfl (fun h4=>?_) (fun h4=>?_)
    ·replace h4:=nt h4
     refine WP.ret<|PO.past nofun<|PO.blockR<|PO.round nofun<|PO.blockR ?_
     rw [show siftDown lt32 hi fs root d=d1 by rw [← he,hst,if_neg (by rw [h4];simp)]] at hK
     exact PO.fin Tryz.results113 Zf' hK
    ·replace h4:=nf h4
     refine WP.skip<|PO.next<|WP.seq<|WP.draws Zq' 24<|RW.e 0 rfl Za'<|RW.e 1 rfl Za'<|RW.e 2 rfl Za'<|RW.e 3 rfl (ZF')<|RW.e 4 rfl Za'<|RW.e 5 rfl Za'<|RW.e 6 rfl Za'<|RW.e 7 rfl (ZF')<|RW.e 8 rfl Za'<|RW.e 9 rfl Za'<|RW.e 10 rfl Za'<|RW.e 11 rfl (ZF')<|RW.e 12 rfl (Zy' sl36)<|RW.e 13 rfl (Zz' a24)<|RW.e 14 rfl Za'<|RW.e 15 rfl Za'<|RW.e 16 rfl Za'<|RW.e 17 rfl (ZF')<|RW.e 18 rfl (Zy' sl36)<|RW.e 19 rfl (Zz' a24) ?_
     refine RW.e 20 rfl (Zy' sl36) ?_
     refine RW.any (is:=[21]) rfl ⟨?_,trivial⟩
     refine RWat.h' rfl rfl rfl ?_
     refine (ZY' s24 ?_)
     refine ⟨⟨⟨_,rfl,.inl ⟨rfl,(ZF')⟩⟩,⟨_,rfl,.inl ⟨rfl,Za'⟩⟩,⟨_,rfl,.inl ⟨rfl,Za'⟩⟩,⟨_,rfl,.inl ⟨rfl,Za'⟩⟩,trivial⟩,?_⟩
     refine RW.e 22 rfl (Zy' sl36) ?_
     refine RW.any (is:=[23]) rfl ⟨?_,trivial⟩
     refine RWat.h' rfl rfl rfl ?_
     refine (ZY' s24 ?_)
     refine ⟨trivial,?_⟩
     refine RW.done<|PO.next<|WP.reg<|WL.e Za'<|WL.e Zb'<|WL.nil<|PO.blockN ?_
     exact PO.againK ((2 * rt+1+1),swp d1 (fs+rt) (fs+(2 * rt+1+1))) ⟨by simp only [Yv'];omega,by simp only;omega,by simp only;rw [← he,hst,if_pos h4]⟩ (by simp only;omega)
   ·have hst:=sd_l h1 (fun _=>h3)
    refine WP.skip<|PO.next<|WP.seq<|WP.seq<|WP.draws Zq' 14<|RW.e 0 rfl Za'<|RW.e 1 rfl Za'<|RW.e 2 rfl Za'<|RW.e 3 rfl (ZF')<|RW.e 4 rfl (Zy' sl36)<|RW.e 5 rfl (Zz' a24)<|RW.e 6 rfl Za'<|RW.e 7 rfl Za'<|RW.e 8 rfl Za'<|RW.e 9 rfl (ZF')<|RW.e 10 rfl (Zy' sl36)<|RW.e 11 rfl (Zz' a24) ?_
    refine RW.any (is:=[12]) rfl ⟨?_,trivial⟩
    refine RWat.h rfl rfl rfl ?_
    refine (Zg' (Yy' _ _) k91 ?_)
    refine ⟨trivial,?_⟩
    refine RW.e 13 rfl Zx'<|RW.done<|PO.next ?_
    refine WP.cond rfl (fun h4=>?_) (fun h4=>?_)
    ·replace h4:=nt h4
     refine WP.ret<|PO.past nofun<|PO.blockR<|PO.round nofun<|PO.blockR ?_
     rw [show siftDown lt32 hi fs root d=d1 by rw [← he,hst,if_neg (by rw [h4];simp)]] at hK
     exact PO.fin Tryz.results113 Zf' hK
    ·replace h4:=nf h4
     refine WP.skip<|PO.next<|WP.seq<|WP.draws Zq' 24<|RW.e 0 rfl Za'<|RW.e 1 rfl Za'<|RW.e 2 rfl Za'<|RW.e 3 rfl (ZF')<|RW.e 4 rfl Za'<|RW.e 5 rfl Za'<|RW.e 6 rfl Za'<|RW.e 7 rfl (ZF')<|RW.e 8 rfl Za'<|RW.e 9 rfl Za'<|RW.e 10 rfl Za'<|RW.e 11 rfl (ZF')<|RW.e 12 rfl (Zy' sl36)<|RW.e 13 rfl (Zz' a24)<|RW.e 14 rfl Za'<|RW.e 15 rfl Za'<|RW.e 16 rfl Za'<|RW.e 17 rfl (ZF')<|RW.e 18 rfl (Zy' sl36)<|RW.e 19 rfl (Zz' a24) ?_
     refine RW.e 20 rfl (Zy' sl36) ?_
     refine RW.any (is:=[21]) rfl ⟨?_,trivial⟩
     refine RWat.h' rfl rfl rfl ?_
     refine (ZY' s24 ?_)
     refine ⟨⟨⟨_,rfl,.inl ⟨rfl,(ZF')⟩⟩,⟨_,rfl,.inl ⟨rfl,Za'⟩⟩,⟨_,rfl,.inl ⟨rfl,Za'⟩⟩,⟨_,rfl,.inl ⟨rfl,Za'⟩⟩,trivial⟩,?_⟩
     refine RW.e 22 rfl (Zy' sl36) ?_
     refine RW.any (is:=[23]) rfl ⟨?_,trivial⟩
     refine RWat.h' rfl rfl rfl ?_
     refine (ZY' s24 ?_)
     refine ⟨trivial,?_⟩
     refine RW.done<|PO.next<|WP.reg<|WL.e Za'<|WL.e Zb'<|WL.nil<|PO.blockN ?_
     exact PO.againK ((2 * rt+1),swp d1 (fs+rt) (fs+(2 * rt+1))) ⟨by simp only [Yv'];omega,by simp only;omega,by simp only;rw [← he,hst,if_pos h4]⟩ (by simp only;omega)
  ·replace g:¬ (2 * rt+1+1 < hi):=by rw [decide_eq_false_iff_not] at g;omega
   refine RW.skip 5 rfl<|RW.skip 6 rfl<|RW.skip 7 rfl<|RW.skip 8 rfl<|RW.skip 9 rfl<|RW.skip 10 rfl<|RW.skip 11 rfl<|RW.skip 12 rfl<|RW.skip 13 rfl<|RW.skip 14 rfl<|RW.skip 15 rfl<|RW.skip 16 rfl<|RW.skip 17 rfl<|RW.skip 18 rfl<|RW.e 19 rfl Zl'<|RW.done<|PO.next<|WP.cond_f rfl<|WP.skip<|PO.next<|WP.seq<|WP.seq<|WP.draws Zq' 14<|RW.e 0 rfl Za' ?_
   refine RW.e 1 rfl Za'<|RW.e 2 rfl Za'<|RW.e 3 rfl (ZF')<|RW.e 4 rfl (Zy' sl36)<|RW.e 5 rfl (Zz' a24)<|RW.e 6 rfl Za'<|RW.e 7 rfl Za'<|RW.e 8 rfl Za'<|RW.e 9 rfl (ZF')<|RW.e 10 rfl (Zy' sl36)<|RW.e 11 rfl (Zz' a24) ?_
   refine RW.any (is:=[12]) rfl ⟨?_,trivial⟩
   refine RWat.h rfl rfl rfl ?_
   refine (Zg' (Yy' _ _) k91 ?_)
   refine ⟨trivial,?_⟩
   refine RW.e 13 rfl Zx'<|RW.done<|PO.next ?_
   refine WP.cond rfl (fun h4=>?_) (fun h4=>?_)
   ·have hst:=sd_l (d:=d1) (first:=fs) h1 (fun h=>absurd h g)
    replace h4:=nt h4
    refine WP.ret<|PO.past nofun<|PO.blockR<|PO.round nofun<|PO.blockR ?_
    rw [show siftDown lt32 hi fs root d=d1 by rw [← he,hst,if_neg (by rw [h4];simp)]] at hK
    exact PO.fin Tryz.results113 Zf' hK
   ·have hst:=sd_l (d:=d1) (first:=fs) h1 (fun h=>absurd h g)
    replace h4:=nf h4
    refine WP.skip<|PO.next<|WP.seq<|WP.draws Zq' 24<|RW.e 0 rfl Za'<|RW.e 1 rfl Za'<|RW.e 2 rfl Za'<|RW.e 3 rfl (ZF')<|RW.e 4 rfl Za'<|RW.e 5 rfl Za'<|RW.e 6 rfl Za'<|RW.e 7 rfl (ZF')<|RW.e 8 rfl Za'<|RW.e 9 rfl Za'<|RW.e 10 rfl Za'<|RW.e 11 rfl (ZF')<|RW.e 12 rfl (Zy' sl36)<|RW.e 13 rfl (Zz' a24)<|RW.e 14 rfl Za'<|RW.e 15 rfl Za'<|RW.e 16 rfl Za'<|RW.e 17 rfl (ZF')<|RW.e 18 rfl (Zy' sl36)<|RW.e 19 rfl (Zz' a24) ?_
    refine RW.e 20 rfl (Zy' sl36) ?_
    refine RW.any (is:=[21]) rfl ⟨?_,trivial⟩
    refine RWat.h' rfl rfl rfl ?_
    refine (ZY' s24 ?_)
    refine ⟨⟨⟨_,rfl,.inl ⟨rfl,(ZF')⟩⟩,⟨_,rfl,.inl ⟨rfl,Za'⟩⟩,⟨_,rfl,.inl ⟨rfl,Za'⟩⟩,⟨_,rfl,.inl ⟨rfl,Za'⟩⟩,trivial⟩,?_⟩
    refine RW.e 22 rfl (Zy' sl36) ?_
    refine RW.any (is:=[23]) rfl ⟨?_,trivial⟩
    refine RWat.h' rfl rfl rfl ?_
    refine (ZY' s24 ?_)
    refine ⟨trivial,?_⟩
    refine RW.done<|PO.next<|WP.reg<|WL.e Za'<|WL.e Zb'<|WL.nil<|PO.blockN ?_
    exact PO.againK ((2 * rt+1),swp d1 (fs+rt) (fs+(2 * rt+1))) ⟨by simp only [Yv'];omega,by simp only;omega,by simp only;rw [← he,hst,if_pos h4]⟩ (by simp only;omega)
set_option maxHeartbeats 1000000 in
theorem Zga_ {g:World} {u:Value} (d:Array UInt32) (a b:Nat) (hab:a < b) (hb:b≤d.size) (hn:d.size≤68719476736):Spec Tryz.prog g 86 [u,.int .i64 a,.int .i64 b] [Sl 24 1 u32C u (d).toList] fun K R=>K (.tuple #[]) (Sl 24 1 u32C u (heapSort lt32 d a b).toList::R):=by
 refine Spec.intro Tryz.func86 rfl Tryz.ntmps86 rfl fun R K hK=>?_
 refine WP.seq<|WP.reg<|WL.e Za'<|WL.e Zb'<|WL.next<|WP.seq<|WP.reg<|WL.e Zb'<|WL.next<|WP.seq<|WP.reg<|WL.e Za'<|WL.e Za'<|WL.e (ZX')<|WL.e Zb'<|WL.next<|WP.seq<|WP.seq<|WP.reg<|WL.e Za'<|WL.e (ZX' (b:=1))<|WL.e (Zhk_ (c:=(((b - a - 1) / 2+1:Nat):Int) - 1) rfl rfl (by decide) (by rw [Int.tdiv_eq_ediv_of_nonneg (by omega),Zt' (by omega) (by omega)];omega))<|WL.e Zb'<|WL.next ?_
 refine WP.block<|WP.loopK (fun (x:Nat × Array UInt32)=>[(9,.int .i64 ((x.1:Int) - 1))]) (fun (x:Nat × Array UInt32)=>Sl 24 1 u32C u (x.2).toList::R) [(0,_),(6,_),(7,_),(8,_)] (fun (x:Nat × Array UInt32)=>x.2.size=d.size∧x.1≤(b - a - 1) / 2+1∧heapBuild lt32 (b - a) a x.1 x.2=heapBuild lt32 (b - a) a ((b - a - 1) / 2+1) d) (fun (x:Nat × Array UInt32)=>x.1) ((b - a - 1) / 2+1,d) (⟨rfl,Nat.le_refl _,rfl⟩) ?_
 rintro ⟨k,d1⟩ ⟨hs,hk,he⟩
 simp only at hs hk he
 dsimp only
 refine WP.seq<|WP.seq<|WP.reg<|WL.e Za'<|WL.e YD'<|WL.next ?_
 refine WP.cond rfl (fun h1=>?_) (fun h1=>?_)
 ·replace h1:0 < k:=by rw [decide_eq_true_eq] at h1;omega
  rw [show ((k:Int) - 1)=((k - 1:Nat):Int) by omega]
  refine WP.skip<|PO.next<|WP.seq<|WP.block<|WP.reg<|WL.e Za'<|WL.e Za'<|WL.e Za'<|WL.e Za' ?_
  refine WL.h (Zg' (Zbh_ d1 (k - 1) (b - a) a (by omega) (by omega) (by omega)) k113 ?_)
  refine WL.nil<|PO.blockN<|PO.next<|WP.reg<|WL.e Za'<|WL.e (Y9' (c:=((k - 1:Nat):Int) - 1) rfl rfl (Zt' (by omega) (by omega)))<|WL.e Zb'<|WL.nil ?_
  exact PO.againK (k - 1,siftDown lt32 (b - a) a (k - 1) d1) ⟨by simp only [Ze8_];omega,by simp only;omega,by simp only;rw [← he];obtain ⟨m,rfl⟩:∃ m,k=m+1:=⟨k - 1,by omega⟩;rw [Nat.add_sub_cancel,heapBuild]⟩ (by simp only;omega)
 ·replace h1:k=0:=by rw [decide_eq_false_iff_not] at h1;omega
  subst h1
  obtain ⟨d0,hd0⟩:∃ d0,d0=heapBuild lt32 (b - a) a ((b - a - 1) / 2+1) d:=⟨_,rfl⟩
  rw [← hd0,heapBuild] at he
  subst he
  refine WP.exit<|PO.past nofun<|PO.round nofun<|PO.blockX<|PO.next<|WP.seq<|WP.reg<|WL.e Za'<|WL.e (Y9' (c:=((b - a:Nat):Int) - 1) rfl rfl (Zt' (by omega) (by omega)))<|WL.e Zb'<|WL.next<|WP.block<|WP.loopK (fun (x:Nat × Array UInt32)=>[(10,.int .i64 ((x.1:Int) - 1))]) (fun (x:Nat × Array UInt32)=>Sl 24 1 u32C u (x.2).toList::R) [(0,_),(6,_),(7,_)] (fun (x:Nat × Array UInt32)=>x.2.size=d.size∧x.1≤b - a∧heapPop lt32 a x.1 x.2=heapPop lt32 a (b - a) d1) (fun (x:Nat × Array UInt32)=>x.1) (b - a,d1) (⟨hs,Nat.le_refl _,rfl⟩) ?_
  rintro ⟨k,d2⟩ ⟨hs2,hk2,he2⟩
  simp only at hs2 hk2 he2
  dsimp only
  refine WP.seq<|WP.seq<|WP.reg<|WL.e Za'<|WL.e YD'<|WL.next ?_
  refine WP.cond rfl (fun h2=>?_) (fun h2=>?_)
  ·replace h2:0 < k:=by rw [decide_eq_true_eq] at h2;omega
   rw [show ((k:Int) - 1)=((k - 1:Nat):Int) by omega]
   refine WP.skip<|PO.next<|WP.seq<|WP.block<|WP.seq<|WP.draws Zq' 20<|RW.e 0 rfl Za'<|RW.e 1 rfl Za'<|RW.e 2 rfl Za'<|RW.e 3 rfl Za'<|RW.e 4 rfl Za'<|RW.e 5 rfl (ZF')<|RW.e 6 rfl Za'<|RW.e 7 rfl Za'<|RW.e 8 rfl Za'<|RW.e 9 rfl (ZF')<|RW.e 10 rfl (Zy' sl36)<|RW.e 11 rfl (Zz' a24)<|RW.e 12 rfl Za'<|RW.e 13 rfl Za'<|RW.e 14 rfl (Zy' sl36)<|RW.e 15 rfl (Zz' a24)<|RW.e 16 rfl (Zy' sl36) ?_
   refine RW.any (is:=[17]) rfl ⟨?_,trivial⟩
   refine RWat.h' rfl rfl rfl ?_
   refine (ZY' s24 ?_)
   refine ⟨⟨⟨_,rfl,.inl ⟨rfl,(ZF')⟩⟩,⟨_,rfl,.inl ⟨rfl,Za'⟩⟩,⟨_,rfl,.inl ⟨rfl,Za'⟩⟩,⟨_,rfl,.inl ⟨rfl,Za'⟩⟩,trivial⟩,?_⟩
   refine RW.e 18 rfl (Zy' sl36) ?_
   refine RW.any (is:=[19]) rfl ⟨?_,trivial⟩
   refine RWat.h' rfl rfl rfl ?_
   refine (ZY' s24 ?_)
   refine ⟨trivial,?_⟩
   refine RW.done<|PO.next<|WP.reg<|WL.e Za'<|WL.e Za'<|WL.e Za'<|WL.e Za' ?_
   refine WL.h (Zg' (Zbh_ (swp d2 a (a+(k - 1))) 0 (k - 1) a (by rw [Yv'];omega) (Nat.zero_le _) (by rw [Yv'];omega)) k113 ?_)
   refine WL.nil<|PO.blockN<|PO.next<|WP.reg<|WL.e Za'<|WL.e (Y9' (c:=((k - 1:Nat):Int) - 1) rfl rfl (Zt' (by omega) (by omega)))<|WL.e Zb'<|WL.nil ?_
   exact PO.againK (k - 1,siftDown lt32 (k - 1) a 0 (swp d2 a (a+(k - 1)))) ⟨by simp only [Ze8_,Yv'];omega,by simp only;omega,by simp only;rw [← he2];obtain ⟨m,rfl⟩:∃ m,k=m+1:=⟨k - 1,by omega⟩;rw [Nat.add_sub_cancel,heapPop]⟩ (by simp only;omega)
  ·replace h2:k=0:=by rw [decide_eq_false_iff_not] at h2;omega
   subst h2
   rw [heapPop] at he2
   refine WP.exit<|PO.past nofun<|PO.round nofun<|PO.blockX ?_
   rw [show heapSort lt32 d a b=d2 by rw [he2,hd0];rfl] at hK
   exact PO.fin Tryz.results86 Zf' hK
theorem Zie_ {g:World} {u:Value} (d:Array UInt32) (a b:Nat) (hab:a < b) (hb:b≤d.size) (hn:d.size≤68719476736):Spec Tryz.prog g 89 [u,.int .i64 a,.int .i64 b] [Sl 24 1 u32C u (d).toList] fun K R=>K (.tuple #[]) (Sl 24 1 u32C u (reverseRange d a b).toList::R):=by
 refine Spec.intro Tryz.func89 rfl Tryz.ntmps89 rfl fun R K hK=>?_
 refine WP.seq<|WP.reg<|WL.e Za'<|WL.e Zb'<|WL.next<|WP.seq<|WP.reg<|WL.e Za'<|WL.e (ZX' (b:=1))<|WL.e Zb'<|WL.next<|WP.block<|WP.loopK (fun (x:Nat × Nat × Array UInt32)=>[(6,.int .i64 x.1),(7,.int .i64 x.2.1)]) (fun (x:Nat × Nat × Array UInt32)=>Sl 24 1 u32C u (x.2.2).toList::R) [(0,_)] (fun (x:Nat × Nat × Array UInt32)=>x.2.2.size=d.size∧x.1≤b∧x.2.1 < b∧reverseLoop x.1 x.2.1 x.2.2=reverseLoop a (b - 1) d) (fun (x:Nat × Nat × Array UInt32)=>x.2.1+1 - x.1) (a,b - 1,d) (⟨rfl,by simp only;omega,by simp only;omega,rfl⟩) ?_
 rintro ⟨i,j,d1⟩ ⟨hs,hi,hj,he⟩
 simp only at hs hi hj he
 dsimp only
 refine WP.seq<|WP.seq<|WP.reg<|WL.e Za'<|WL.e Za'<|WL.e Z3'<|WL.next ?_
 refine WP.cond rfl (fun h1=>?_) (fun h1=>?_)
 ·replace h1:i < j:=by rw [decide_eq_true_eq] at h1;omega
  refine WP.skip<|PO.next<|WP.block<|WP.seq<|WP.draws Zq' 16<|RW.e 0 rfl Za'<|RW.e 1 rfl Za'<|RW.e 2 rfl Za'<|RW.e 3 rfl Za'<|RW.e 4 rfl Za'<|RW.e 5 rfl Za'<|RW.e 6 rfl (Zy' sl36)<|RW.e 7 rfl (Zz' a24)<|RW.e 8 rfl Za'<|RW.e 9 rfl Za'<|RW.e 10 rfl (Zy' sl36)<|RW.e 11 rfl (Zz' a24)<|RW.e 12 rfl (Zy' sl36) ?_
  refine RW.any (is:=[13]) rfl ⟨?_,trivial⟩
  refine RWat.h' rfl rfl rfl ?_
  refine (ZY' s24 ?_)
  refine ⟨⟨⟨_,rfl,.inl ⟨rfl,Za'⟩⟩,⟨_,rfl,.inl ⟨rfl,Za'⟩⟩,trivial⟩,?_⟩
  refine RW.e 14 rfl (Zy' sl36) ?_
  refine RW.any (is:=[15]) rfl ⟨?_,trivial⟩
  refine RWat.h' rfl rfl rfl ?_
  refine (ZY' s24 ?_)
  refine ⟨trivial,?_⟩
  refine RW.done<|PO.next<|WP.seq<|WP.reg<|WL.e Za'<|WL.e (ZF' (b:=1))<|WL.e Zb'<|WL.next<|WP.reg<|WL.e Za'<|WL.e (ZX' (b:=1))<|WL.e Zb'<|WL.nil<|PO.blockN ?_
  exact PO.againK (i+1,j - 1,swp d1 i j) ⟨by simp only [Yv'];omega,by simp only;omega,by simp only;omega,by simp only;rw [← he,ZlC_ h1]⟩ (by simp only;omega)
 ·replace h1:¬ (i < j):=by rw [decide_eq_false_iff_not] at h1;omega
  refine WP.exit<|PO.past nofun<|PO.round nofun<|PO.blockX ?_
  rw [ZlD_ h1] at he
  rw [show reverseRange d a b=d1 from he.symm] at hK
  exact PO.fin Tryz.results89 Zf' hK
theorem UL' {g:World} {u:Value} {q:Nat} (d:Array UInt32) (a b sw:Nat) (ha:a < d.size) (hb:b < d.size) (hs:sw≤1000000):Spec Tryz.prog g 126 [u,.int .i64 a,.int .i64 b,.pointer (some ⟨q,0,none⟩)] [Sl 24 1 u32C u (d).toList,cl q 3 [.int .i64 ((sw:Nat):Int)]] fun K R=>K (.tuple #[.int .i64 ((order2 lt32 d a b sw).1:Nat),.int .i64 ((order2 lt32 d a b sw).2.1:Nat)]) (Sl 24 1 u32C u (d).toList::cl q 3 [.int .i64 (((order2 lt32 d a b sw).2.2:Nat):Int)]::R):=by
 refine Spec.intro Tryz.func126 rfl Tryz.ntmps126 rfl fun R K hK=>?_
 refine WP.seq<|WP.reg<|WL.e Zb'<|WL.e Zb'<|WL.next<|WP.seq<|WP.seq<|WP.draws Zq' 9<|RW.e 0 rfl Za'<|RW.e 1 rfl Za'<|RW.e 2 rfl (Zy' sl36)<|RW.e 3 rfl (Zz' a24)<|RW.e 4 rfl Za'<|RW.e 5 rfl Za'<|RW.e 6 rfl (Zy' sl36)<|RW.e 7 rfl (Zz' a24) ?_
 refine RW.any (is:=[8]) rfl ⟨?_,trivial⟩
 refine RWat.h rfl rfl rfl ?_
 refine (Zg' (Yy' _ _) k91 ?_)
 refine ⟨trivial,?_⟩
 refine RW.done<|PO.next ?_
 refine WP.cond rfl (fun h1=>?_) (fun h1=>?_)
 ·rw [Zmz_ h1] at hK
  refine WP.seq<|WP.reg<|WL.e Za'<|WL.e Zk'<|WL.e (Zc' a3)<|WL.e (ZF' (b:=1))<|WL.e Zk' ?_
  refine WL.h' (Zj' s3 ?_)
  refine WL.next<|WP.seq<|WP.reg<|WL.e Za'<|WL.e Za'<|WL.e Zb'<|WL.e Zb'<|WL.next<|WP.ret<|PO.past nofun ?_
  exact PO.fin Tryz.results126 (Zd' (Zd' Zf')) hK
 ·rw [ZmA_ h1] at hK
  refine WP.skip<|PO.next<|WP.seq<|WP.reg<|WL.e Za'<|WL.e Za'<|WL.e Zb'<|WL.e Zb'<|WL.next<|WP.ret ?_
  exact PO.fin Tryz.results126 (Zd' (Zd' Zf')) hK
theorem UM' {g:World} {u:Value} {q:Nat} (d:Array UInt32) (a b c sw:Nat) (ha:a < d.size) (hb:b < d.size) (hc:c < d.size) (hs:sw≤1000):Spec Tryz.prog g 117 [u,.int .i64 a,.int .i64 b,.int .i64 c,.pointer (some ⟨q,0,none⟩)] [Sl 24 1 u32C u (d).toList,cl q 3 [.int .i64 ((sw:Nat):Int)]] fun K R=>K (.int .i64 ((median lt32 d a b c sw).1:Nat)) (Sl 24 1 u32C u (d).toList::cl q 3 [.int .i64 (((median lt32 d a b c sw).2:Nat):Int)]::R):=by
 refine Spec.intro Tryz.func117 rfl Tryz.ntmps117 rfl fun R K hK=>?_
 refine WP.seq<|WP.reg<|WL.e Zb'<|WL.next<|WP.seq<|WP.reg<|WL.e Za'<|WL.e Za'<|WL.e Za'<|WL.e Za' ?_
 refine WL.h (Zg' (UL' d a b sw ha hb (by omega)) k126 ?_)
 obtain ⟨p1,p2,p3⟩:=Zav_ (d:=d) (sw:=sw) ha hb
 obtain ⟨r1,hr1⟩:∃ r,r=order2 lt32 d a b sw:=⟨_,rfl⟩
 rw [← hr1] at p1 p2 p3 ⊢
 refine WL.e Za'<|WL.e Ze'<|WL.e Ze'<|WL.e Zb'<|WL.e Zb'<|WL.next<|WP.seq<|WP.reg<|WL.e Za'<|WL.e Za'<|WL.e Za'<|WL.e Za' ?_
 refine WL.h (Zg' (UL' d r1.2.1 c r1.2.2 p2 hc (by omega)) k126 ?_)
 obtain ⟨p4,p5,p6⟩:=Zav_ (d:=d) (sw:=r1.2.2) p2 hc
 obtain ⟨r2,hr2⟩:∃ r,r=order2 lt32 d r1.2.1 c r1.2.2:=⟨_,rfl⟩
 rw [← hr2] at p4 p5 p6 ⊢
 refine WL.e Za'<|WL.e Ze'<|WL.e Ze'<|WL.e Zb'<|WL.e Zb'<|WL.next<|WP.seq<|WP.reg<|WL.e Za'<|WL.e Za'<|WL.e Za'<|WL.e Za' ?_
 refine WL.h (Zg' (UL' d r1.1 r2.1 r2.2.2 p1 p4 (by omega)) k126 ?_)
 rw [show median lt32 d a b c sw=((order2 lt32 d r1.1 r2.1 r2.2.2).2.1,(order2 lt32 d r1.1 r2.1 r2.2.2).2.2) by rw [hr2,hr1];rfl] at hK
 refine WL.e Za'<|WL.e Ze'<|WL.e Ze'<|WL.e Zb'<|WL.e Zb'<|WL.next<|WP.seq<|WP.reg<|WL.e Za'<|WL.e Zb'<|WL.next<|WP.ret ?_
 exact PO.fin Tryz.results117 (Zd' Zf') hK
theorem V9' {g:World} {u:Value} {q:Nat} (d:Array UInt32) (a sw:Nat) (h1:1≤a) (ha:a+1 < d.size) (hn:d.size≤68719476736) (hs:sw≤1000):Spec Tryz.prog g 116 [u,.int .i64 a,.pointer (some ⟨q,0,none⟩)] [Sl 24 1 u32C u (d).toList,cl q 3 [.int .i64 ((sw:Nat):Int)]] fun K R=>K (.int .i64 ((medianAdjacent lt32 d a sw).1:Nat)) (Sl 24 1 u32C u (d).toList::cl q 3 [.int .i64 (((medianAdjacent lt32 d a sw).2:Nat):Int)]::R):=by
 refine Spec.intro Tryz.func116 rfl Tryz.ntmps116 rfl fun R K hK=>?_
 refine WP.seq<|WP.reg<|WL.e Zb'<|WL.next<|WP.seq<|WP.reg<|WL.e Za'<|WL.e Za'<|WL.e (ZX' (b:=1))<|WL.e Za'<|WL.e Za'<|WL.e (ZF' (b:=1))<|WL.e Za' ?_
 refine WL.h (Zg' (UM' d (a - 1) a (a+1) sw (by omega) (by omega) ha hs) k117 ?_)
 refine WL.e Zb'<|WL.next<|WP.ret ?_
 exact PO.fin Tryz.results116 (Zd' Zf') hK
set_option maxHeartbeats 1000000 in
theorem Zif_ {g:World} {u:Value} (d:Array UInt32) (a b:Nat) (hab:a < b) (hb:b≤d.size) (hn:d.size≤68719476736):Spec Tryz.prog g 88 [u,.int .i64 a,.int .i64 b] [Sl 24 1 u32C u (d).toList] fun K R=>K (.tuple #[.int .i64 ((choosePivot lt32 d a b).1:Nat),.int .i64 (hv (choosePivot lt32 d a b).2:Nat)]) (Sl 24 1 u32C u (d).toList::R):=by
 refine Spec.intro Tryz.func88 rfl Tryz.ntmps88 rfl fun R K hK=>?_
 refine WP.seq<|WP.reg<|WL.e Zb'<|WL.e Zb'<|WL.next<|WP.seq<|WP.reg<|WL.e Za'<|WL.e Za'<|WL.e (ZX')<|WL.e Zb'<|WL.next<|WP.seq<|WP.reg ?_
 refine WL.h (Zu' z3 fun b1=>?_)
 refine WL.next<|WP.seq<|WP.reg<|WL.e Za'<|WL.e Za'<|WL.e (Um' (b:=4))<|WL.e (Ul' (b:=1))<|WL.e (ZF')<|WL.e Zb'<|WL.next<|WP.seq<|WP.reg<|WL.e Za'<|WL.e Za'<|WL.e (Um' (b:=4))<|WL.e (Ul' (b:=2))<|WL.e (ZF')<|WL.e Zb'<|WL.next<|WP.seq<|WP.reg<|WL.e Za'<|WL.e Za'<|WL.e (Um' (b:=4)) ?_
 refine WL.e (Ul' (b:=3))<|WL.e (ZF')<|WL.e Zb'<|WL.next<|WP.seq<|WP.seq<|WP.reg<|WL.e Za'<|WL.e YD'<|WL.next ?_
 refine WP.cond rfl (fun h8=>?_) (fun h8=>?_)
 ·replace h8:b - a≥8:=by rw [decide_eq_true_eq] at h8;omega
  refine WP.seq<|WP.seq<|WP.reg<|WL.e Za'<|WL.e YD'<|WL.next ?_
  refine WP.cond rfl (fun h50=>?_) (fun h50=>?_)
  ·replace h50:b - a≥50:=by rw [decide_eq_true_eq] at h50;omega
   refine WP.seq<|WP.reg<|WL.e Za'<|WL.e Za' ?_
   refine WL.h (Zg' (V9' d (a+(b - a) / 4 * 1) 0 (by omega) (by omega) (by omega) (by omega)) k116 ?_)
   obtain ⟨r1,e1⟩:∃ r,medianAdjacent lt32 d (a+(b - a) / 4 * 1) 0=r:=⟨_,rfl⟩
   obtain ⟨p1,p2⟩:r1.1 < d.size∧r1.2≤3:=by rw [← e1];exact Ze9_ (by omega) (by omega) (by omega)
   rw [e1]
   refine WL.e Zb'<|WL.next<|WP.seq<|WP.reg<|WL.e Za'<|WL.e Za' ?_
   refine WL.h (Zg' (V9' d (a+(b - a) / 4 * 2) r1.2 (by omega) (by omega) (by omega) (by omega)) k116 ?_)
   obtain ⟨r2,e2⟩:∃ r,medianAdjacent lt32 d (a+(b - a) / 4 * 2) r1.2=r:=⟨_,rfl⟩
   obtain ⟨p3,p4⟩:r2.1 < d.size∧r2.2≤r1.2+3:=by rw [← e2];exact Ze9_ (by omega) (by omega) (by omega)
   rw [e2]
   refine WL.e Zb'<|WL.next<|WP.reg<|WL.e Za'<|WL.e Za' ?_
   refine WL.h (Zg' (V9' d (a+(b - a) / 4 * 3) r2.2 (by omega) (by omega) (by omega) (by omega)) k116 ?_)
   obtain ⟨r3,e3⟩:∃ r,medianAdjacent lt32 d (a+(b - a) / 4 * 3) r2.2=r:=⟨_,rfl⟩
   obtain ⟨p5,p6⟩:r3.1 < d.size∧r3.2≤r2.2+3:=by rw [← e3];exact Ze9_ (by omega) (by omega) (by omega)
   rw [e3]
   refine WL.e Zb'<|WL.next<|WP.reg<|WL.e Za'<|WL.e Za'<|WL.e Za'<|WL.e Za' ?_
   refine WL.h (Zg' (UM' d r1.1 r2.1 r3.1 r3.2 p1 p3 p5 (by omega)) k117 ?_)
   obtain ⟨r4,e4⟩:∃ r,median lt32 d r1.1 r2.1 r3.1 r3.2=r:=⟨_,rfl⟩
   rw [e4]
   rw [cp3 h8 h50 e1 e2 e3 e4] at hK
   clear e1
   refine WL.e Zb'<|WL.next<|WP.seq<|WP.reg<|WL.e (Zc' a3)<|WL.next<|WP.block<|WP.seq<|WP.reg<|WL.e ZM'<|WL.e Zb'<|WL.next ?_
   refine WP.cond rfl (fun e0=>?_) (fun e0=>?_)
   ·replace e0:r4.2=0:=by simpa using e0
    rw [cpH,if_pos e0] at hK
    refine WP.seq<|WP.reg<|WL.e Za'<|WL.e Zb'<|WL.e Zb'<|WL.next<|WP.ret<|PO.blockR ?_
    exact PO.fin Tryz.results88 (Zd' (Zd' Zf')) hK
   ·replace e0:¬ r4.2=0:=by simpa using e0
    refine WP.seq<|WP.reg<|WL.e ZM'<|WL.e Zb'<|WL.next ?_
    refine WP.cond rfl (fun e1=>?_) (fun e1=>?_)
    ·replace e1:r4.2=12:=by have:=eq_of_beq e1;omega
     rw [cpH,if_neg e0,if_pos e1] at hK
     refine WP.seq<|WP.reg<|WL.e Za'<|WL.e Zb'<|WL.e Zb'<|WL.next<|WP.ret<|PO.blockR ?_
     exact PO.fin Tryz.results88 (Zd' (Zd' Zf')) hK
    ·replace e1:¬ r4.2=12:=fun h=>by rw [h] at e1;exact absurd e1 (by decide)
     rw [cpH,if_neg e0,if_neg e1] at hK
     refine WP.seq<|WP.reg<|WL.e Za'<|WL.e Zb'<|WL.e Zb'<|WL.next<|WP.ret<|PO.blockR ?_
     exact PO.fin Tryz.results88 (Zd' (Zd' Zf')) hK
  ·replace h50:¬ (b - a≥50):=by rw [decide_eq_false_iff_not] at h50;omega
   refine WP.skip<|PO.next<|WP.reg<|WL.e Za'<|WL.e Za'<|WL.e Za'<|WL.e Za' ?_
   refine WL.h (Zg' (UM' d (a+(b - a) / 4 * 1) (a+(b - a) / 4 * 2) (a+(b - a) / 4 * 3) 0 (by omega) (by omega) (by omega) (by omega)) k117 ?_)
   rw [cp2 h8 h50] at hK
   obtain ⟨r4,e4⟩:∃ r,median lt32 d (a+(b - a) / 4 * 1) (a+(b - a) / 4 * 2) (a+(b - a) / 4 * 3) 0=r:=⟨_,rfl⟩
   rw [e4] at hK ⊢
   refine WL.e Zb'<|WL.next<|WP.seq<|WP.reg<|WL.e (Zc' a3)<|WL.next<|WP.block<|WP.seq<|WP.reg<|WL.e ZM'<|WL.e Zb'<|WL.next ?_
   refine WP.cond rfl (fun e0=>?_) (fun e0=>?_)
   ·replace e0:r4.2=0:=by simpa using e0
    rw [cpH,if_pos e0] at hK
    refine WP.seq<|WP.reg<|WL.e Za'<|WL.e Zb'<|WL.e Zb'<|WL.next<|WP.ret<|PO.blockR ?_
    exact PO.fin Tryz.results88 (Zd' (Zd' Zf')) hK
   ·replace e0:¬ r4.2=0:=by simpa using e0
    refine WP.seq<|WP.reg<|WL.e ZM'<|WL.e Zb'<|WL.next ?_
    refine WP.cond rfl (fun e1=>?_) (fun e1=>?_)
    ·replace e1:r4.2=12:=by have:=eq_of_beq e1;omega
     rw [cpH,if_neg e0,if_pos e1] at hK
     refine WP.seq<|WP.reg<|WL.e Za'<|WL.e Zb'<|WL.e Zb'<|WL.next<|WP.ret<|PO.blockR ?_
     exact PO.fin Tryz.results88 (Zd' (Zd' Zf')) hK
    ·replace e1:¬ r4.2=12:=fun h=>by rw [h] at e1;exact absurd e1 (by decide)
     rw [cpH,if_neg e0,if_neg e1] at hK
     refine WP.seq<|WP.reg<|WL.e Za'<|WL.e Zb'<|WL.e Zb'<|WL.next<|WP.ret<|PO.blockR ?_
     exact PO.fin Tryz.results88 (Zd' (Zd' Zf')) hK
 ·replace h8:¬ (b - a≥8):=by rw [decide_eq_false_iff_not] at h8;omega
  refine WP.skip<|PO.next<|WP.seq<|WP.reg<|WL.e (Zc' a3)<|WL.next<|WP.block<|WP.seq<|WP.reg<|WL.e ZM'<|WL.e Zb'<|WL.next ?_
  refine WP.cond rfl (fun e0=>?_) (fun e0=>?_)
  ·rw [cp1 h8] at hK
   refine WP.seq<|WP.reg<|WL.e Za'<|WL.e Zb'<|WL.e Zb'<|WL.next<|WP.ret<|PO.blockR ?_
   exact PO.fin Tryz.results88 (Zd' (Zd' Zf')) hK
  ·exact absurd e0 (by decide)
end Go.SL
