import Derived.Test.YtegjbklnhiionaaGreatQP15
set_option linter.unusedSimpArgs false
set_option linter.unusedVariables false
namespace Go.SL.Fc
open Go Go.Proofs Go.SL
theorem Zog_:Tryz.prog.eqGuardType Tryz.prog.depth 105=false:=by kernel_rfl
theorem ZmC_:ZO' Tryz.prog 40 0=some 0:=by kernel_rfl
theorem k20:Zh' Tryz.prog 20=true:=by kernel_rfl
theorem k222:Zh' Tryz.prog 222=true:=by kernel_rfl
theorem ZlR_:Tryz.prog.stoodInHeld 105=false:=by kernel_rfl
end Go.SL.Fc
namespace Go.SL
open Go Go.Proofs Fc
theorem YR' {g:World} {A B:HP} {u v:Value} {xs ys:List RowM} (hA:RL A 2 RowM.c u xs) (hB:RL B 2 RowM.c v ys) (hn:xs.length≤68719476736):Spec Tryz.prog g 20 [u,v] [A,B] fun K R=>K (.bool (decide (xs=ys))) (A::B::R):=by
 refine Spec.intro Tryz.func20 rfl Tryz.ntmps20 rfl fun R K hK=>?_
 refine WP.seq<|WP.reg<|WL.e Zb'<|WL.next<|WP.seq<|WP.seq<|WP.reg<|WL.e Za'<|WL.e (ZD' sl38 hA)<|WL.e Za'<|WL.e (ZD' sl38 hB)<|WL.e Z2'<|WL.next ?_
 refine WP.cond rfl (fun h1=>?_) (fun h1=>?_)
 ·replace h1:xs≠ys:=fun e=>by subst e;simp at h1
  refine WP.seq<|WP.reg<|WL.e Zb'<|WL.next<|WP.ret<|PO.past nofun ?_
  exact PO.finE Tryz.results20 (Zd' Zf') (by rw [decide_eq_false h1];rfl) hK
 ·replace h1:xs.length=ys.length:=by simp at h1;omega
  refine WP.skip<|PO.next<|WP.seq<|WP.seq<|WP.reg<|WL.e Zb'<|WL.next<|WP.block<|WP.loopK (fun (i:Nat)=>[(5,.int .i64 i)]) (fun (i:Nat)=>A::B::R) [(0,_),(1,_)] (fun (i:Nat)=>i≤xs.length∧xs.take i=ys.take i) (fun (i:Nat)=>xs.length - i) 0 (⟨Nat.zero_le _,rfl⟩) ?_
  rintro i ⟨hi,he⟩
  refine WP.seq<|WP.seq<|WP.reg<|WL.e Za'<|WL.e Za'<|WL.e (ZD' sl38 hA)<|WL.e Z3'<|WL.next ?_
  refine WP.cond rfl (fun h2=>?_) (fun h2=>?_)
  ·have hlt:i < xs.length:=by rw [decide_eq_true_eq] at h2;omega
   obtain ⟨x,hx⟩:∃ x,xs[i]?=some x:=⟨_,List.getElem?_eq_getElem hlt⟩
   obtain ⟨y,hy⟩:∃ y,ys[i]?=some y:=⟨_,List.getElem?_eq_getElem (by omega)⟩
   refine WP.skip<|PO.next<|WP.seq<|WP.block<|WP.seq<|WP.draws Zq' 9<|RW.e 0 rfl Za'<|RW.e 1 rfl Za'<|RW.e 2 rfl (ZZ' (j:=i) sl38 hA hlt)<|RW.e 3 rfl (YA' (a:=x) a105 rowE hA hx)<|RW.e 4 rfl Za'<|RW.e 5 rfl Za'<|RW.e 6 rfl (ZZ' (j:=i) sl38 hB (by omega))<|RW.e 7 rfl (YA' (a:=y) a105 rowE hB hy)<|RW.e 8 rfl (Zm3_ (a:=x) (b:=y) Tryz.underlying105 Tryz.underlying9 Tryz.underlying24 a9 a24 ZlR_ Zog_ rfl rfl)<|RW.done<|PO.next ?_
   refine WP.cond rfl (fun h3=>?_) (fun h3=>?_)
   ·replace h3:xs≠ys:=fun e=>by subst e;rw [hx] at hy;cases hy;simp at h3
    refine WP.seq<|WP.reg<|WL.e Zb'<|WL.next<|WP.ret<|PO.blockR<|PO.past nofun<|PO.round nofun<|PO.blockR<|PO.past nofun ?_
    exact PO.finE Tryz.results20 (Zd' Zf') (by rw [decide_eq_false h3];rfl) hK
   ·replace h3:x=y:=by simpa using h3
    refine WP.skip<|PO.blockN<|PO.next<|WP.reg<|WL.e Za'<|WL.e (ZE' (c:=((i+1:Nat):Int)) rfl rfl (by rw [Zt' (by omega) (by omega)];omega))<|WL.e Zb'<|WL.nil ?_
    exact PO.againK (i+1) ⟨by omega,by rw [ZA' hx,ZA' hy,he,h3]⟩ (by omega)
  ·have hge:xs.length≤i:=by rw [decide_eq_false_iff_not] at h2;omega
   replace h2:xs=ys:=by rwa [List.take_of_length_le hge,List.take_of_length_le (by omega)] at he
   refine WP.exit<|PO.past nofun<|PO.round nofun<|PO.blockX<|PO.next<|WP.seq<|WP.reg<|WL.e Zb'<|WL.next<|WP.ret ?_
   exact PO.finE Tryz.results20 (Zd' Zf') (by rw [decide_eq_true h2];rfl) hK
theorem RdS.mono {S T:ZN'} {z n:Nat} {u:Value} {cs:List Value} (h:RdS S z u n cs) (hl:le S T):RdS T z u n cs:=by
 rcases h with h | ⟨b,o,c,l,t,h1,h2,h3,h4,h5⟩
 ·exact .inl h
 ·exact .inr ⟨b,o,c,l,t,h1,h2,hl _ _ h3,h4,h5⟩
theorem XI' {g:World} {A B:HP} {u v:SV} {xs ys:List RowM} (hA:RL A 2 RowM.c u.v xs) (hB:RL B 2 RowM.c v.v ys) (hn:xs.length≤68719476736):Spec Tryz.prog g 19 [.agg #[u.v],.agg #[v.v]] [A,B] fun K R=>K (.bool (decide (xs=ys))) (A::B::R):=by
 refine Spec.intro Tryz.func19 rfl Tryz.ntmps19 rfl fun R K hK=>?_
 refine WP.seq<|WP.reg ?_
 refine WL.h (ZL' fun b1=>?_)
 refine WL.h (ZL' fun b2=>?_)
 refine WL.e Zb'<|WL.next<|WP.seq<|WP.reg<|WL.e (e_fa ZmC_)<|WL.e (Zc' a38)<|WL.e (e_fa ZmC_)<|WL.e (Zc' a38) ?_
 refine WL.h (Zg' (YR' hA hB hn) k20 ?_)
 refine WL.e Zb'<|WL.next<|WP.ret ?_
 exact PO.fin Tryz.results19 (Zd' Zf') hK
theorem ZlS_ {g:World} {p:Nat} {l:List RowM} (k:ByteArray):Spec Tryz.prog g 222 [.pointer (some ⟨p,0,none⟩),.string k] [Mm p l] fun K R=>K (.int .i64 (if Yz' k then 0 else 1)) (Mm p l::R):=by
 refine Spec.intro Tryz.func222 rfl Tryz.ntmps222 rfl fun R K hK=>?_
 refine WP.seq<|WP.reg<|WL.e Zb'<|WL.next<|WP.seq<|WP.block<|WP.seq<|WP.reg<|WL.e Za' ?_
 refine WL.h (Zg' (Ku') k79 ?_)
 refine WL.e Zx'<|WL.e Zb'<|WL.next<|WP.cond_f rfl<|WP.seq<|WP.reg<|WL.e Za' ?_
 refine WL.h (Zg' (X9' _) k45 ?_)
 refine WL.e Zx'<|WL.e Zb'<|WL.next ?_
 refine WP.cond rfl (fun h1=>?_) (fun h1=>?_)
 ·replace h1:Yz' k=false:=by simpa using h1
  refine WP.seq<|WP.reg<|WL.e Zb'<|WL.next<|WP.ret<|PO.blockR<|PO.past nofun ?_
  exact PO.finE Tryz.results222 (Zd' Zf') (by rw [h1];rfl) hK
 ·replace h1:Yz' k=true:=by simpa using h1
  refine WP.skip<|PO.blockN<|PO.next<|WP.seq<|WP.reg<|WL.e Zb'<|WL.next<|WP.ret ?_
  exact PO.finE Tryz.results222 (Zd' Zf') (by rw [h1];rfl) hK
theorem Zkf_ {g:World} {p:Nat} {l:List RowM} (k:ByteArray) (v:UInt32) (hl:ZC' l) (hn:l.length≤68719476000) (hk:Yz' k=true):Spec Tryz.prog g 216 [.pointer (some ⟨p,0,none⟩),.string k,.int .u32 v.toNat] [Mm p l] fun K R=>K (.int .i64 0) (Mm p (setR l k v)::R):=by
 refine Spec.intro Tryz.func216 rfl Tryz.ntmps216 rfl fun R K hK=>?_
 refine WP.seq<|WP.reg<|WL.e Zb'<|WL.next<|WP.seq<|WP.reg<|WL.e Za'<|WL.e Za' ?_
 refine WL.h (Zg' (ZlS_ k) k222 ?_)
 rw [hk]
 refine WL.e Zb'<|WL.next<|WP.seq<|WP.seq<|WP.reg<|WL.e Za'<|WL.e ZM'<|WL.next<|WP.cond_t rfl<|WP.reg<|WL.e Za'<|WL.e Za'<|WL.e Za' ?_
 refine WL.h (Zg' (ZeP_ k v hl hn) k83 ?_)
 refine WL.next<|WP.seq<|WP.reg<|WL.e Za'<|WL.e Zb'<|WL.next<|WP.ret ?_
 exact PO.fin Tryz.results216 (Zd' Zf') hK
end Go.SL
namespace Go.SL.Fc
open Go Go.Proofs Go.SL
theorem a188:ZK' Tryz.prog 188=some none:=by kernel_rfl
theorem a191:ZK' Tryz.prog 191=some none:=by kernel_rfl
theorem a193:ZK' Tryz.prog 193=some (some 3):=by kernel_rfl
theorem Kb':ZO' Tryz.prog 190 0=some 0:=by kernel_rfl
theorem VF':ZO' Tryz.prog 190 1=some 1:=by kernel_rfl
theorem Zcy_:ZO' Tryz.prog 190 2=some 2:=by kernel_rfl
theorem Zcz_:ZO' Tryz.prog 193 0=some 0:=by kernel_rfl
theorem Zoh_:ZO' Tryz.prog 193 1=some 1:=by kernel_rfl
theorem Zkg_:ZO' Tryz.prog 193 2=some 2:=by kernel_rfl
theorem k215:Zh' Tryz.prog 215=true:=by kernel_rfl
theorem k216:Zh' Tryz.prog 216=true:=by kernel_rfl
theorem k221:Zh' Tryz.prog 221=true:=by kernel_rfl
theorem k233:Zh' Tryz.prog 233=true:=by kernel_rfl
theorem k84:Zh' Tryz.prog 84=true:=by kernel_rfl
theorem p190:Ya' Tryz.prog 190=some [(0,1),(1,1),(2,1)]:=by kernel_rfl
theorem p193:Ya' Tryz.prog 193=some [(0,1),(1,1),(2,1)]:=by kernel_rfl
theorem ZoG_:X3' Tryz.prog 142=true:=by kernel_rfl
theorem s193:szOf Tryz.prog 193=some 3:=by kernel_rfl
theorem Kp':slOf Tryz.prog 191=some (193,3,12):=by kernel_rfl
theorem z190:ZH' Tryz.prog 190=some [.map none,.int .u32 0,.int .u32 0]:=by kernel_rfl
theorem z193:ZH' Tryz.prog 193=some [.int .u32 0,.int .u32 0,.bool false]:=by kernel_rfl
theorem z4:ZH' Tryz.prog 4=some [.bool false]:=by kernel_rfl
theorem ZmD_:(Tryz.prog.info? 191).bind (·.zero)=some (.slice none 0 0):=by kernel_rfl
end Go.SL.Fc
namespace Go.SL
open Go Go.Proofs Fc
def Pa (p:Nat) (H:Zmw_) (trim:UInt32):HP:=fun S=>∃ x:Value × List (EntV ByteArray WasM) × UInt32,Zo' [pu (PastOk (List.map stE x.2.1) x.2.2 trim H),cl p 190 [x.1,.int .u32 x.2.2.toNat,.int .u32 trim.toNat],Mp eStr x.1 (List.map kvE x.2.1),Ents 193 3 WasM.c x.2.1] S
theorem ZaW_ {p:Nat} {H:Zmw_} {trim:UInt32}:∀ S,Pa p H trim S→∃ x:Value × List (EntV ByteArray WasM) × UInt32,Zo' [pu (PastOk (List.map stE x.2.1) x.2.2 trim H),cl p 190 [x.1,.int .u32 x.2.2.toNat,.int .u32 trim.toNat],Mp eStr x.1 (List.map kvE x.2.1),Ents 193 3 WasM.c x.2.1] S:=fun _ h=>h
theorem Zkh_ {g:World}:Spec Tryz.prog g 60 [] [] fun K R=>∀ p,K (.pointer (some ⟨p,0,none⟩)) (Pa p [] 0::R):=by
 refine Spec.intro Tryz.func60 rfl Tryz.ntmps60 rfl fun R K hK=>?_
 refine WP.seq<|WP.reg<|WL.e Zb'<|WL.next<|WP.seq<|WP.reg ?_
 refine WL.h (YN' (ek:=eStr) fun nb=>?_)
 refine WL.e (Zv' z190 p190 (.o (.tmp 1) rfl<|.z (.int .u32 0)<|.z (.int .u32 0)<|.n)) ?_
 refine WL.h (ZL' fun b1=>?_)
 refine WL.e Zb'<|WL.next<|WP.ret<|PO.conv (fun S h=>Zbu_ (κ:=ByteArray) (E:=193) (z:=3) (enc:=WasM.c) h) ?_
 refine PO.conv (fun S h=>Yt' (show PastOk (List.map stE []) 0 0 [] from PastOk.init) h) ?_
 refine PO.cls (A:=Pa b1 [] 0) (B:=[pu (PastOk (List.map stE []) 0 0 []),cl b1 190 [.map (some nb),.int .u32 (0:UInt32).toNat,.int .u32 (0:UInt32).toNat],Mp eStr (.map (some nb)) (List.map kvE []),Ents 193 3 WasM.c []]) (fun S h=>⟨(.map (some nb),[],0),h⟩) ?_
 exact PO.fin Tryz.results60 (Zd' Zf') (hK b1)
theorem Kz' {g:World} {p:Nat} {H:List (List ChgM)} {trim:UInt32}:Spec Tryz.prog g 84 [.pointer (some ⟨p,0,none⟩)] [Pa p H trim] fun K R=>K (.bool true) (Pa p H trim::R):=by
 refine Spec.intro Tryz.func84 rfl Tryz.ntmps84 rfl fun R K hK=>?_
 refine WP.opn (ZaW_ (p:=p) (H:=H) (trim:=trim)) fun x=>?_
 obtain ⟨m,es,now⟩:=x
 dsimp only
 refine WP.pull (φ:=PastOk (List.map stE es) now trim H) (k:=fun hP=>?_)
 refine WP.seq<|WP.reg<|WL.e Zb'<|WL.next<|WP.seq<|WP.reg<|WL.e Za'<|WL.e (JX' ZoG_)<|WL.e Za' ?_
 refine WL.bool 5 rfl (fun h=>?_) (fun h=>?_)
 ·skip
  refine WL.e Za'<|WL.e Zk'<|WL.e (e_fa Kb')<|WL.e (Zc' a188)<|WL.e (Zb8_ Tryz.underlying188)<|WL.e Zn'<|WL.e Zb'<|WL.next<|WP.ret<|PO.conv (fun S h=>Yt' (show PastOk (List.map stE es) now trim H from hP) h) ?_
  refine PO.cls (A:=Pa p H trim) (B:=[pu (PastOk (List.map stE es) now trim H),cl p 190 [m,.int .u32 now.toNat,.int .u32 trim.toNat],Mp eStr m (List.map kvE es),Ents 193 3 WasM.c es]) (fun S h=>⟨(m,es,now),h⟩) ?_
  exact PO.fin Tryz.results84 (Zd' Zf') hK
 ·cases h 
theorem Zay_ {g:World} {p:Nat} {H:List (List ChgM)} {trim:UInt32}:Spec Tryz.prog g 206 [.pointer (some ⟨p,0,none⟩)] [Pa p H trim] fun K R=>K (.int .u32 (UInt32.ofNat H.length).toNat) (Pa p H trim::R):=by
 refine Spec.intro Tryz.func206 rfl Tryz.ntmps206 rfl fun R K hK=>?_
 refine WP.seq<|WP.reg<|WL.e Zb'<|WL.next<|WP.seq<|WP.seq<|WP.reg<|WL.e Za' ?_
 refine WL.h (Zg' (Kz') k84 ?_)
 refine WL.e Zx'<|WL.next<|WP.cond_f rfl<|WP.opn (ZaW_ (p:=p) (H:=H) (trim:=trim)) fun x=>?_
 obtain ⟨m,es,now⟩:=x
 dsimp only
 refine WP.pull (φ:=PastOk (List.map stE es) now trim H) (k:=fun hP=>?_)
 refine WP.skip<|PO.next<|WP.seq<|WP.reg<|WL.e Za'<|WL.e Zk'<|WL.e (e_fa VF')<|WL.e (Zc' a24)<|WL.e Zb'<|WL.next<|WP.ret<|PO.conv (fun S h=>Yt' (show PastOk (List.map stE es) now trim H from hP) h) ?_
 refine PO.cls (A:=Pa p H trim) (B:=[pu (PastOk (List.map stE es) now trim H),cl p 190 [m,.int .u32 now.toNat,.int .u32 trim.toNat],Mp eStr m (List.map kvE es),Ents 193 3 WasM.c es]) (fun S h=>⟨(m,es,now),h⟩) ?_
 rw [← hP.now_eq] at hK
 exact PO.fin Tryz.results206 (Zd' Zf') hK
def bwC (x:Nat × WasM):List Value:=[.int .i64 x.1,.agg (WasM.c x.2).toArray]
theorem Zim_ {g:World} {u:SV}:Spec Tryz.prog g 221 [u.v] [] fun K R=>∀ b,K (.func (.func 233) #[] #[.pointer (some ⟨b,0,none⟩)]) (cl b 191 [u.v]::R):=by
 refine Spec.intro Tryz.func221 rfl Tryz.ntmps221 rfl fun R K hK=>?_
 refine WP.seq<|WP.reg ?_
 refine WL.h (ZL' fun b1=>?_)
 refine WL.e Zb'<|WL.next<|WP.seq<|WP.reg<|WL.e Ym'<|WL.e Zb'<|WL.next<|WP.ret ?_
 exact PO.fin Tryz.results221 (Zd' Zf') (hK b1)
theorem Zin_ {g:World} {A:HP} {u:SV} {ws:List WasM} {b:Nat} (hA:RL A 3 WasM.c u.v ws) (hn:ws.length≤68719476736):Iter Tryz.prog g 233 (fun y=>[]++[y]++[.pointer (some ⟨b,0,none⟩)]) [cl b 191 [u.v],A] bwC (fun _=>pu True) (fun xs=>xs=bwdK ws ws.length) (fun pre=>∃ r,pre++r=bwdK ws ws.length) [cl b 191 [u.v],A]:=by
 intro y J X cont hy
 refine Spec.intro Tryz.func233 rfl Tryz.ntmps233 rfl fun R K hK=>?_
 refine WP.seq<|WP.reg<|WL.e (Zc' a191)<|WL.e (ZD' (xs:=ws) Kp' hA)<|WL.e (Y9' (c:=((ws.length:Int) - 1)) rfl rfl (by rw [Zt' (by omega) (by omega)]))<|WL.e Zb'<|WL.next<|WP.block<|WP.loopK (fun (x:Nat × List (Nat × WasM))=>[(3,.int .i64 ((x.1:Int) - 1))]) (fun (x:Nat × List (Nat × WasM))=>J x.2::cl b 191 [u.v]::A::R) [(0,_),(1,_)] (fun (x:Nat × List (Nat × WasM))=>x.1≤ws.length∧x.2++bwdK ws x.1=bwdK ws ws.length∧Hist cont x.2) (fun (x:Nat × List (Nat × WasM))=>x.1) (ws.length,[]) (⟨Nat.le_refl _,rfl,Hist.nil⟩) ?_
 rintro ⟨k,pre⟩ ⟨hk,hp,hh⟩
 simp only at hk hp hh
 dsimp only
 refine WP.seq<|WP.seq<|WP.reg<|WL.e Za'<|WL.e YD'<|WL.next ?_
 refine WP.cond rfl (fun h1=>?_) (fun h1=>?_)
 ·obtain ⟨j,rfl⟩:∃ j,k=j+1:=⟨k - 1,by simp at h1;omega⟩
  obtain ⟨w,hw⟩:∃ w,ws[j]?=some w:=⟨_,List.getElem?_eq_getElem (by omega)⟩
  have hpj:pre++([(j,w)]++bwdK ws j)=bwdK ws ws.length:=by rw [← hp];simp [bwdK,hw]
  rw [show (((j+1:Nat):Int) - 1)=(j:Int) by omega]
  refine WP.skip<|PO.next<|WP.seq<|WP.block<|WP.seq<|WP.reg<|WL.e Za'<|WL.e Za'<|WL.e (Zc' a191)<|WL.e Za'<|WL.e (ZZ' (j:=j) (xs:=ws) Kp' hA (by omega))<|WL.e (YA' (a:=w) a193 wasE hA hw) ?_
  refine WL.h (HO.conv (fun S h=>Yt' trivial h) (YE' (hy pre (j,w) ⟨_,by rw [List.append_assoc];exact hpj⟩ hh) ?_))
  refine ⟨fun hc=>?_,fun hc=>?_⟩
  ·skip
   refine WL.e Zx'<|WL.next<|WP.cond_f rfl<|WP.skip<|PO.blockN<|PO.next<|WP.reg<|WL.e Za'<|WL.e (Y9' (c:=((j:Int) - 1)) rfl rfl (by rw [Zt' (by omega) (by omega)]))<|WL.e Zb'<|WL.nil ?_
   exact PO.againK (j,pre++[(j,w)]) ⟨by simp only;omega,by simp only;rw [List.append_assoc];exact hpj,hh.snoc hc⟩ (by simp only;omega)
  ·skip
   refine WL.e Zx'<|WL.next<|WP.cond_t rfl<|WP.ret<|PO.blockR<|PO.past nofun<|PO.round nofun<|PO.blockR ?_
   exact PO.fin Tryz.results233 Zf' (hK.2 pre (j,w) ⟨_,by rw [List.append_assoc];exact hpj⟩ hh hc)
 ·obtain rfl:k=0:=by simp at h1;omega
  refine WP.exit<|PO.past nofun<|PO.round nofun<|PO.blockX ?_
  exact PO.fin Tryz.results233 Zf' (hK.1 pre (by simpa [bwdK] using hp) hh)
def FdJ (b1 b2 b3:Nat) (n:UInt32):HP:=fun S=>∃ _:Unit,Zo' [cl b1 24 [.int .u32 n.toNat],cl b2 24 [.int .u32 0],cl b3 4 [.bool false]] S
def FdX (b1 b2 b3:Nat) (n:UInt32) (w:WasM) (j:Code):HP:=fun S=>∃ _:{ u:Unit // j=.ret },Zo' [cl b1 24 [.int .u32 n.toNat],cl b2 24 [.int .u32 w.val.toNat],cl b3 4 [.bool (!w.gone)]] S
theorem Zio_ {g:World} {p:Nat} {A:HP} {m:Value} {now trim:UInt32} {es:List (EntV ByteArray WasM)} (n:UInt32) (k:ByteArray) (hA:RdM A eStr m (List.map kvE es)) (hn:(wsE es k).length≤68719476736) :
  Spec Tryz.prog g 215 [.pointer (some ⟨p,0,none⟩),.int .u32 n.toNat,.string k] [cl p 190 [m,.int .u32 now.toNat,.int .u32 trim.toNat],A,Ents 193 3 WasM.c es] fun K R=>K (.tuple #[.int .u32 (YT' (wsE es k) (if n < trim then trim else n)).1.toNat,.bool (YT' (wsE es k) (if n < trim then trim else n)).2]) (cl p 190 [m,.int .u32 now.toNat,.int .u32 trim.toNat]::A::Ents 193 3 WasM.c es::R):=by
 refine Spec.intro Tryz.func215 rfl Tryz.ntmps215 rfl fun R K hK=>?_
 refine WP.seq<|WP.reg ?_
 refine WL.h (ZL' fun b1=>?_)
 refine WL.h (Zu' z24 fun b2=>?_)
 refine WL.h (Zu' z4 fun b3=>?_)
 refine WL.next<|WP.seq<|WP.draws Zq' 7<|RW.e 0 rfl (Zc' a24)<|RW.e 1 rfl Za'<|RW.e 2 rfl Zk'<|RW.e 3 rfl (e_fa Zcy_)<|RW.e 4 rfl (Zc' a24)<|RW.e 5 rfl Zm4_ ?_
 refine RW.any (is:=[6]) rfl ⟨?_,trivial⟩
 refine RWat.h' rfl rfl rfl ?_
 refine (Zj' s24 ?_)
 refine ⟨trivial,?_⟩
 refine RW.done<|PO.next<|WP.seq<|WP.seq<|WP.reg<|WL.e Za'<|WL.e Zk'<|WL.e (e_fa Kb')<|WL.e (Zc' a188)<|WL.e Za'<|WL.e (ZeH_ (k:=k) (es:=es) Tryz.underlying188 (KT' Tryz.underlying9) ZmD_ hA) ?_
 refine WL.h (Zg' (Zim_ (u:=svE es k)) k221 ?_)
 intro b4
 refine WL.next<|WP.block<|WP.cls (A:=FdJ b1 b2 b3 (if n < trim then trim else n)) (B:=[cl b1 24 [.int .u32 (if n < trim then trim else n).toNat],cl b2 24 [.int .u32 0],cl b3 4 [.bool false]]) (fun S h=>⟨(),h⟩) ?_
 refine WP.range (R:=?RR) (f:=233) (fs:=[]) (cs:=[.pointer (some ⟨b4,0,none⟩)]) (fun _=>FdJ b1 b2 b3 (if n < trim then trim else n)) (fun _ x=>FdX b1 b2 b3 (if n < trim then trim else n) x.2) (fun _ x=>¬ x.2.at_≤(if n < trim then trim else n)) (Zin_ (b:=b4) (u:=svE es k) (ws:=wsE es k) (Qq' (E:=193) k) hn) k233 ?hLL ?_ ?_ ?_ (fun _=>rfl)
 case hLL=>repeat first | exact .nil | exact Pick.z | apply Pick.s | apply Split.cons
 ·rintro lb db fn tmps pre x R2 hp hh
  refine WP.opn (B:=fun _:Unit=>[cl b1 24 [.int .u32 (if n < trim then trim else n).toNat],cl b2 24 [.int .u32 0],cl b3 4 [.bool false]]) (fun _ h=>h) fun _=>?_
  refine WP.reg ?_
  refine WL.h (Zu' z193 fun b4=>?_)
  refine WL.h' (Zj' s193 ?_)
  refine WL.nil<|PO.asg rfl (by repeat first | exact .z | apply Put.s)<|WP.block<|WP.seq<|WP.reg<|WL.e (e_fa Zcz_)<|WL.e (Zc' a24)<|WL.e (Zc' a24)<|WL.e X2'<|WL.next ?_
  refine WP.cond rfl (fun h5=>?_) (fun h5=>?_)
  ·replace h5:x.2.at_≤(if n < trim then trim else n):=ZmV_ h5
   refine WP.seq<|WP.draws Zq' 7<|RW.e 0 rfl (e_fa Zoh_)<|RW.e 1 rfl (Zc' a24)<|RW.e 2 rfl (e_fa Zkg_)<|RW.e 3 rfl (Zc' a4)<|RW.e 4 rfl Zx' ?_
   refine RW.any (is:=[5]) rfl ⟨?_,trivial⟩
   refine RWat.h' rfl rfl rfl ?_
   refine (Zj' s24 ?_)
   refine ⟨⟨⟨_,rfl,.inl ⟨rfl,Zx'⟩⟩,⟨_,rfl,.inl ⟨rfl,(Zc' a4)⟩⟩,⟨_,rfl,.inl ⟨rfl,(e_fa Zkg_)⟩⟩,trivial⟩,?_⟩
   refine RW.any (is:=[6]) rfl ⟨?_,trivial⟩
   refine RWat.h' rfl rfl rfl ?_
   refine (Zj' s4 ?_)
   refine ⟨trivial,?_⟩
   refine RW.done<|PO.next<|WP.ret<|PO.blockR<|PO.cls (A:=FdX b1 b2 b3 (if n < trim then trim else n) x.2 .ret) (B:=[cl b1 24 [.int .u32 (if n < trim then trim else n).toNat],cl b2 24 [.int .u32 x.2.val.toNat],cl b3 4 [.bool (!x.2.gone)]]) (fun S h=>⟨⟨(),rfl⟩,h⟩) ?_
   exact PO.rnd_ret (fun h=>h h5) (by repeat first | exact .refl | exact Pick.z | apply Pick.s | apply Sub.cons | apply Sub.drop)
  ·replace h5:¬ x.2.at_≤(if n < trim then trim else n):=Zk8_ h5
   refine WP.skip<|PO.blockN<|PO.cls (A:=FdJ b1 b2 b3 (if n < trim then trim else n)) (B:=[cl b1 24 [.int .u32 (if n < trim then trim else n).toNat],cl b2 24 [.int .u32 0],cl b3 4 [.bool false]]) (fun S h=>⟨(),h⟩) ?_
   exact PO.rnd h5 (by repeat first | exact .refl | exact Pick.z | apply Pick.s | apply Sub.cons | apply Sub.drop)
 ·rintro db xs rfl hh
  have hfp:YT' (wsE es k) (if n < trim then trim else n)=(0,false):=ZhQ_ hh
  refine PO.opn (B:=fun _:Unit=>[cl b1 24 [.int .u32 (if n < trim then trim else n).toNat],cl b2 24 [.int .u32 0],cl b3 4 [.bool false]]) (fun _ h=>h) fun _=>?_
  refine PO.blockN<|PO.next<|WP.seq<|WP.reg ?_
  refine WL.h' (Zj' s24 ?_)
  refine WL.h' (Zj' s4 ?_)
  refine WL.next<|WP.ret ?_
  rw [hfp] at hK
  exact PO.finM (by repeat first | exact .z | apply Put.s) Tryz.results215 (YV' a24 (YV' a4 Zf')) hK
 ·rintro db pre x j hp hh hc
  have hfp:YT' (wsE es k) (if n < trim then trim else n)=(x.2.val,!x.2.gone):=ZhR_ hp hh hc
  refine WP.opn (B:=fun sv:{ u:Unit // j=.ret }=>[cl b1 24 [.int .u32 (if n < trim then trim else n).toNat],cl b2 24 [.int .u32 x.2.val.toNat],cl b3 4 [.bool (!x.2.gone)]]) (fun _ h=>h) fun u=>?_
  obtain ⟨_,rfl⟩:=u
  refine WP.ret<|PO.blockR<|PO.past nofun ?_
  rw [hfp] at hK
  exact PO.finM (by repeat first | exact .z | apply Put.s) Tryz.results215 (YV' a24 (YV' a4 Zf')) hK
theorem ZcA_ {g:World} {p:Nat} {H:List (List ChgM)} {trim:UInt32} (n:UInt32) (sp:SpanM) (most:Nat) (h1:trim≤n) (h2:n.toNat≤H.length) (hb:H.flatten.length≤1000000000) (hb2:H.length < 4294967295) (hm:most≤68719476000) :
  Spec Tryz.prog g 205 [.pointer (some ⟨p,0,none⟩),.int .u32 n.toNat,sp.v,.int .i64 most] [Pa p H trim] fun K R=>∀ a m c,K (.slice a m c) (Sl 105 2 RowM.c (.slice a m c) (ZT' (ZJ' H n.toNat) sp most)::Pa p H trim::R):=by
 refine Spec.intro Tryz.func205 rfl Tryz.ntmps205 rfl fun R K hK=>?_
 refine WP.seq<|WP.reg ?_
 refine WL.h (ZL' fun b1=>?_)
 refine WL.e Zb'<|WL.next<|WP.seq<|WP.seq<|WP.reg<|WL.e Za' ?_
 refine WL.h (Zg' (Kz') k84 ?_)
 refine WL.e Zx'<|WL.next<|WP.cond_f rfl<|WP.opn (ZaW_ (p:=p) (H:=H) (trim:=trim)) fun x=>?_
 obtain ⟨m,es,now⟩:=x
 dsimp only
 refine WP.pull (φ:=PastOk (List.map stE es) now trim H) (k:=fun hP=>?_)
 have hnow:n≤now:=by rw [UInt32.le_iff_toNat_le,hP.nowH];exact h2
 have hes:es.length≤1000000000:=by have:=hP.size;rw [List.length_map] at this;omega
 refine WP.skip<|PO.next<|WP.seq<|WP.reg ?_
 refine WL.h (Zg' (Zad_) k56 ?_)
 intro mp
 refine WL.e Zb'<|WL.next<|WP.seq<|WP.seq<|WP.reg<|WL.e Za'<|WL.e Zk'<|WL.e (e_fa Kb')<|WL.e (Zc' a188) ?_
 refine WL.h (Xt' (kvs:=List.map kvE es) Tryz.underlying188 fun it=>?_)
 refine WL.next<|WP.block<|WP.loopK (fun (x:List (EntV ByteArray WasM) × List RowM × Option (ByteArray × Value))=>[]) (fun (x:List (EntV ByteArray WasM) × List RowM × Option (ByteArray × Value))=>cl p 190 [m,.int .u32 now.toNat,.int .u32 trim.toNat]::MpIt eStr m it (List.map kvE es) (List.map kvE x.1) x.2.2::Ents 193 3 WasM.c es::Mm mp x.2.1::cl b1 45 sp.c::R) [(0,_),(1,_),(3,_),(6,_),(8,_),(9,_),(21,_)] (fun (x:List (EntV ByteArray WasM) × List RowM × Option (ByteArray × Value))=>(∀ y ∈ x.1,y ∈ es)∧ScanI (List.map stE es) n (List.map (·.key) x.1) x.2.1∧x.2.1.length+x.1.length≤es.length) (fun (x:List (EntV ByteArray WasM) × List RowM × Option (ByteArray × Value))=>x.1.length) (es,[],none) (⟨fun _ h=>h,ScanI.first (ZcU_ es) hP.nodup n,by simp⟩) ?_
 rintro ⟨left,rows,cur⟩ ⟨hx1,hx2,hx3⟩
 simp only at hx1 hx2 hx3
 dsimp only
 refine WP.seq<|WP.reg ?_
 refine WL.h (XY' (fun h0=>?_) (fun a y0 b hx=>?_))
 ·have hl0:left=[]:=by simpa using h0
  subst hl0
  have hrows:rows=ZJ' H n.toNat:=hx2.done hP h1 hnow
  refine WL.e Ze'<|WL.next<|WP.seq<|WP.cond_f rfl<|WP.exit<|PO.past nofun<|PO.round nofun<|PO.blockX<|PO.next<|WP.seq<|WP.reg<|WL.e Za'<|WL.e (Zm' a45)<|WL.e Za' ?_
  refine WL.h (Zg' (KY' (l:=rows) sp most hx2.rising (by omega) hm) k170 ?_)
  intro a9 m9 c9
  rw [hrows]
  refine WL.e Zb'<|WL.next<|WP.ret<|PO.conv (fun S h=>Yt' (show PastOk (List.map stE es) now trim H from hP) h) ?_
  refine PO.cls (A:=Pa p H trim) (B:=[pu (PastOk (List.map stE es) now trim H),cl p 190 [m,.int .u32 now.toNat,.int .u32 trim.toNat],Mp eStr m (List.map kvE es),Ents 193 3 WasM.c es]) (fun S h=>⟨(m,es,now),h⟩) ?_
  exact PO.fin Tryz.results205 (Zd' Zf') (hK a9 m9 c9)
 ·obtain ⟨A1,y,B1,hl,rfl,rfl,rfl⟩:=Xw' hx
  have hsub:∀ z ∈ A1++B1,z ∈ es:=fun z hz=>hx1 z (by rw [hl];simp only [List.mem_append,List.mem_cons] at hz ⊢;rcases hz with h | h;exact .inl h;exact .inr (.inr h))
  have hyin:y ∈ es:=hx1 y (by simp [hl])
  have hnd:(es.map (·.key)).Nodup:=by rw [ZcU_];exact hP.nodup
  have hfe:=Zai_ hnd hyin
  have hwe:wsE es y.key=y.ws:=by unfold wsE;rw [hfe]
  have hgy:getS (List.map stE es) y.key=some y.ws:=by rw [ZgQ_,hfe];rfl
  have hl2:List.map (·.key) left=List.map (·.key) A1++y.key::List.map (·.key) B1:=by rw [hl];simp
  have hky:Yz' y.key=true:=hP.keys (stE y) (List.mem_map.2 ⟨y,hyin,rfl⟩)
  have hlw:y.ws.length≤68719476736:=by have h7:=hP.lens (stE y) (List.mem_map.2 ⟨y,hyin,rfl⟩);have h8:(stE y).2=y.ws:=rfl;rw [h8] at h7;omega
  refine WL.e Ze'<|WL.next<|WP.seq<|WP.cond_t rfl<|WP.skip<|PO.next<|WP.block<|WP.seq<|WP.reg<|WL.e Xi'<|WL.e Ze'<|WL.e Zb'<|WL.next<|WP.seq<|WP.reg<|WL.e Za'<|WL.e Za'<|WL.e Za' ?_
  refine WL.h (Zg' (Zio_ (es:=es) n y.key ZeB_ (by rw [hwe];exact hlw)) k215 ?_)
  rw [hwe,show (if n < trim then trim else n)=n from if_neg (UInt32.not_lt.2 h1)]
  refine WL.e Za'<|WL.e Ze'<|WL.e Ze'<|WL.e Zb'<|WL.e Zb'<|WL.next<|WP.seq<|WP.reg<|WL.e Za'<|WL.next ?_
  refine WP.cond rfl (fun h9=>?_) (fun h9=>?_)
  ·skip
   refine WP.reg<|WL.e Za'<|WL.e Za'<|WL.e Za' ?_
   refine WL.h (Zg' (Zkf_ y.key (YT' y.ws n).1 hx2.rising (by omega) hky) k216 ?_)
   refine WL.nil<|PO.blockN ?_
   rw [← List.map_append]
   exact PO.againK (A1++B1,setR rows y.key (YT' y.ws n).1,_) ⟨hsub,by simp only [List.map_append];exact hx2.put hl2 hgy h9,by simp only;have:=(XT' hx2.rising y.key (YT' y.ws n).1).2.2;simp only [hl,List.length_append,List.length_cons] at hx3 ⊢;omega⟩ (by simp only [hl,List.length_append,List.length_cons];omega)
  ·skip
   refine WP.skip<|PO.blockN ?_
   rw [← List.map_append]
   exact PO.againK (A1++B1,rows,_) ⟨hsub,by simp only [List.map_append];exact hx2.skip hl2 hgy h9,by simp only;simp only [hl,List.length_append,List.length_cons] at hx3 ⊢;omega⟩ (by simp only [hl,List.length_append,List.length_cons];omega)
theorem Zgj_ {g:World} {p:Nat} {H:List (List ChgM)} {trim:UInt32} (n:UInt32) (sp:SpanM) (h1:trim≤n) (hb2:H.length < 4294967295) :
  Spec Tryz.prog g 203 [.pointer (some ⟨p,0,none⟩),.int .u32 n.toNat,sp.v] [Pa p H trim] fun K R=>K (.bool (JQ' H n.toNat sp)) (Pa p H trim::R):=by
 refine Spec.intro Tryz.func203 rfl Tryz.ntmps203 rfl fun R K hK=>?_
 refine WP.seq<|WP.reg ?_
 refine WL.h (ZL' fun b1=>?_)
 refine WL.e Zb'<|WL.next<|WP.seq<|WP.seq<|WP.reg<|WL.e Za' ?_
 refine WL.h (Zg' (Kz') k84 ?_)
 refine WL.e Zx'<|WL.next<|WP.cond_f rfl<|WP.opn (ZaW_ (p:=p) (H:=H) (trim:=trim)) fun x=>?_
 obtain ⟨m,es,now⟩:=x
 dsimp only
 refine WP.pull (φ:=PastOk (List.map stE es) now trim H) (k:=fun hP=>?_)
 refine WP.skip<|PO.next<|WP.seq<|WP.seq<|WP.reg<|WL.e Za'<|WL.e Za'<|WL.e Zk'<|WL.e (e_fa Zcy_)<|WL.e (Zc' a24)<|WL.e (Uf')<|WL.next ?_
 refine WP.cond rfl (fun h3=>?_) (fun h3=>?_)
 ·exact absurd (ZgT_ h3) (UInt32.not_lt.2 h1)
 ·skip
  refine WP.skip<|PO.next<|WP.seq<|WP.seq<|WP.reg<|WL.e Za'<|WL.e Zk'<|WL.e (e_fa Kb')<|WL.e (Zc' a188) ?_
  refine WL.h (Xt' (kvs:=List.map kvE es) Tryz.underlying188 fun it=>?_)
  refine WL.next<|WP.block<|WP.loopK (fun (x:List (EntV ByteArray WasM) × Option (ByteArray × Value))=>[]) (fun (x:List (EntV ByteArray WasM) × Option (ByteArray × Value))=>cl p 190 [m,.int .u32 now.toNat,.int .u32 trim.toNat]::MpIt eStr m it (List.map kvE es) (List.map kvE x.1) x.2::Ents 193 3 WasM.c es::cl b1 45 sp.c::R) [(1,_),(5,_),(22,_)] (fun (x:List (EntV ByteArray WasM) × Option (ByteArray × Value))=>(∀ y ∈ x.1,y ∈ es)∧Vx' (List.map stE x.1) n sp=Vx' (List.map stE es) n sp) (fun (x:List (EntV ByteArray WasM) × Option (ByteArray × Value))=>x.1.length) (es,none) (⟨fun _ h=>h,rfl⟩) ?_
  rintro ⟨left,cur⟩ ⟨hx1,hx2⟩
  simp only at hx1 hx2
  dsimp only
  refine WP.seq<|WP.reg ?_
  refine WL.h (XY' (fun h0=>?_) (fun a y0 b hx=>?_))
  ·have hl0:left=[]:=by simpa using h0
   subst hl0
   have hfin:JQ' H n.toNat sp=false:=by rw [← hP.since,← hx2];rfl
   refine WL.e Ze'<|WL.next<|WP.seq<|WP.cond_f rfl<|WP.exit<|PO.past nofun<|PO.round nofun<|PO.blockX<|PO.next<|WP.seq<|WP.reg<|WL.e Zb'<|WL.next<|WP.ret<|PO.conv (fun S h=>Yt' (show PastOk (List.map stE es) now trim H from hP) h) ?_
   refine PO.cls (A:=Pa p H trim) (B:=[pu (PastOk (List.map stE es) now trim H),cl p 190 [m,.int .u32 now.toNat,.int .u32 trim.toNat],Mp eStr m (List.map kvE es),Ents 193 3 WasM.c es]) (fun S h=>⟨(m,es,now),h⟩) ?_
   rw [hfin] at hK
   exact PO.fin Tryz.results203 (Zd' Zf') hK
  ·obtain ⟨A1,y,B1,hl,rfl,rfl,rfl⟩:=Xw' hx
   have hsub:∀ z ∈ A1++B1,z ∈ es:=fun z hz=>hx1 z (by rw [hl];simp only [List.mem_append,List.mem_cons] at hz ⊢;rcases hz with h | h;exact .inl h;exact .inr (.inr h))
   have hyin:y ∈ es:=hx1 y (by simp [hl])
   have hne:y.ws≠[]:=hP.ne (stE y) (List.mem_map.2 ⟨y,hyin,rfl⟩)
   have hpos:0 < y.ws.length:=List.length_pos_iff.2 hne
   obtain ⟨w,hw⟩:∃ w,y.ws[y.ws.length - 1]?=some w:=⟨_,List.getElem?_eq_getElem (by omega)⟩
   have hlast:YX' y.ws=w.at_:=ZeG_ hw
   have hlw:y.ws.length≤68719476736:=by have h7:=hP.lens (stE y) (List.mem_map.2 ⟨y,hyin,rfl⟩);have h8:(stE y).2=y.ws:=rfl;rw [h8] at h7;omega
   refine WL.e Ze'<|WL.next<|WP.seq<|WP.cond_t rfl<|WP.skip<|PO.next<|WP.block<|WP.seq<|WP.reg<|WL.e Xi'<|WL.e Ze'<|WL.e Ze'<|WL.e Zb'<|WL.e Zb'<|WL.next<|WP.seq<|WP.reg<|WL.e Za'<|WL.e Za'<|WL.e (ZD' (xs:=y.ws) (enc:=WasM.c) Kp' (Kn' hyin))<|WL.e (Y9' (c:=((y.ws.length - 1:Nat):Int)) rfl rfl (by rw [Zt' (by omega) (by omega)];omega))<|WL.e (ZZ' (j:=y.ws.length - 1) (xs:=y.ws) (enc:=WasM.c) Kp' (Kn' hyin) (by omega))<|WL.e (Q9' (z:=3) (j:=y.ws.length - 1) (xs:=y.ws) (enc:=WasM.c) Zcz_ (Kn' hyin) (by omega))<|WL.e (Ys' (j:=y.ws.length - 1) (a:=w) a24 wasE (Kn' hyin) hw) ?_
   refine WL.e Za'<|WL.e (Qm')<|WL.e Za' ?_
   refine WL.bool 37 rfl (fun h8=>?_) (fun h8=>?_)
   ·skip
    refine WL.e Za'<|WL.e Za'<|WL.e (Zv' z45 p45 (.o (.tmp 38) rfl<|.o (.tmp 39) rfl<|.n))<|WL.e (Zm' a45) ?_
    refine WL.h (Zg' (Y8' ⟨_,_⟩ ⟨_,_⟩) k30 ?_)
    refine WL.e Zn'<|WL.next ?_
    refine WP.cond rfl (fun h9=>?_) (fun h9=>?_)
    ·have hfin:JQ' H n.toNat sp=true:=by rw [← hP.since,← hx2,hl,Zal_,hlast,h8,show meet (one y.key) sp=true from h9];rfl
     refine WP.seq<|WP.reg<|WL.e Zb'<|WL.next<|WP.ret<|PO.blockR<|PO.round nofun<|PO.blockR<|PO.past nofun<|PO.conv (YS' (A:=MpIt eStr m it (List.map kvE es) _ _) (B:=Mp eStr m (List.map kvE es)) JT' (by repeat first | exact .z | apply Put.s)) ?_
     refine PO.conv (fun S h=>Yt' (show PastOk (List.map stE es) now trim H from hP) h) ?_
     refine PO.cls (A:=Pa p H trim) (B:=[pu (PastOk (List.map stE es) now trim H),cl p 190 [m,.int .u32 now.toNat,.int .u32 trim.toNat],Mp eStr m (List.map kvE es),Ents 193 3 WasM.c es]) (fun S h=>⟨(m,es,now),h⟩) ?_
     rw [hfin] at hK
     exact PO.fin Tryz.results203 (Zd' Zf') hK
    ·replace h9:meet (one y.key) sp=false:=h9
     refine WP.skip<|PO.blockN ?_
     rw [← List.map_append]
     exact PO.againK (A1++B1,_) ⟨hsub,by simp only;rw [hl,Zal_,hlast,h8] at hx2;rw [← hx2];simp [h9]⟩ (by simp only [hl,List.length_append,List.length_cons];omega)
   ·skip
    refine WL.skip<|WL.skip<|WL.skip<|WL.skip<|WL.skip<|WL.e Zl'<|WL.next<|WP.cond_f rfl<|WP.skip<|PO.blockN ?_
    rw [← List.map_append]
    exact PO.againK (A1++B1,_) ⟨hsub,by simp only;rw [hl,Zal_,hlast,h8] at hx2;rw [← hx2];simp⟩ (by simp only [hl,List.length_append,List.length_cons];omega)
theorem Zip_ {g:World} {p:Nat} {H:List (List ChgM)} {trim:UInt32} (n:UInt32) (h1:trim≤n) (h2:n.toNat≤H.length) (hb2:H.length < 4294967295) :
  Spec Tryz.prog g 210 [.pointer (some ⟨p,0,none⟩),.int .u32 n.toNat] [Pa p H trim] fun K R=>K (.int .i64 0) (Pa p H n::R):=by
 refine Spec.intro Tryz.func210 rfl Tryz.ntmps210 rfl fun R K hK=>?_
 refine WP.seq<|WP.reg<|WL.e Zb'<|WL.next<|WP.seq<|WP.block<|WP.seq<|WP.reg<|WL.e Za' ?_
 refine WL.h (Zg' (Kz') k84 ?_)
 refine WL.e Zx'<|WL.e Zb'<|WL.next<|WP.cond_f rfl<|WP.opn (ZaW_ (p:=p) (H:=H) (trim:=trim)) fun x=>?_
 obtain ⟨m,es,now⟩:=x
 dsimp only
 refine WP.pull (φ:=PastOk (List.map stE es) now trim H) (k:=fun hP=>?_)
 have hnow:n≤now:=by rw [UInt32.le_iff_toNat_le,hP.nowH];exact h2
 have hnd:(es.map (·.key)).Nodup:=by rw [ZcU_];exact hP.nodup
 refine WP.seq<|WP.reg<|WL.e Za'<|WL.e Za'<|WL.e Zk'<|WL.e (e_fa VF')<|WL.e (Zc' a24)<|WL.e (Qm')<|WL.e Za' ?_
 refine WL.bool 19 rfl (fun h3=>?_) (fun h3=>?_)
 ·exact absurd (ZgU_ h3) (UInt32.not_lt.2 hnow) 
 ·skip
  refine WL.e Za'<|WL.e Za'<|WL.e Zk'<|WL.e (e_fa Zcy_)<|WL.e (Zc' a24)<|WL.e (Uf')<|WL.e Zl'<|WL.e Zb'<|WL.next ?_
  refine WP.cond rfl (fun h4=>?_) (fun h4=>?_)
  ·exact absurd (ZgT_ h4) (UInt32.not_lt.2 h1)
  ·skip
   refine WP.skip<|PO.blockN<|PO.next<|WP.seq<|WP.reg<|WL.e Za'<|WL.e Za'<|WL.e Zk'<|WL.e (e_fa Zcy_) ?_
   refine WL.h' (Zj' s24 ?_)
   refine WL.next<|WP.seq<|WP.seq<|WP.reg<|WL.e Za'<|WL.e Zk'<|WL.e (e_fa Kb')<|WL.e (Zc' a188) ?_
   refine WL.h (Xt' (kvs:=List.map kvE es) Tryz.underlying188 fun it=>?_)
   refine WL.next<|WP.block<|WP.loopK (fun (x:List (EntV ByteArray WasM) × List (EntV ByteArray WasM) × Option (ByteArray × Value))=>[]) (fun (x:List (EntV ByteArray WasM) × List (EntV ByteArray WasM) × Option (ByteArray × Value))=>cl p 190 [m,.int .u32 now.toNat,.int .u32 n.toNat]::MpIt eStr m it (List.map kvE x.2.1) (List.map kvE x.1) x.2.2::Ents 193 3 WasM.c x.2.1::R) [(0,_),(1,_),(4,_),(35,_)] (fun (x:List (EntV ByteArray WasM) × List (EntV ByteArray WasM) × Option (ByteArray × Value))=>TrimI es n x.1 x.2.1) (fun (x:List (EntV ByteArray WasM) × List (EntV ByteArray WasM) × Option (ByteArray × Value))=>x.1.length) (es,es,none) (TrimI.first hnd n) ?_
   rintro ⟨left,st,cur⟩ hI
   simp only at hI
   dsimp only
   refine WP.seq<|WP.reg ?_
   refine WL.h (XY' (fun h0=>?_) (fun a y0 b hx=>?_))
   ·have hl0:left=[]:=by simpa using h0
    subst hl0
    have hdone:=hI.done
    have hP2:=hP.trimmed h1 hnow
    rw [← hdone] at hP2
    refine WL.e Ze'<|WL.next<|WP.seq<|WP.cond_f rfl<|WP.exit<|PO.past nofun<|PO.round nofun<|PO.blockX<|PO.next<|WP.seq<|WP.reg<|WL.e Zb'<|WL.next<|WP.ret<|PO.conv (fun S h=>Yt' (show PastOk (List.map stE st) now n H from hP2) h) ?_
    refine PO.cls (A:=Pa p H n) (B:=[pu (PastOk (List.map stE st) now n H),cl p 190 [m,.int .u32 now.toNat,.int .u32 n.toNat],Mp eStr m (List.map kvE st),Ents 193 3 WasM.c st]) (fun S h=>⟨(m,st,now),h⟩) ?_
    exact PO.fin Tryz.results210 (Zd' Zf') hK
   ·obtain ⟨A1,y,B1,hl,rfl,rfl,rfl⟩:=Xw' hx
    have hyin:y ∈ st:=hI.sub y (by simp [hl])
    have hye:y ∈ es:=hI.old y (by simp [hl])
    have hne:y.ws≠[]:=hP.ne (stE y) (List.mem_map.2 ⟨y,hye,rfl⟩)
    have hpos:0 < y.ws.length:=List.length_pos_iff.2 hne
    have hlw:y.ws.length≤68719476736:=by have h7:=hP.lens (stE y) (List.mem_map.2 ⟨y,hye,rfl⟩);have h8:(stE y).2=y.ws:=rfl;rw [h8] at h7;omega
    have hfe:=Zai_ hI.nodup hyin
    have hwe:wsE st y.key=y.ws:=by unfold wsE;rw [hfe]
    have hse:svE st y.key=y.sv:=by unfold svE;rw [hfe]
    refine WL.opn (QZ' st y.key) fun _=>?_
    rw [hwe,hse]
    refine WL.e Ze'<|WL.next<|WP.seq<|WP.cond_t rfl<|WP.skip<|PO.next<|WP.block<|WP.seq<|WP.reg<|WL.e Xi'<|WL.e Ze'<|WL.e Ze'<|WL.e Zb'<|WL.e Zb'<|WL.next<|WP.seq<|WP.reg<|WL.e Za'<|WL.e (ZD' (xs:=y.ws) (enc:=WasM.c) Kp' Zr')<|WL.e (Y9' (c:=((y.ws.length - 1:Nat):Int)) rfl rfl (by rw [Zt' (by omega) (by omega)];omega))<|WL.e Zb'<|WL.next<|WP.seq<|WP.block ?_
    refine WP.loopK (fun (j:Nat)=>[(7,.int .i64 j)]) (fun (j:Nat)=>cl p 190 [m,.int .u32 now.toNat,.int .u32 n.toNat]::MpIt eStr m it (List.map kvE st) (List.map kvE A1++List.map kvE B1) (some (kvE y))::Sl 193 3 WasM.c y.sv.v y.ws::Ents 193 3 WasM.c (delE st y.key)::R) [(0,_),(1,_),(4,_),(5,_),(6,_),(35,_),(36,_),(37,_),(38,_),(39,_),(40,_),(41,_),(42,_),(43,_)] (fun (j:Nat)=>j < y.ws.length∧JZ' y.ws n j=JZ' y.ws n (y.ws.length - 1)) (fun (j:Nat)=>j) (y.ws.length - 1) (⟨by omega,rfl⟩) ?_
    rintro j ⟨hj,hj2⟩
    refine WP.seq<|WP.seq<|WP.reg<|WL.e Za'<|WL.e YY'<|WL.e Za' ?_
    refine WL.bool 46 rfl (fun h8=>?_) (fun h8=>?_)
    ·have hpos2:0 < j:=by simp at h8;omega
     obtain ⟨w,hw2⟩:∃ w,y.ws[j]?=some w:=⟨_,List.getElem?_eq_getElem hj⟩
     refine WL.e Za'<|WL.e Za'<|WL.e (ZZ' (j:=j) (xs:=y.ws) (enc:=WasM.c) Kp' Zr' hj)<|WL.e (Q9' (z:=3) (j:=j) (xs:=y.ws) (enc:=WasM.c) Zcz_ Zr' hj)<|WL.e (Ys' (j:=j) (a:=w) a24 wasE Zr' hw2)<|WL.e Za'<|WL.e (Qm')<|WL.e Zn'<|WL.next ?_
     refine WP.cond rfl (fun h9=>?_) (fun h9=>?_)
     ·replace h9:=ZgU_ h9
      refine WP.skip<|PO.next<|WP.block<|WP.reg<|WL.e Za'<|WL.e (Y9' (c:=((j - 1:Nat):Int)) rfl rfl (by rw [Zt' (by omega) (by omega)];omega))<|WL.e Zb'<|WL.nil<|PO.blockN ?_
      exact PO.againK (j - 1) ⟨by omega,by rw [← hj2];exact (ZhS_ hw2 hpos2 h9).symm⟩ (by omega)
     ·replace h9:=Zk7_ h9
      have hI2:=hI.step hl (j:=j) (by unfold XH';rw [← hj2,ZhT_ hw2 hpos2 h9])
      refine WP.exit<|PO.past nofun<|PO.round nofun<|PO.blockX<|PO.next<|WP.draws Zq' 9<|RW.e 0 rfl Za'<|RW.e 1 rfl Zk'<|RW.e 2 rfl (e_fa Kb')<|RW.e 3 rfl (Zc' a188)<|RW.e 4 rfl Za'<|RW.e 5 rfl Za'<|RW.e 6 rfl Za'<|RW.e 7 rfl (XV' (lo:=j) (xs:=y.ws) (enc:=WasM.c) Kp' Zr' (by omega)) ?_
      refine RW.any (is:=[8]) rfl ⟨?_,trivial⟩
      refine RWat.h' rfl rfl rfl<|HO.conv (YS' (A:=Sl 193 3 WasM.c y.sv.v y.ws) (B:=Sl 193 3 WasM.c (subV y.sv.v j y.ws.length none 3) (y.ws.drop j)) (fun S h=>ZgO_ wasE h hj) (by repeat first | exact .z | apply Put.s)) ?_
      refine (UY' (p:=kvE y) Tryz.underlying188 (KT' Tryz.underlying9) (by rw [ZgR_];exact hI.nodup) ?_)
      refine ⟨trivial,?_⟩
      refine RW.done<|PO.blockN<|PO.cls (A:=Ents 193 3 WasM.c (setE st y.key (subS y.sv j y.ws.length 3) (y.ws.drop j))) (B:=[Sl 193 3 WasM.c (subS y.sv j y.ws.length 3).v (y.ws.drop j),Ents 193 3 WasM.c (delE st y.key)]) (JG' st y.key (subS y.sv j y.ws.length 3) (y.ws.drop j)) ?_
      refine PO.conv (YS' (A:=MpIt eStr m it (mset (List.map kvE st) y.key (subS y.sv j y.ws.length 3).v) (List.map kvE A1++List.map kvE B1) none) (B:=MpIt eStr m it (List.map kvE (setE st y.key (subS y.sv j y.ws.length 3) (y.ws.drop j))) (List.map kvE (A1++B1)) none) (fun S h=>by rw [Qp',← List.map_append] at h;exact h) (by repeat first | exact .z | apply Put.s)) ?_
      exact PO.againK (A1++B1,(setE st y.key (subS y.sv j y.ws.length 3) (y.ws.drop j)),none) hI2 (by simp only [hl,List.length_append,List.length_cons];omega)
    ·have hj0:j=0:=by simp at h8;omega
     have hI2:=hI.step hl (j:=j) (by unfold XH';rw [← hj2,hj0];simp [JZ'])
     refine WL.skip<|WL.skip<|WL.skip<|WL.skip<|WL.skip<|WL.skip<|WL.skip<|WL.e Zl'<|WL.next<|WP.cond_f rfl<|WP.exit<|PO.past nofun<|PO.round nofun<|PO.blockX<|PO.next<|WP.draws Zq' 9<|RW.e 0 rfl Za'<|RW.e 1 rfl Zk'<|RW.e 2 rfl (e_fa Kb')<|RW.e 3 rfl (Zc' a188)<|RW.e 4 rfl Za'<|RW.e 5 rfl Za'<|RW.e 6 rfl Za'<|RW.e 7 rfl (XV' (lo:=j) (xs:=y.ws) (enc:=WasM.c) Kp' Zr' (by omega)) ?_
     refine RW.any (is:=[8]) rfl ⟨?_,trivial⟩
     refine RWat.h' rfl rfl rfl<|HO.conv (YS' (A:=Sl 193 3 WasM.c y.sv.v y.ws) (B:=Sl 193 3 WasM.c (subV y.sv.v j y.ws.length none 3) (y.ws.drop j)) (fun S h=>ZgO_ wasE h hj) (by repeat first | exact .z | apply Put.s)) ?_
     refine (UY' (p:=kvE y) Tryz.underlying188 (KT' Tryz.underlying9) (by rw [ZgR_];exact hI.nodup) ?_)
     refine ⟨trivial,?_⟩
     refine RW.done<|PO.blockN<|PO.cls (A:=Ents 193 3 WasM.c (setE st y.key (subS y.sv j y.ws.length 3) (y.ws.drop j))) (B:=[Sl 193 3 WasM.c (subS y.sv j y.ws.length 3).v (y.ws.drop j),Ents 193 3 WasM.c (delE st y.key)]) (JG' st y.key (subS y.sv j y.ws.length 3) (y.ws.drop j)) ?_
     refine PO.conv (YS' (A:=MpIt eStr m it (mset (List.map kvE st) y.key (subS y.sv j y.ws.length 3).v) (List.map kvE A1++List.map kvE B1) none) (B:=MpIt eStr m it (List.map kvE (setE st y.key (subS y.sv j y.ws.length 3) (y.ws.drop j))) (List.map kvE (A1++B1)) none) (fun S h=>by rw [Qp',← List.map_append] at h;exact h) (by repeat first | exact .z | apply Put.s)) ?_
     exact PO.againK (A1++B1,(setE st y.key (subS y.sv j y.ws.length 3) (y.ws.drop j)),none) hI2 (by simp only [hl,List.length_append,List.length_cons];omega)
set_option maxHeartbeats 4000000 in
theorem Zaz_ {g:World} {p:Nat} {A:HP} {u:Value} {H:List (List ChgM)} {trim:UInt32} {cs:List ChgM} (hA:RL A 3 ChgM.c u cs) (hcs:∀ c ∈ cs,ZR' c=true) (hn:cs.length≤68719476736) (hb2:H.length < 1000000000) :
  Spec Tryz.prog g 61 [.pointer (some ⟨p,0,none⟩),u] [Pa p H trim,A] fun K R=>K (.tuple #[.int .u32 (UInt32.ofNat H.length+1).toNat,.int .i64 0]) (Pa p (H++[cs]) trim::A::R):=by
 refine Spec.intro Tryz.func61 rfl Tryz.ntmps61 rfl fun R K hK=>?_
 refine WP.seq<|WP.reg<|WL.e Zb'<|WL.e Zb'<|WL.next<|WP.seq<|WP.seq<|WP.reg<|WL.e Za' ?_
 refine WL.h (Zg' (Kz') k84 ?_)
 refine WL.e Zx'<|WL.next<|WP.cond_f rfl<|WP.skip<|PO.next<|WP.seq<|WP.seq<|WP.reg<|WL.e Za'<|WL.e (ZD' (xs:=cs) Yw' hA)<|WL.e Za'<|WL.next<|WP.block<|WP.loopK (fun (i:Nat)=>[(17,.int .i64 i)]) (fun (i:Nat)=>Pa p H trim::A::R) [(0,_),(1,_),(15,_),(16,_)] (fun (i:Nat)=>i≤cs.length) (fun (i:Nat)=>cs.length - i) 0 (Nat.zero_le _) ?_
 intro i hi
 refine WP.seq<|WP.reg<|WL.e Z3'<|WL.next<|WP.seq ?_
 refine WP.cond rfl (fun h2=>?_) (fun h2=>?_)
 ·have hlt:i < cs.length:=by rw [decide_eq_true_eq] at h2;omega
  obtain ⟨c,hc0⟩:∃ c,cs[i]?=some c:=⟨_,List.getElem?_eq_getElem hlt⟩
  have hco:=hcs c (List.mem_of_getElem? hc0)
  have hck:=ZgV_ hco
  refine WP.skip<|PO.next<|WP.seq<|WP.block<|WP.seq<|WP.reg<|WL.e (ZZ' (xs:=cs) Yw' hA hlt)<|WL.e (YA' (a:=c) a179 chgE hA hc0) ?_
  refine WL.h (Zu' z179 fun b1=>?_)
  refine WL.h' (Zj' s179 ?_)
  refine WL.next<|WP.seq<|WP.reg<|WL.e (e_fa XC')<|WL.e (Zc' a9) ?_
  refine WL.h (Zg' (X9' _) k45 ?_)
  refine WL.e Zx'<|WL.e Za' ?_
  refine WL.bool 25 rfl (fun g1=>?_) (fun g1=>?_)
  ·exact absurd g1 (by simp [hck]) 
  ·skip
   refine WL.e (e_fa QU')<|WL.e (Zc' a4)<|WL.e Za' ?_
   refine WL.bool 28 rfl (fun g2=>?_) (fun g2=>?_)
   ·have hv0:=Zk9_ hco g2
    refine WL.e (e_fa Y4')<|WL.e (Zc' a24)<|WL.e (XE' (b:=0))<|WL.e Zn'<|WL.e Zl'<|WL.next ?_
    refine WP.cond rfl (fun g3=>?_) (fun g3=>?_)
    ·(rw [hv0] at g3;exact absurd g3 (by decide))
    ·skip
     refine WP.skip<|PO.blockN<|PO.next<|WP.reg<|WL.e (ZE' rfl rfl (Zt' (by omega) (by omega)))<|WL.e Za'<|WL.nil ?_
     exact PO.againK (i+1) (by omega) (by omega)
   ·skip
    refine WL.skip<|WL.skip<|WL.skip<|WL.e Zl'<|WL.e Zl'<|WL.next<|WP.cond_f rfl<|WP.skip<|PO.blockN<|PO.next<|WP.reg<|WL.e (ZE' rfl rfl (Zt' (by omega) (by omega)))<|WL.e Za'<|WL.nil ?_
    exact PO.againK (i+1) (by omega) (by omega)
 ·refine WP.opn (ZaW_ (p:=p) (H:=H) (trim:=trim)) fun x=>?_
  obtain ⟨m,es,now⟩:=x
  dsimp only
  refine WP.pull (φ:=PastOk (List.map stE es) now trim H) (k:=fun hP=>?_)
  refine WP.exit<|PO.past nofun<|PO.round nofun<|PO.blockX<|PO.next<|WP.seq<|WP.reg<|WL.e Za'<|WL.e Zk'<|WL.e (e_fa VF')<|WL.e (Zc' a24)<|WL.e (ZaJ_ (b:=1))<|WL.e Zk'<|WL.e (e_fa VF') ?_
  refine WL.h' (Zj' s24 ?_)
  refine WL.next<|WP.seq<|WP.seq<|WP.reg<|WL.e Za'<|WL.e (ZD' (xs:=cs) Yw' hA)<|WL.e Za'<|WL.next<|WP.block<|WP.loopK (fun (x:Nat × List (EntV ByteArray WasM))=>[(44,.int .i64 x.1)]) (fun (x:Nat × List (EntV ByteArray WasM))=>cl p 190 [m,.int .u32 (now+1).toNat,.int .u32 trim.toNat]::Mp eStr m (List.map kvE x.2)::Ents 193 3 WasM.c x.2::A::R) [(0,_),(42,_),(43,_)] (fun (x:Nat × List (EntV ByteArray WasM))=>x.1≤cs.length∧MidOk (List.map stE x.2) now trim H (cs.take x.1)) (fun (x:Nat × List (EntV ByteArray WasM))=>cs.length - x.1) (0,es) (⟨Nat.zero_le _,hP.start (by omega)⟩) ?_
  rintro ⟨i,es⟩ ⟨hi,hM⟩
  simp only at hi hM
  dsimp only
  refine WP.seq<|WP.reg<|WL.e Z3'<|WL.next<|WP.seq ?_
  refine WP.cond rfl (fun h3=>?_) (fun h3=>?_)
  ·have hlt:i < cs.length:=by rw [decide_eq_true_eq] at h3;omega
   obtain ⟨c,hc0⟩:∃ c,cs[i]?=some c:=⟨_,List.getElem?_eq_getElem hlt⟩
   have hck:=ZgV_ (hcs c (List.mem_of_getElem? hc0))
   have hlen:(wsE es c.key).length≤H.length+1:=hM.len_le c.key
   refine WP.skip<|PO.next<|WP.seq<|WP.block<|WP.seq<|WP.reg<|WL.e (ZZ' (xs:=cs) Yw' hA hlt)<|WL.e (YA' (a:=c) a179 chgE hA hc0) ?_
   refine WL.h (Zu' z179 fun b2=>?_)
   refine WL.h' (Zj' s179 ?_)
   refine WL.next<|WP.seq<|WP.draws Zq' 8<|RW.e 0 rfl Za'<|RW.e 1 rfl Zk'<|RW.e 2 rfl (e_fa Kb')<|RW.e 3 rfl (Zc' a188)<|RW.e 4 rfl (e_fa XC')<|RW.e 5 rfl (Zc' a9)<|RW.e 6 rfl (ZeH_ (k:=c.key) (es:=es) Tryz.underlying188 (KT' Tryz.underlying9) ZmD_ Zag_)<|RW.e 7 rfl Zb'<|RW.done<|PO.next ?_
   refine WP.cutR (fun (y:SV × List WasM)=>[(10,y.1.v)]) (fun (y:SV × List WasM)=>cl p 190 [m,.int .u32 (now+1).toNat,.int .u32 trim.toNat]::Mp eStr m (List.map kvE es)::Sl 193 3 WasM.c y.1.v y.2::Ents 193 3 WasM.c (delE es c.key)::A::cl b2 179 c.c::R) [(0,_),(9,_),(42,_),(43,_),(44,_),(45,_),(46,_),(47,_),(48,_),(49,_),(50,_),(51,_),(52,_),(53,_),(54,_)] (fun (y:SV × List WasM)=>y.2++[(⟨now+1,c.val,c.gone⟩:WasM)]=YU' (wsE es c.key) (now+1) c) ?_ ?_
   ·skip
    refine WP.seq<|WP.reg<|WL.e Za'<|WL.e (ZD' (xs:=wsE es c.key) (enc:=WasM.c) Kp' (Qq' c.key))<|WL.e Zb'<|WL.next ?_
    refine WP.cutL (fun (y:{ y:Bool // y=decide (wsE es c.key≠[]∧YX' (wsE es c.key)=now+1) })=>[(71,.bool y.1)]) (fun (y:{ y:Bool // y=decide (wsE es c.key≠[]∧YX' (wsE es c.key)=now+1) })=>cl p 190 [m,.int .u32 (now+1).toNat,.int .u32 trim.toNat]::Mp eStr m (List.map kvE es)::Ents 193 3 WasM.c es::A::cl b2 179 c.c::R) (fun (y:{ y:Bool // y=decide (wsE es c.key≠[]∧YX' (wsE es c.key)=now+1) })=>True) ?_ ?_
    ·skip
     refine WP.draws Zq' 15<|RW.e 0 rfl Za'<|RW.e 1 rfl YY'<|RW.e 2 rfl Za' ?_
     refine RW.bool 59 rfl (fun h5=>?_) (fun h5=>?_)
     ·have hpos:0 < (wsE es c.key).length:=by simp at h5;omega
      obtain ⟨w5,hw5⟩:∃ w,(wsE es c.key)[(wsE es c.key).length - 1]?=some w:=⟨_,List.getElem?_eq_getElem (by omega)⟩
      refine RW.e 3 rfl Za'<|RW.e 4 rfl Za'<|RW.e 5 rfl (Y9' (c:=(((wsE es c.key).length - 1:Nat):Int)) rfl rfl (by rw [Zt' (by omega) (by omega)];omega))<|RW.e 6 rfl (ZZ' (j:=(wsE es c.key).length - 1) (xs:=wsE es c.key) (enc:=WasM.c) Kp' (Qq' c.key) (by omega))<|RW.e 7 rfl (Q9' (z:=3) (j:=(wsE es c.key).length - 1) (xs:=wsE es c.key) (enc:=WasM.c) Zcz_ (Qq' c.key) (by omega))<|RW.e 8 rfl (Ys' (j:=(wsE es c.key).length - 1) (a:=w5) a24 wasE (Qq' c.key) hw5)<|RW.e 9 rfl Za'<|RW.e 10 rfl Zk'<|RW.e 11 rfl (e_fa VF')<|RW.e 12 rfl (Zc' a24)<|RW.e 13 rfl (Jt')<|RW.e 14 rfl Zn'<|RW.done ?_
      exact PO.meetK ⟨_,ZnX_ hw5⟩ trivial
     ·have hw0:wsE es c.key=[]:=by cases e:wsE es c.key with
       | nil=>rfl
       | cons a b=>rw [e] at h5;simp at h5
      refine RW.skip 3 rfl<|RW.skip 4 rfl<|RW.skip 5 rfl<|RW.skip 6 rfl<|RW.skip 7 rfl<|RW.skip 8 rfl<|RW.skip 9 rfl<|RW.skip 10 rfl<|RW.skip 11 rfl<|RW.skip 12 rfl<|RW.skip 13 rfl<|RW.e 14 rfl Zl'<|RW.done ?_
      exact PO.meetK ⟨false,by simp [hw0]⟩ trivial
    ·rintro ⟨y,hy⟩ _
     dsimp only
     refine WP.cond rfl (fun h6=>?_) (fun h6=>?_)
     ·have hy5:=of_decide_eq_true (hy.symm.trans h6)
      have hpos:0 < (wsE es c.key).length:=List.length_pos_iff.2 hy5.1
      refine WP.reg<|WL.e Za'<|WL.e Za'<|WL.e (Y9' (c:=(((wsE es c.key).length - 1:Nat):Int)) rfl rfl (by rw [Zt' (by omega) (by omega)];omega))<|WL.e Za'<|WL.e (Y9' (c:=(((wsE es c.key).length - 1:Nat):Int)) rfl rfl (by rw [Zt' (by omega) (by omega)];omega))<|WL.e (Zd8_ (hi:=(wsE es c.key).length - 1) (xs:=wsE es c.key) (enc:=WasM.c) Kp' (Qq' c.key) (by omega))<|WL.e Zb'<|WL.nil<|PO.opn (QZ' es c.key) fun _=>?_
      refine PO.conv (YS' (A:=Sl 193 3 WasM.c (svE es c.key).v (wsE es c.key)) (B:=Sl 193 3 WasM.c (subV (svE es c.key).v 0 ((wsE es c.key).length - 1) (some ((wsE es c.key).length - 1)) 3) ((wsE es c.key).take ((wsE es c.key).length - 1))) (fun S h=>Zjk_ wasE h (by omega)) (by repeat first | exact .z | apply Put.s)) ?_
      refine PO.sh (u:=subV (svE es c.key).v 0 ((wsE es c.key).length - 1) (some ((wsE es c.key).length - 1)) 3) fun a9 m9 c9 e9=>?_
      rw [e9]
      exact PO.meetK (⟨a9,m9,c9⟩,(wsE es c.key).take ((wsE es c.key).length - 1)) (by simp only;unfold YU';rw [if_pos hy5,List.dropLast_eq_take])
     ·have hy5:=of_decide_eq_false (hy.symm.trans h6)
      refine WP.skip<|PO.opn (QZ' es c.key) fun _=>?_
      exact PO.meetK (svE es c.key,wsE es c.key) (by simp only;unfold YU';rw [if_neg hy5])
   ·rintro ⟨w1,ws1⟩ hws1
    simp only at hws1
    dsimp only
    have hwl:ws1.length≤1000000000:=by have h7:=congrArg List.length hws1;rw [List.length_append,List.length_singleton] at h7;have h8:=Zjs_ (wsE es c.key) (now+1) c;omega
    refine WP.draws Zq' 19<|RW.e 0 rfl Za'<|RW.e 1 rfl Zk'<|RW.e 2 rfl (e_fa Kb')<|RW.e 3 rfl (Zc' a188)<|RW.e 4 rfl (e_fa XC')<|RW.e 5 rfl (Zc' a9)<|RW.e 6 rfl Za'<|RW.e 7 rfl Za'<|RW.e 8 rfl Zk'<|RW.e 9 rfl (e_fa VF')<|RW.e 10 rfl (Zc' a24)<|RW.e 11 rfl (e_fa Y4')<|RW.e 12 rfl (Zc' a24)<|RW.e 13 rfl (e_fa QU')<|RW.e 14 rfl (Zc' a4)<|RW.e 15 rfl (Zv' z193 p193 (.o (.tmp 88) rfl<|.o (.tmp 90) rfl<|.o (.tmp 92) rfl<|.n)) ?_
    refine RW.any (is:=[16]) rfl ⟨?_,trivial⟩
    refine RWat.h rfl rfl rfl ?_
    refine (h_bs Kp' z193 (.a3 (.tmp 93) rfl<|.n) fun b3=>?_)
    refine ⟨⟨⟨_,rfl,.inl ⟨rfl,Za'⟩⟩,⟨_,rfl,.inl ⟨rfl,(Zc' a9)⟩⟩,⟨_,rfl,.inl ⟨rfl,(e_fa XC')⟩⟩,⟨_,rfl,.inl ⟨rfl,(Zc' a188)⟩⟩,⟨_,rfl,.inl ⟨rfl,(e_fa Kb')⟩⟩,⟨_,rfl,.inl ⟨rfl,Zk'⟩⟩,⟨_,rfl,.inl ⟨rfl,Za'⟩⟩,trivial⟩,?_⟩
    refine RW.any (is:=[17]) rfl ⟨?_,trivial⟩
    refine RWat.h rfl rfl rfl ?_
    refine (ZG' (xs:=ws1) (ys:=[(⟨now+1,c.val,c.gone⟩:WasM)]) Kp' wasE z193 (Z7' wasE [(⟨now+1,c.val,c.gone⟩:WasM)] rfl) (by simp;omega) (fun a5 n5 c5=>?_))
    refine ⟨⟨⟨_,rfl,.inl ⟨rfl,(Zc' a9)⟩⟩,⟨_,rfl,.inl ⟨rfl,(e_fa XC')⟩⟩,⟨_,rfl,.inl ⟨rfl,(Zc' a188)⟩⟩,⟨_,rfl,.inl ⟨rfl,(e_fa Kb')⟩⟩,⟨_,rfl,.inl ⟨rfl,Zk'⟩⟩,⟨_,rfl,.inl ⟨rfl,Za'⟩⟩,trivial⟩,?_⟩
    refine RW.any (is:=[18]) rfl ⟨?_,trivial⟩
    refine RWat.h' rfl rfl rfl ?_
    refine (YI' (k:=c.key) (kvs:=List.map kvE es) Tryz.underlying188 (KT' Tryz.underlying9) ?_)
    refine ⟨trivial,?_⟩
    refine RW.done<|PO.blockN<|PO.next<|WP.reg<|WL.e (ZE' rfl rfl (Zt' (by omega) (by omega)))<|WL.e Za'<|WL.nil ?_
    rw [show ws1++[(⟨now+1,c.val,c.gone⟩:WasM)]=YU' (wsE es c.key) (now+1) c from hws1,show mset (List.map kvE es) c.key (.slice a5 n5 c5)=List.map kvE (setE es c.key ⟨a5,n5,c5⟩ (YU' (wsE es c.key) (now+1) c)) from Qp' es c.key ⟨a5,n5,c5⟩ _]
    refine PO.cls (A:=Ents 193 3 WasM.c (setE es c.key ⟨a5,n5,c5⟩ (YU' (wsE es c.key) (now+1) c))) (B:=[Sl 193 3 WasM.c (.slice a5 n5 c5) (YU' (wsE es c.key) (now+1) c),Ents 193 3 WasM.c (delE es c.key)]) (JG' es c.key ⟨a5,n5,c5⟩ (YU' (wsE es c.key) (now+1) c)) ?_
    exact PO.againK (i+1,(setE es c.key ⟨a5,n5,c5⟩ (YU' (wsE es c.key) (now+1) c))) ⟨by simp only;omega,by simp only;rw [Zjr_,ZA' hc0];exact hM.step hP.nowH (by omega) c hck⟩ (by simp only;omega)
  ·obtain rfl:i=cs.length:=by rw [decide_eq_false_iff_not] at h3;omega
   rw [List.take_length] at hM
   have hP2:=hM.done hP (by omega)
   refine WP.exit<|PO.past nofun<|PO.round nofun<|PO.blockX<|PO.next<|WP.seq<|WP.reg<|WL.e Za'<|WL.e Zk'<|WL.e (e_fa VF')<|WL.e (Zc' a24)<|WL.e Zb'<|WL.e Zb'<|WL.next<|WP.ret<|PO.conv (fun S h=>Yt' (show PastOk (List.map stE es) (now+1) trim (H++[cs]) from hP2) h) ?_
   refine PO.cls (A:=Pa p ((H++[cs])) trim) (B:=[pu (PastOk (List.map stE es) (now+1) trim (H++[cs])),cl p 190 [m,.int .u32 (now+1).toNat,.int .u32 trim.toNat],Mp eStr m (List.map kvE es),Ents 193 3 WasM.c es]) (fun S h=>⟨(m,es,(now+1)),h⟩) ?_
   rw [← hP.now_eq] at hK
   exact PO.fin Tryz.results61 (Zd' (Zd' Zf')) hK
end Go.SL
