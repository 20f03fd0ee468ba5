import Derived.Test.YtmeoolijekillaaGreatDoorQL24
set_option linter.unusedSimpArgs false
set_option linter.unusedVariables false
namespace Go.SL.Fc
open Go Go.Proofs Go.SL
theorem a396:aggOf Tryz.prog 396=some none:=by kernel_rfl
theorem a399:aggOf Tryz.prog 399=some none:=by kernel_rfl
theorem a401:aggOf Tryz.prog 401=some (some 3):=by kernel_rfl
theorem f398_0:fldOf Tryz.prog 398 0=some 0:=by kernel_rfl
theorem f398_1:fldOf Tryz.prog 398 1=some 1:=by kernel_rfl
theorem f398_2:fldOf Tryz.prog 398 2=some 2:=by kernel_rfl
theorem f401_0:fldOf Tryz.prog 401 0=some 0:=by kernel_rfl
theorem f401_1:fldOf Tryz.prog 401 1=some 1:=by kernel_rfl
theorem f401_2:fldOf Tryz.prog 401 2=some 2:=by kernel_rfl
theorem k269:callable Tryz.prog 269=true:=by kernel_rfl
theorem k420:callable Tryz.prog 420=true:=by kernel_rfl
theorem k425:callable Tryz.prog 425=true:=by kernel_rfl
theorem k436:callable Tryz.prog 436=true:=by kernel_rfl
theorem p398:placesOf Tryz.prog 398=some [(0,1),(1,1),(2,1)]:=by kernel_rfl
theorem pt321:isPtr Tryz.prog 321=true:=by kernel_rfl
theorem s401:szOf Tryz.prog 401=some 3:=by kernel_rfl
theorem sl399:slOf Tryz.prog 399=some (401,3,12):=by kernel_rfl
theorem z398:zeroOf Tryz.prog 398=some [.map none,.int .u32 0,.int .u32 0]:=by kernel_rfl
theorem z401:zeroOf Tryz.prog 401=some [.int .u32 0,.int .u32 0,.bool false]:=by kernel_rfl
theorem zz399:(Tryz.prog.info? 399).bind (·.zero)=some (.slice none 0 0):=by kernel_rfl
end Go.SL.Fc
namespace Go.SL
open Go Go.Proofs Fc
def Pa (p:Nat) (H:HistT) (trim:UInt32):HP:=fun S=>∃ x:Value × List (EntV ByteArray WasM) × UInt32,stars [pu (PastOk (List.map stE x.2.1) x.2.2 trim H),cl p 398 [x.1,.int .u32 x.2.2.toNat,.int .u32 trim.toNat],Mp eStr x.1 (List.map kvE x.2.1),Ents 401 3 WasM.c x.2.1] S
theorem Pa_op {p:Nat} {H:HistT} {trim:UInt32}:∀ S,Pa p H trim S→∃ x:Value × List (EntV ByteArray WasM) × UInt32,stars [pu (PastOk (List.map stE x.2.1) x.2.2 trim H),cl p 398 [x.1,.int .u32 x.2.2.toNat,.int .u32 trim.toNat],Mp eStr x.1 (List.map kvE x.2.1),Ents 401 3 WasM.c x.2.1] S:=fun _ h=>h
theorem PNew_spec {g:World}:Spec Tryz.prog g 213 [] [] fun K R=>∀ p,K (.pointer (some ⟨p,0,none⟩)) (Pa p [] 0::R):=by
 refine Spec.intro Tryz.func213 rfl Tryz.ntmps213 rfl fun R K hK=>?_
 refine WP.seq<|WP.reg<|WL.e e_assign<|WL.next<|WP.seq<|WP.reg ?_
 refine WL.h (h_makeMapB (ek:=eStr) fun nb=>?_)
 refine WL.e (e_build z398 p398 (.o (.tmp 1) rfl<|.z (.int .u32 0)<|.z (.int .u32 0)<|.n)) ?_
 refine WL.h (h_box fun b1=>?_)
 refine WL.e e_assign<|WL.next<|WP.ret<|PO.conv (fun S h=>Ents_nil (κ:=ByteArray) (E:=401) (z:=3) (enc:=WasM.c) h) ?_
 refine PO.conv (fun S h=>pu_stars (show PastOk (List.map stE []) 0 0 [] from PastOk.init) h) ?_
 refine PO.cls (A:=Pa b1 [] 0) (B:=[pu (PastOk (List.map stE []) 0 0 []),cl b1 398 [.map (some nb),.int .u32 (0:UInt32).toNat,.int .u32 (0:UInt32).toNat],Mp eStr (.map (some nb)) (List.map kvE []),Ents 401 3 WasM.c []]) (fun S h=>⟨(.map (some nb),[],0),h⟩) ?_
 exact PO.fin Tryz.results213 (rv_tmp rv_nil) (hK b1)
theorem Pthere_spec {g:World} {p:Nat} {H:List (List ChgM)} {trim:UInt32}:Spec Tryz.prog g 269 [.pointer (some ⟨p,0,none⟩)] [Pa p H trim] fun K R=>K (.bool true) (Pa p H trim::R):=by
 refine Spec.intro Tryz.func269 rfl Tryz.ntmps269 rfl fun R K hK=>?_
 refine WP.opn (Pa_op (p:=p) (H:=H) (trim:=trim)) fun x=>?_
 obtain ⟨m,es,now⟩:=x
 dsimp only
 refine WP.pull (φ:=PastOk (List.map stE es) now trim H) (k:=fun hP=>?_)
 refine WP.seq<|WP.reg<|WL.e e_assign<|WL.next<|WP.seq<|WP.reg<|WL.e e_move<|WL.e (e_pne pt321)<|WL.e e_move ?_
 refine WL.bool 5 rfl (fun h=>?_) (fun h=>?_)
 ·skip
  refine WL.e e_move<|WL.e e_nil<|WL.e (e_fa f398_0)<|WL.e (e_load a396)<|WL.e (e_mne Tryz.underlying396)<|WL.e e_pick_t<|WL.e e_assign<|WL.next<|WP.ret<|PO.conv (fun S h=>pu_stars (show PastOk (List.map stE es) now trim H from hP) h) ?_
  refine PO.cls (A:=Pa p H trim) (B:=[pu (PastOk (List.map stE es) now trim H),cl p 398 [m,.int .u32 now.toNat,.int .u32 trim.toNat],Mp eStr m (List.map kvE es),Ents 401 3 WasM.c es]) (fun S h=>⟨(m,es,now),h⟩) ?_
  exact PO.fin Tryz.results269 (rv_tmp rv_nil) hK
 ·cases h 
theorem PNow_spec {g:World} {p:Nat} {H:List (List ChgM)} {trim:UInt32}:Spec Tryz.prog g 412 [.pointer (some ⟨p,0,none⟩)] [Pa p H trim] fun K R=>K (.int .u32 (UInt32.ofNat H.length).toNat) (Pa p H trim::R):=by
 refine Spec.intro Tryz.func412 rfl Tryz.ntmps412 rfl fun R K hK=>?_
 refine WP.seq<|WP.reg<|WL.e e_assign<|WL.next<|WP.seq<|WP.seq<|WP.reg<|WL.e e_move ?_
 refine WL.h (h_call (Pthere_spec) k269 ?_)
 refine WL.e e_not<|WL.next<|WP.cond_f rfl<|WP.opn (Pa_op (p:=p) (H:=H) (trim:=trim)) fun x=>?_
 obtain ⟨m,es,now⟩:=x
 dsimp only
 refine WP.pull (φ:=PastOk (List.map stE es) now trim H) (k:=fun hP=>?_)
 refine WP.skip<|PO.next<|WP.seq<|WP.reg<|WL.e e_move<|WL.e e_nil<|WL.e (e_fa f398_1)<|WL.e (e_load a35)<|WL.e e_assign<|WL.next<|WP.ret<|PO.conv (fun S h=>pu_stars (show PastOk (List.map stE es) now trim H from hP) h) ?_
 refine PO.cls (A:=Pa p H trim) (B:=[pu (PastOk (List.map stE es) now trim H),cl p 398 [m,.int .u32 now.toNat,.int .u32 trim.toNat],Mp eStr m (List.map kvE es),Ents 401 3 WasM.c es]) (fun S h=>⟨(m,es,now),h⟩) ?_
 rw [← hP.now_eq] at hK
 exact PO.fin Tryz.results412 (rv_tmp rv_nil) hK
def bwC (x:Nat × WasM):List Value:=[.int .i64 x.1,.agg (WasM.c x.2).toArray]
theorem Backw_spec {g:World} {u:SV}:Spec Tryz.prog g 425 [u.v] [] fun K R=>∀ b,K (.func (.func 436) #[] #[.pointer (some ⟨b,0,none⟩)]) (cl b 399 [u.v]::R):=by
 refine Spec.intro Tryz.func425 rfl Tryz.ntmps425 rfl fun R K hK=>?_
 refine WP.seq<|WP.reg ?_
 refine WL.h (h_box fun b1=>?_)
 refine WL.e e_assign<|WL.next<|WP.seq<|WP.reg<|WL.e e_makeFunc<|WL.e e_assign<|WL.next<|WP.ret ?_
 exact PO.fin Tryz.results425 (rv_tmp rv_nil) (hK b1)
theorem backw_iter {g:World} {A:HP} {u:SV} {ws:List WasM} {b:Nat} (hA:RL A 3 WasM.c u.v ws) (hn:ws.length≤68719476736):Iter Tryz.prog g 436 (fun y=>[]++[y]++[.pointer (some ⟨b,0,none⟩)]) [cl b 399 [u.v],A] bwC (fun _=>pu True) (fun xs=>xs=bwdK ws ws.length) (fun pre=>∃ r,pre++r=bwdK ws ws.length) [cl b 399 [u.v],A]:=by
 intro y J X cont hy
 refine Spec.intro Tryz.func436 rfl Tryz.ntmps436 rfl fun R K hK=>?_
 refine WP.seq<|WP.reg<|WL.e (e_load a399)<|WL.e (el_len (xs:=ws) sl399 hA)<|WL.e (e_sub (c:=((ws.length:Int) - 1)) rfl rfl (by rw [w_i64 (by omega) (by omega)]))<|WL.e e_assign<|WL.next<|WP.block<|WP.loopK (fun (x:Nat × List (Nat × WasM))=>[(3,.int .i64 ((x.1:Int) - 1))]) (fun (x:Nat × List (Nat × WasM))=>J x.2::cl b 399 [u.v]::A::R) [(0,_),(1,_)] (fun (x:Nat × List (Nat × WasM))=>x.1≤ws.length∧x.2++bwdK ws x.1=bwdK ws ws.length∧Hist cont x.2) (fun (x:Nat × List (Nat × WasM))=>x.1) (ws.length,[]) (⟨Nat.le_refl _,rfl,Hist.nil⟩) ?_
 rintro ⟨k,pre⟩ ⟨hk,hp,hh⟩
 simp only at hk hp hh
 dsimp only
 refine WP.seq<|WP.seq<|WP.reg<|WL.e e_move<|WL.e e_geq<|WL.next ?_
 refine WP.cond rfl (fun h1=>?_) (fun h1=>?_)
 ·obtain ⟨j,rfl⟩:∃ j,k=j+1:=⟨k - 1,by simp at h1;omega⟩
  obtain ⟨w,hw⟩:∃ w,ws[j]?=some w:=⟨_,List.getElem?_eq_getElem (by omega)⟩
  have hpj:pre++([(j,w)]++bwdK ws j)=bwdK ws ws.length:=by rw [← hp];simp [bwdK,hw]
  rw [show (((j+1:Nat):Int) - 1)=(j:Int) by omega]
  refine WP.skip<|PO.next<|WP.seq<|WP.block<|WP.seq<|WP.reg<|WL.e e_move<|WL.e e_move<|WL.e (e_load a399)<|WL.e e_move<|WL.e (el_ia (j:=j) (xs:=ws) sl399 hA (by omega))<|WL.e (el_loadN (a:=w) a401 wasE hA hw) ?_
  refine WL.h (HO.conv (fun S h=>pu_stars trivial h) (h_cally (hy pre (j,w) ⟨_,by rw [List.append_assoc];exact hpj⟩ hh) ?_))
  refine ⟨fun hc=>?_,fun hc=>?_⟩
  ·skip
   refine WL.e e_not<|WL.next<|WP.cond_f rfl<|WP.skip<|PO.blockN<|PO.next<|WP.reg<|WL.e e_move<|WL.e (e_sub (c:=((j:Int) - 1)) rfl rfl (by rw [w_i64 (by omega) (by omega)]))<|WL.e e_assign<|WL.nil ?_
   exact PO.againK (j,pre++[(j,w)]) ⟨by simp only;omega,by simp only;rw [List.append_assoc];exact hpj,hh.snoc hc⟩ (by simp only;omega)
  ·skip
   refine WL.e e_not<|WL.next<|WP.cond_t rfl<|WP.ret<|PO.blockR<|PO.past nofun<|PO.round nofun<|PO.blockR ?_
   exact PO.fin Tryz.results436 rv_nil (hK.2 pre (j,w) ⟨_,by rw [List.append_assoc];exact hpj⟩ hh hc)
 ·obtain rfl:k=0:=by simp at h1;omega
  refine WP.exit<|PO.past nofun<|PO.round nofun<|PO.blockX ?_
  exact PO.fin Tryz.results436 rv_nil (hK.1 pre (by simpa [bwdK] using hp) hh)
def FdJ (b1 b2 b3:Nat) (n:UInt32):HP:=fun S=>∃ _:Unit,stars [cl b1 35 [.int .u32 n.toNat],cl b2 35 [.int .u32 0],cl b3 4 [.bool false]] S
def FdX (b1 b2 b3:Nat) (n:UInt32) (w:WasM) (j:Code):HP:=fun S=>∃ _:{ u:Unit // j=.ret },stars [cl b1 35 [.int .u32 n.toNat],cl b2 35 [.int .u32 w.val.toNat],cl b3 4 [.bool (!w.gone)]] S
theorem find1_spec {g:World} {p:Nat} {A:HP} {m:Value} {now trim:UInt32} {es:List (EntV ByteArray WasM)} (n:UInt32) (k:ByteArray) (hA:RdM A eStr m (List.map kvE es)) (hn:(wsE es k).length≤68719476736) :
  Spec Tryz.prog g 420 [.pointer (some ⟨p,0,none⟩),.int .u32 n.toNat,.string k] [cl p 398 [m,.int .u32 now.toNat,.int .u32 trim.toNat],A,Ents 401 3 WasM.c es] fun K R=>K (.tuple #[.int .u32 (findP (wsE es k) (if n < trim then trim else n)).1.toNat,.bool (findP (wsE es k) (if n < trim then trim else n)).2]) (cl p 398 [m,.int .u32 now.toNat,.int .u32 trim.toNat]::A::Ents 401 3 WasM.c es::R):=by
 refine Spec.intro Tryz.func420 rfl Tryz.ntmps420 rfl fun R K hK=>?_
 refine WP.seq<|WP.reg ?_
 refine WL.h (h_box fun b1=>?_)
 refine WL.h (h_alloc z35 fun b2=>?_)
 refine WL.h (h_alloc z4 fun b3=>?_)
 refine WL.next<|WP.seq<|WP.draws mixedOk 7<|RW.e 0 rfl (e_load a35)<|RW.e 1 rfl e_move<|RW.e 2 rfl e_nil<|RW.e 3 rfl (e_fa f398_2)<|RW.e 4 rfl (e_load a35)<|RW.e 5 rfl e_max32 ?_
 refine RW.any (is:=[6]) rfl ⟨?_,trivial⟩
 refine RWat.h' rfl rfl rfl ?_
 refine (h_store s35 ?_)
 refine ⟨trivial,?_⟩
 refine RW.done<|PO.next<|WP.seq<|WP.seq<|WP.reg<|WL.e e_move<|WL.e e_nil<|WL.e (e_fa f398_0)<|WL.e (e_load a396)<|WL.e e_move<|WL.e (em_lookE (k:=k) (es:=es) Tryz.underlying396 (key_str Tryz.underlying9) zz399 hA) ?_
 refine WL.h (h_call (Backw_spec (u:=svE es k)) k425 ?_)
 intro b4
 refine WL.next<|WP.block<|WP.cls (A:=FdJ b1 b2 b3 (if n < trim then trim else n)) (B:=[cl b1 35 [.int .u32 (if n < trim then trim else n).toNat],cl b2 35 [.int .u32 0],cl b3 4 [.bool false]]) (fun S h=>⟨(),h⟩) ?_
 refine WP.range (R:=?RR) (f:=436) (fs:=[]) (cs:=[.pointer (some ⟨b4,0,none⟩)]) (fun _=>FdJ b1 b2 b3 (if n < trim then trim else n)) (fun _ x=>FdX b1 b2 b3 (if n < trim then trim else n) x.2) (fun _ x=>¬ x.2.at_≤(if n < trim then trim else n)) (backw_iter (b:=b4) (u:=svE es k) (ws:=wsE es k) (ents_key (E:=401) k) hn) k436 ?hLL ?_ ?_ ?_ (fun _=>rfl)
 case hLL=>repeat first | exact .nil | exact Pick.z | apply Pick.s | apply Split.cons
 ·rintro lb db fn tmps pre x R2 hp hh
  refine WP.opn (B:=fun _:Unit=>[cl b1 35 [.int .u32 (if n < trim then trim else n).toNat],cl b2 35 [.int .u32 0],cl b3 4 [.bool false]]) (fun _ h=>h) fun _=>?_
  refine WP.reg ?_
  refine WL.h (h_alloc z401 fun b4=>?_)
  refine WL.h' (h_store s401 ?_)
  refine WL.nil<|PO.asg rfl (by repeat first | exact .z | apply Put.s)<|WP.block<|WP.seq<|WP.reg<|WL.e (e_fa f401_0)<|WL.e (e_load a35)<|WL.e (e_load a35)<|WL.e e_leq<|WL.next ?_
  refine WP.cond rfl (fun h5=>?_) (fun h5=>?_)
  ·replace h5:x.2.at_≤(if n < trim then trim else n):=of_le32 h5
   refine WP.seq<|WP.draws mixedOk 7<|RW.e 0 rfl (e_fa f401_1)<|RW.e 1 rfl (e_load a35)<|RW.e 2 rfl (e_fa f401_2)<|RW.e 3 rfl (e_load a4)<|RW.e 4 rfl e_not ?_
   refine RW.any (is:=[5]) rfl ⟨?_,trivial⟩
   refine RWat.h' rfl rfl rfl ?_
   refine (h_store s35 ?_)
   refine ⟨⟨⟨_,rfl,.inl ⟨rfl,e_not⟩⟩,⟨_,rfl,.inl ⟨rfl,(e_load a4)⟩⟩,⟨_,rfl,.inl ⟨rfl,(e_fa f401_2)⟩⟩,trivial⟩,?_⟩
   refine RW.any (is:=[6]) rfl ⟨?_,trivial⟩
   refine RWat.h' rfl rfl rfl ?_
   refine (h_store s4 ?_)
   refine ⟨trivial,?_⟩
   refine RW.done<|PO.next<|WP.ret<|PO.blockR<|PO.cls (A:=FdX b1 b2 b3 (if n < trim then trim else n) x.2 .ret) (B:=[cl b1 35 [.int .u32 (if n < trim then trim else n).toNat],cl b2 35 [.int .u32 x.2.val.toNat],cl b3 4 [.bool (!x.2.gone)]]) (fun S h=>⟨⟨(),rfl⟩,h⟩) ?_
   exact PO.rnd_ret (fun h=>h h5) (by repeat first | exact .refl | exact Pick.z | apply Pick.s | apply Sub.cons | apply Sub.drop)
  ·replace h5:¬ x.2.at_≤(if n < trim then trim else n):=of_nle32 h5
   refine WP.skip<|PO.blockN<|PO.cls (A:=FdJ b1 b2 b3 (if n < trim then trim else n)) (B:=[cl b1 35 [.int .u32 (if n < trim then trim else n).toNat],cl b2 35 [.int .u32 0],cl b3 4 [.bool false]]) (fun S h=>⟨(),h⟩) ?_
   exact PO.rnd h5 (by repeat first | exact .refl | exact Pick.z | apply Pick.s | apply Sub.cons | apply Sub.drop)
 ·rintro db xs rfl hh
  have hfp:findP (wsE es k) (if n < trim then trim else n)=(0,false):=findP_none hh
  refine PO.opn (B:=fun _:Unit=>[cl b1 35 [.int .u32 (if n < trim then trim else n).toNat],cl b2 35 [.int .u32 0],cl b3 4 [.bool false]]) (fun _ h=>h) fun _=>?_
  refine PO.blockN<|PO.next<|WP.seq<|WP.reg ?_
  refine WL.h' (h_store s35 ?_)
  refine WL.h' (h_store s4 ?_)
  refine WL.next<|WP.ret ?_
  rw [hfp] at hK
  exact PO.finM (by repeat first | exact .z | apply Put.s) Tryz.results420 (rv_cell a35 (rv_cell a4 rv_nil)) hK
 ·rintro db pre x j hp hh hc
  have hfp:findP (wsE es k) (if n < trim then trim else n)=(x.2.val,!x.2.gone):=findP_some hp hh hc
  refine WP.opn (B:=fun sv:{ u:Unit // j=.ret }=>[cl b1 35 [.int .u32 (if n < trim then trim else n).toNat],cl b2 35 [.int .u32 x.2.val.toNat],cl b3 4 [.bool (!x.2.gone)]]) (fun _ h=>h) fun u=>?_
  obtain ⟨_,rfl⟩:=u
  refine WP.ret<|PO.blockR<|PO.past nofun ?_
  rw [hfp] at hK
  exact PO.finM (by repeat first | exact .z | apply Put.s) Tryz.results420 (rv_cell a35 (rv_cell a4 rv_nil)) hK
theorem PScan_spec {g:World} {p:Nat} {H:List (List ChgM)} {trim:UInt32} (n:UInt32) (sp:SpanM) (most:Nat) (h1:trim≤n) (h2:n.toNat≤H.length) (hb:H.flatten.length≤1000000000) (hb2:H.length < 4294967295) (hm:most≤68719476000) :
  Spec Tryz.prog g 411 [.pointer (some ⟨p,0,none⟩),.int .u32 n.toNat,sp.v,.int .i64 most] [Pa p H trim] fun K R=>∀ a m c,K (.slice a m c) (Sl 59 2 RowM.c (.slice a m c) (scanR (rowsN H n.toNat) sp most)::Pa p H trim::R):=by
 refine Spec.intro Tryz.func411 rfl Tryz.ntmps411 rfl fun R K hK=>?_
 refine WP.seq<|WP.reg ?_
 refine WL.h (h_box fun b1=>?_)
 refine WL.e e_assign<|WL.next<|WP.seq<|WP.seq<|WP.reg<|WL.e e_move ?_
 refine WL.h (h_call (Pthere_spec) k269 ?_)
 refine WL.e e_not<|WL.next<|WP.cond_f rfl<|WP.opn (Pa_op (p:=p) (H:=H) (trim:=trim)) fun x=>?_
 obtain ⟨m,es,now⟩:=x
 dsimp only
 refine WP.pull (φ:=PastOk (List.map stE es) now trim H) (k:=fun hP=>?_)
 have hnow:n≤now:=by rw [UInt32.le_iff_toNat_le,hP.nowH];exact h2
 have hes:es.length≤1000000000:=by have:=hP.size;rw [List.length_map] at this;omega
 refine WP.skip<|PO.next<|WP.seq<|WP.reg ?_
 refine WL.h (h_call (MNew_spec) k53 ?_)
 intro mp
 refine WL.e e_assign<|WL.next<|WP.seq<|WP.seq<|WP.reg<|WL.e e_move<|WL.e e_nil<|WL.e (e_fa f398_0)<|WL.e (e_load a396) ?_
 refine WL.h (h_range (kvs:=List.map kvE es) Tryz.underlying396 fun it=>?_)
 refine WL.next<|WP.block<|WP.loopK (fun (x:List (EntV ByteArray WasM) × List RowM × Option (ByteArray × Value))=>[]) (fun (x:List (EntV ByteArray WasM) × List RowM × Option (ByteArray × Value))=>cl p 398 [m,.int .u32 now.toNat,.int .u32 trim.toNat]::MpIt eStr m it (List.map kvE es) (List.map kvE x.1) x.2.2::Ents 401 3 WasM.c es::Mm mp x.2.1::cl b1 132 sp.c::R) [(0,_),(1,_),(3,_),(6,_),(8,_),(9,_),(21,_)] (fun (x:List (EntV ByteArray WasM) × List RowM × Option (ByteArray × Value))=>(∀ y ∈ x.1,y ∈ es)∧ScanI (List.map stE es) n (List.map (·.key) x.1) x.2.1∧x.2.1.length+x.1.length≤es.length) (fun (x:List (EntV ByteArray WasM) × List RowM × Option (ByteArray × Value))=>x.1.length) (es,[],none) (⟨fun _ h=>h,ScanI.first (keys_st es) hP.nodup n,by simp⟩) ?_
 rintro ⟨left,rows,cur⟩ ⟨hx1,hx2,hx3⟩
 simp only at hx1 hx2 hx3
 dsimp only
 refine WP.seq<|WP.reg ?_
 refine WL.h (h_next (fun h0=>?_) (fun a y0 b hx=>?_))
 ·have hl0:left=[]:=by simpa using h0
  subst hl0
  have hrows:rows=rowsN H n.toNat:=hx2.done hP h1 hnow
  refine WL.e e_extract<|WL.next<|WP.seq<|WP.cond_f rfl<|WP.exit<|PO.past nofun<|PO.round nofun<|PO.blockX<|PO.next<|WP.seq<|WP.reg<|WL.e e_move<|WL.e (e_loadN a132)<|WL.e e_move ?_
  refine WL.h (h_call (Scan_spec (l:=rows) sp most hx2.rising (by omega) hm) k172 ?_)
  intro a9 m9 c9
  rw [hrows]
  refine WL.e e_assign<|WL.next<|WP.ret<|PO.conv (fun S h=>pu_stars (show PastOk (List.map stE es) now trim H from hP) h) ?_
  refine PO.cls (A:=Pa p H trim) (B:=[pu (PastOk (List.map stE es) now trim H),cl p 398 [m,.int .u32 now.toNat,.int .u32 trim.toNat],Mp eStr m (List.map kvE es),Ents 401 3 WasM.c es]) (fun S h=>⟨(m,es,now),h⟩) ?_
  exact PO.fin Tryz.results411 (rv_tmp rv_nil) (hK a9 m9 c9)
 ·obtain ⟨A1,y,B1,hl,rfl,rfl,rfl⟩:=map_mid hx
  have hsub:∀ z ∈ A1++B1,z ∈ es:=fun z hz=>hx1 z (by rw [hl];simp only [List.mem_append,List.mem_cons] at hz ⊢;rcases hz with h | h;exact .inl h;exact .inr (.inr h))
  have hyin:y ∈ es:=hx1 y (by simp [hl])
  have hnd:(es.map (·.key)).Nodup:=by rw [keys_st];exact hP.nodup
  have hfe:=findE_mem hnd hyin
  have hwe:wsE es y.key=y.ws:=by unfold wsE;rw [hfe]
  have hgy:getS (List.map stE es) y.key=some y.ws:=by rw [getS_st,hfe];rfl
  have hl2:List.map (·.key) left=List.map (·.key) A1++y.key::List.map (·.key) B1:=by rw [hl];simp
  have hky:keyOk y.key=true:=hP.keys (stE y) (List.mem_map.2 ⟨y,hyin,rfl⟩)
  have hlw:y.ws.length≤68719476736:=by have h7:=hP.lens (stE y) (List.mem_map.2 ⟨y,hyin,rfl⟩);have h8:(stE y).2=y.ws:=rfl;rw [h8] at h7;omega
  refine WL.e e_extract<|WL.next<|WP.seq<|WP.cond_t rfl<|WP.skip<|PO.next<|WP.block<|WP.seq<|WP.reg<|WL.e e_entry<|WL.e e_extract<|WL.e e_assign<|WL.next<|WP.seq<|WP.reg<|WL.e e_move<|WL.e e_move<|WL.e e_move ?_
  refine WL.h (h_call (find1_spec (es:=es) n y.key mpit_rdm (by rw [hwe];exact hlw)) k420 ?_)
  rw [hwe,show (if n < trim then trim else n)=n from if_neg (UInt32.not_lt.2 h1)]
  refine WL.e e_move<|WL.e e_extract<|WL.e e_extract<|WL.e e_assign<|WL.e e_assign<|WL.next<|WP.seq<|WP.reg<|WL.e e_move<|WL.next ?_
  refine WP.cond rfl (fun h9=>?_) (fun h9=>?_)
  ·skip
   refine WP.reg<|WL.e e_move<|WL.e e_move<|WL.e e_move ?_
   refine WL.h (h_call (MPut_spec y.key (findP y.ws n).1 hx2.rising (by omega) hky) k55 ?_)
   refine WL.nil<|PO.blockN ?_
   rw [← List.map_append]
   exact PO.againK (A1++B1,setR rows y.key (findP y.ws n).1,_) ⟨hsub,by simp only [List.map_append];exact hx2.put hl2 hgy h9,by simp only;have:=(setR_spec hx2.rising y.key (findP y.ws n).1).2.2;simp only [hl,List.length_append,List.length_cons] at hx3 ⊢;omega⟩ (by simp only [hl,List.length_append,List.length_cons];omega)
  ·skip
   refine WP.skip<|PO.blockN ?_
   rw [← List.map_append]
   exact PO.againK (A1++B1,rows,_) ⟨hsub,by simp only [List.map_append];exact hx2.skip hl2 hgy h9,by simp only;simp only [hl,List.length_append,List.length_cons] at hx3 ⊢;omega⟩ (by simp only [hl,List.length_append,List.length_cons];omega)
end Go.SL
namespace Go.SL.Fc
open Go Go.Proofs Go.SL
theorem a321:aggOf Tryz.prog 321=some none:=by kernel_rfl
theorem a323:aggOf Tryz.prog 323=some none:=by kernel_rfl
theorem f325_1:fldOf Tryz.prog 325 1=some 1:=by kernel_rfl
theorem f325_2:fldOf Tryz.prog 325 2=some 2:=by kernel_rfl
theorem k411:callable Tryz.prog 411=true:=by kernel_rfl
theorem k412:callable Tryz.prog 412=true:=by kernel_rfl
theorem pt257:isPtr Tryz.prog 257=true:=by kernel_rfl
end Go.SL.Fc
namespace Go.SL
open Go Go.Proofs Fc
def TxB_ (t:TxT):HP:=fun S=>∃ x:SV × SV,stars [cl t.q 521 [.int .u32 t.x.at_.toNat,x.1.v,x.2.v],Sl 132 2 SpanM.c x.1.v t.x.looked,Sl 388 3 ChgM.c x.2.v t.x.own] S
def TPB (t:TxT):List HP:=[TxB_ t]
def Bs (p dp:Nat) (s:StV):HP:=fun S=>∃ x:Nat × Nat × Nat,stars [cl p 325 [.pointer (some ⟨x.1,0,none⟩),.pointer (some ⟨x.2.1,0,none⟩),.map (some x.2.2)],cl x.1 246 [.pointer (some ⟨dp,0,none⟩),.int .i64 s.at_],Dk dp s.d,Pa x.2.1 s.H s.trim,Mp eU32 (.map (some x.2.2)) (List.map kvU s.txs)] S
theorem Bs_op {p dp:Nat} {s:StV}:∀ S,Bs p dp s S→∃ x:Nat × Nat × Nat,stars [cl p 325 [.pointer (some ⟨x.1,0,none⟩),.pointer (some ⟨x.2.1,0,none⟩),.map (some x.2.2)],cl x.1 246 [.pointer (some ⟨dp,0,none⟩),.int .i64 s.at_],Dk dp s.d,Pa x.2.1 s.H s.trim,Mp eU32 (.map (some x.2.2)) (List.map kvU s.txs)] S:=fun _ h=>h
theorem Bthere_spec {g:World} {p dp:Nat} {s:StV}:Spec Tryz.prog g 406 [.pointer (some ⟨p,0,none⟩)] [Bs p dp s] fun K R=>K (.bool true) (Bs p dp s::R):=by
 refine Spec.intro Tryz.func406 rfl Tryz.ntmps406 rfl fun R K hK=>?_
 refine WP.opn (Bs_op (p:=p) (dp:=dp) (s:=s)) fun x=>?_
 obtain ⟨lp,pp,mb⟩:=x
 dsimp only
 refine WP.seq<|WP.reg<|WL.e e_assign<|WL.next<|WP.seq<|WP.reg<|WL.e e_move<|WL.e (e_pne pt257)<|WL.e e_move ?_
 refine WL.bool 5 rfl (fun h=>?_) (fun h=>?_)
 ·skip
  refine WL.e e_move<|WL.e e_nil<|WL.e (e_fa f325_2)<|WL.e (e_load a323)<|WL.e (e_mne Tryz.underlying323)<|WL.e e_pick_t<|WL.e e_assign<|WL.next<|WP.ret<|PO.cls (A:=Bs p dp (s)) (B:=[cl p 325 [.pointer (some ⟨lp,0,none⟩),.pointer (some ⟨pp,0,none⟩),.map (some mb)],cl lp 246 [.pointer (some ⟨dp,0,none⟩),.int .i64 s.at_],Dk dp s.d,Pa pp s.H s.trim,Mp eU32 (.map (some mb)) (List.map kvU s.txs)]) (fun S h=>⟨(lp,pp,mb),h⟩) ?_
  exact PO.fin Tryz.results406 (rv_tmp rv_nil) hK
 ·cases h 
end Go.SL
namespace Go.SL.Fc
end Go.SL.Fc
namespace Go.SL
open Go Go.Proofs Fc
end Go.SL
namespace Go.SL.Fc
open Go Go.Proofs Go.SL
theorem k213:callable Tryz.prog 213=true:=by kernel_rfl
theorem k406:callable Tryz.prog 406=true:=by kernel_rfl
theorem k97:callable Tryz.prog 97=true:=by kernel_rfl
theorem p325:placesOf Tryz.prog 325=some [(0,1),(1,1),(2,1)]:=by kernel_rfl
theorem pt519:isPtr Tryz.prog 519=true:=by kernel_rfl
theorem z325:zeroOf Tryz.prog 325=some [.pointer none,.pointer none,.map none]:=by kernel_rfl
theorem zz519:(Tryz.prog.info? 519).bind (·.zero)=some (.pointer none):=by kernel_rfl
end Go.SL.Fc
namespace Go.SL
open Go Go.Proofs Fc
theorem BRows_spec {g:World} {p dp b:Nat} {s:StV} (hs:BetOk s b):Spec Tryz.prog g 404 [.pointer (some ⟨p,0,none⟩)] [Bs p dp s] fun K R=>∀ a m c,K (.slice a m c) (Sl 59 2 RowM.c (.slice a m c) s.rows::Bs p dp s::R):=by
 refine Spec.intro Tryz.func404 rfl Tryz.ntmps404 rfl fun R K hK=>?_
 refine WP.seq<|WP.reg<|WL.e e_assign<|WL.next<|WP.seq<|WP.seq<|WP.reg<|WL.e e_move ?_
 refine WL.h (h_call (Bthere_spec) k406 ?_)
 refine WL.e e_not<|WL.next<|WP.cond_f rfl<|WP.opn (Bs_op (p:=p) (dp:=dp) (s:=s)) fun x=>?_
 obtain ⟨lp,pp,mb⟩:=x
 dsimp only
 have hbb:=hs.st.bb
 have hhl:=hs.st.hl
 have hsum:=hs.st.sum
 refine WP.skip<|PO.next<|WP.seq<|WP.draws mixedOk 12<|RW.e 0 rfl e_move<|RW.e 1 rfl e_nil<|RW.e 2 rfl (e_fa f325_1)<|RW.e 3 rfl (e_load a321)<|RW.e 4 rfl e_move<|RW.e 5 rfl e_nil<|RW.e 6 rfl (e_fa f325_1)<|RW.e 7 rfl (e_load a321)<|RW.e 9 rfl (e_build z132 p132 (.o (.const (.string ⟨#[48]⟩)) rfl<|.o (.const (.string ⟨#[122,122,122,122,122,122,122,122,122,122,122,122,122,122,122,122]⟩)) rfl<|.n)) ?_
 refine RW.any (is:=[8]) rfl ⟨?_,trivial⟩
 refine RWat.h rfl rfl rfl ?_
 refine (h_call (PNow_spec) k412 ?_)
 refine ⟨⟨⟨_,rfl,.inl ⟨rfl,(e_build z132 p132 (.o (.const (.string ⟨#[48]⟩)) rfl<|.o (.const (.string ⟨#[122,122,122,122,122,122,122,122,122,122,122,122,122,122,122,122]⟩)) rfl<|.n))⟩⟩,⟨_,rfl,.inl ⟨rfl,(e_load a321)⟩⟩,⟨_,rfl,.inl ⟨rfl,(e_fa f325_1)⟩⟩,⟨_,rfl,.inl ⟨rfl,e_nil⟩⟩,⟨_,rfl,.inl ⟨rfl,e_move⟩⟩,trivial⟩,?_⟩
 refine RW.any (is:=[10]) rfl ⟨?_,trivial⟩
 refine RWat.h rfl rfl rfl ?_
 refine (h_call (PScan_spec (p:=pp) (H:=s.H) (trim:=s.trim) (UInt32.ofNat s.H.length) allSpan 2147483647 (by rw [UInt32.le_iff_toNat_le,len32 hs.st];exact hs.trim) (by rw [len32 hs.st];exact Nat.le_refl _) (by omega) (by omega) (by decide)) k411 ?_)
 rw [len32 hs.st,scan_all (rowsN_rising _ _) (keys_rowsN (fun cs hcs=>(hs.st.recs cs hcs).2) _) (by have:=rowsN_len s.H s.H.length;omega)]
 intro a9 m9 c9
 refine ⟨trivial,?_⟩
 refine RW.e 11 rfl e_assign<|RW.done<|PO.next<|WP.ret<|PO.cls (A:=Bs p dp (s)) (B:=[cl p 325 [.pointer (some ⟨lp,0,none⟩),.pointer (some ⟨pp,0,none⟩),.map (some mb)],cl lp 246 [.pointer (some ⟨dp,0,none⟩),.int .i64 s.at_],Dk dp s.d,Pa pp s.H s.trim,Mp eU32 (.map (some mb)) (List.map kvU s.txs)]) (fun S h=>⟨(lp,pp,mb),h⟩) ?_
 exact PO.fin Tryz.results404 (rv_tmp rv_nil) (hK a9 m9 c9)
end Go.SL
set_option linter.unusedSectionVars false
namespace Go.SL
open Go
structure TxV where
  id:UInt32
  num:UInt32
  own:List ChgM
  q:Nat
  sv:SV
structure GamV where
  d:DiskM
  at_:Nat
  rows:List RowM
  nums:List (ByteArray × UInt32)
  last:UInt32
  looks:List (UInt32 × SpanM)
  txs:List TxV
def findT (ts:List TxV) (n:UInt32):Option TxV:=ts.find? fun t=>decide (t.id=n)
def delT (ts:List TxV) (n:UInt32):List TxV:=ts.eraseP fun t=>decide (t.id=n)
def kvT (t:TxV):UInt32 × Value:=(t.id,.pointer (some ⟨t.q,0,none⟩))
theorem mget_kv (ts:List TxV) (n:UInt32):mget (ts.map kvT) n=(findT ts n).map fun t=>.pointer (some ⟨t.q,0,none⟩):=by
  unfold mget findT
  induction ts with
  | nil=>rfl
  | cons t ts ih=>
    simp only [List.map_cons,List.find?_cons,kvT]
    by_cases h:t.id=n
    · simp [h]
    · simp only [h,decide_false];exact ih
def minL (ts:List TxV) (m:UInt32):UInt32:=ts.foldl (fun m t=>if t.num < m then t.num else m) m
def endsG (s:GamV) (n:UInt32):GamV:=
  { s with txs:=delT s.txs n,looks:=s.looks.filter fun x=>!decide (x.1 < minL (delT s.txs n) s.last) }
def changes (t:TxV) (p:SpanM):Bool:=t.own.any fun c=>meet (one c.key) p
def underL (ts:List TxV) (n:UInt32) (p:SpanM):List UInt32:=(ts.filter fun o=>!decide (o.id=n) && changes o p).map (·.num)
def lateG (s:GamV) (t:TxV) (p:SpanM) (w:Bool):Bool:=
  numsLate s.nums t.num p || (w && ((underL s.txs t.id p).any (fun n=>decide (t.num < n)) || s.looks.any fun x=>decide (t.num < x.1) && meet x.2 p))
structure GI where
  lp:Nat
  mp:Nat
  nm:Value
  lm:Value
  sv:SV
theorem find_mid {ts:List TxV} {n:UInt32} {t:TxV} (h:findT ts n=some t):t.id=n∧∃ A B,ts=A++t::B∧delT ts n=A++B∧∀ x ∈ A,x.id≠n:=by
  unfold findT at h
  induction ts with
  | nil=>simp at h
  | cons x ts ih=>
    rw [List.find?_cons] at h
    by_cases e:x.id=n
    · simp [e] at h;subst h
      exact ⟨e,[],ts,rfl,by simp [delT,e],by simp⟩
    · simp [e] at h
      obtain ⟨h1,A,B,h2,h3,h4⟩:=ih (by simpa using h)
      refine ⟨h1,x::A,B,by simp [h2],by simp only [delT,List.eraseP_cons,e,decide_false,cond_false,List.cons_append] at h3 ⊢;rw [h3],?_⟩
      intro y hy
      rcases List.mem_cons.1 hy with rfl | hy
      · exact e
      · exact h4 y hy
theorem nodup_mid {A B:List TxV} {t:TxV} (h:((A++t::B).map (·.id)).Nodup):∀ x ∈ A++B,x.id≠t.id:=by
  rw [List.map_append,List.map_cons] at h
  obtain ⟨h1,h2,h3⟩:=List.nodup_append.1 h
  have h4:=(List.nodup_cons.1 h2).1
  intro x hx e
  rcases List.mem_append.1 hx with hx | hx
  · exact h3 x.id (List.mem_map.2 ⟨x,hx,rfl⟩) t.id (by simp) e
  · exact h4 (e ▸ List.mem_map.2 ⟨x,hx,rfl⟩)
structure GamOk (s:GamV) (b:Nat):Prop where
  dok:s.d.ok
  hat:s.at_≤s.d.sure.length
  waits:s.d.waits=[]
  rising:Rising s.rows
  sum:s.rows.length+(s.txs.map fun t=>t.own.length).sum≤b
  looks:s.looks.length≤b
  ids:(s.txs.map (·.id)).Nodup
  own:∀ t ∈ s.txs,∀ c ∈ t.own,chgOk c=true
  bb:b≤1000000000
theorem GamOk.own_le {s:GamV} {b:Nat} (h:GamOk s b) {t:TxV} (ht:t ∈ s.txs):s.rows.length+t.own.length≤b:=by
  have:=h.sum
  obtain ⟨A,B,e⟩:=mem_mid ht
  rw [e] at this
  simp at this;omega
section
variable {P : Program} {r : Option Nat} {g : World} {Γ : Env} {L M : List HP} {dst : Option Tmp} {t : TypeId} {pos : String} {aft : Array Edge} {gd : Option (Nat × Bool)}
theorem e_lookT {x i:Operand} {T e kt:TypeId} {d:TypeDesc} {n:UInt32} {ts:List TxV} {m:Value} (ht:P.underlying T=some (.map kt e)) (hk:KeyOk P kt d eU32) (hz:(P.info? e).bind (·.zero)=some (.pointer none)) (hx:ev Γ x=some m:=by rfl) (hi:ev Γ i=some (.int .u32 n.toNat):=by rfl) (hp:Pick L (Mp eU32 m (List.map kvT ts)) M:=by repeat first | exact .z | apply Pick.s) :
    EO P g ⟨dst,.lookup T x i false,t,pos,aft,gd⟩ Γ L (.pointer ((findT ts n).map fun t=>⟨t.q,0,none⟩)):=by
  have h:=e_lookup (g:=g) (L:=L) (dst:=dst) (t:=t) (pos:=pos) (aft:=aft) (gd:=gd) (x:=x) (i:=i) (k:=n) ht hk hz hx hi hp
  rw [mget_kv] at h
  cases hf:findT ts n with
  | none=>rw [hf] at h;exact h
  | some t=>rw [hf] at h;exact h
end
end Go.SL
namespace Go.SL.Fc
end Go.SL.Fc
namespace Go.SL
open Go Go.Proofs Fc
end Go.SL
namespace Go.SL.Fc
open Go Go.Proofs Go.SL
theorem a328:aggOf Tryz.prog 328=some none:=by kernel_rfl
theorem f331_5:fldOf Tryz.prog 331 5=some 5:=by kernel_rfl
theorem pt260:isPtr Tryz.prog 260=true:=by kernel_rfl
end Go.SL.Fc
namespace Go.SL
open Go Go.Proofs Fc
def Gs (p dp:Nat) (s:GamV):HP:=fun S=>∃ x:GI,stars [cl p 331 [.pointer (some ⟨x.lp,0,none⟩),.pointer (some ⟨x.mp,0,none⟩),x.nm,.int .u32 s.last.toNat,x.sv.v,x.lm],cl x.lp 246 [.pointer (some ⟨dp,0,none⟩),.int .i64 s.at_],Dk dp s.d,Mm x.mp s.rows,Mp eStr x.nm (List.map numC s.nums),Sl 571 3 lookC (x.sv.v) s.looks,Mp eU32 x.lm (List.map kvT s.txs)] S
theorem Gs_op {p dp:Nat} {s:GamV}:∀ S,Gs p dp s S→∃ x:GI,stars [cl p 331 [.pointer (some ⟨x.lp,0,none⟩),.pointer (some ⟨x.mp,0,none⟩),x.nm,.int .u32 s.last.toNat,x.sv.v,x.lm],cl x.lp 246 [.pointer (some ⟨dp,0,none⟩),.int .i64 s.at_],Dk dp s.d,Mm x.mp s.rows,Mp eStr x.nm (List.map numC s.nums),Sl 571 3 lookC (x.sv.v) s.looks,Mp eU32 x.lm (List.map kvT s.txs)] S:=fun _ h=>h
def TxL (t:TxV):List HP:=[cl t.q 567 [.int .u32 t.num.toNat,t.sv.v],Sl 388 3 ChgM.c t.sv.v t.own]
def TxP (t:TxV):HP:=bun (TxL t)
def Txs (ts:List TxV):HP:=bun (ts.map TxP)
theorem Gthere_spec {g:World} {p dp:Nat} {s:GamV}:Spec Tryz.prog g 460 [.pointer (some ⟨p,0,none⟩)] [Gs p dp s] fun K R=>K (.bool true) (Gs p dp s::R):=by
 refine Spec.intro Tryz.func460 rfl Tryz.ntmps460 rfl fun R K hK=>?_
 refine WP.opn (Gs_op (p:=p) (dp:=dp) (s:=s)) fun x=>?_
 obtain ⟨lp,mp,nm,lm,sv⟩:=x
 dsimp only
 refine WP.seq<|WP.reg<|WL.e e_assign<|WL.next<|WP.seq<|WP.reg<|WL.e e_move<|WL.e (e_pne pt260)<|WL.e e_move ?_
 refine WL.bool 5 rfl (fun h=>?_) (fun h=>?_)
 ·skip
  refine WL.e e_move<|WL.e e_nil<|WL.e (e_fa f331_5)<|WL.e (e_load a328)<|WL.e (e_mne Tryz.underlying328)<|WL.e e_pick_t<|WL.e e_assign<|WL.next<|WP.ret<|PO.cls (A:=Gs p dp (s)) (B:=[cl p 331 [.pointer (some ⟨lp,0,none⟩),.pointer (some ⟨mp,0,none⟩),nm,.int .u32 s.last.toNat,sv.v,lm],cl lp 246 [.pointer (some ⟨dp,0,none⟩),.int .i64 s.at_],Dk dp s.d,Mm mp s.rows,Mp eStr nm (List.map numC s.nums),Sl 571 3 lookC (sv.v) s.looks,Mp eU32 lm (List.map kvT s.txs)]) (fun S h=>⟨⟨lp,mp,nm,lm,sv⟩,h⟩) ?_
  exact PO.fin Tryz.results460 (rv_tmp rv_nil) hK
 ·cases h 
end Go.SL
namespace Go.SL
open Go
def putT (ts:List TxV) (n:UInt32) (c:ChgM) (sv:SV):List TxV:=ts.map fun o=>if o.id=n then { o with own:=o.own++[c],sv:=sv } else o
def putG (s:GamV) (n:UInt32) (c:ChgM) (sv:SV):GamV:={ s with txs:=putT s.txs n c sv }
def lookG (s:GamV) (t:TxV) (p:SpanM):GamV:={ s with looks:=s.looks++[(t.num,p)] }
theorem putT_mid {A B:List TxV} {t:TxV} (h:((A++t::B).map (·.id)).Nodup) (c:ChgM) (sv:SV):putT (A++t::B) t.id c sv=A++{ t with own:=t.own++[c],sv:=sv }::B:=by
  have hn:=nodup_mid h
  unfold putT
  rw [List.map_append,List.map_cons,if_pos rfl]
  have e1:∀ l:List TxV,(∀ x ∈ l,x.id≠t.id)→l.map (fun o=>if o.id=t.id then { o with own:=o.own++[c],sv:=sv } else o)=l:=fun l hl=>by
    conv=>rhs;rw [← List.map_id l]
    apply List.map_congr_left
    intro o ho
    rw [if_neg (hl o ho)];rfl
  rw [e1 A (fun x hx=>hn x (by simp [hx])),e1 B (fun x hx=>hn x (by simp [hx]))]
def recG (t:TxV):List UInt8:=numB t.num 4++chgsB t.own
def fitsG (s:GamV) (t:TxV):Prop:=(recG t).length≤16384∧s.at_+secs (recG t).length≤s.d.sure.length
instance (s:GamV) (t:TxV):Decidable (fitsG s t):=by unfold fitsG;infer_instance
def commG (s:GamV) (n:UInt32) (t:TxV):GamV:=
  let e:=endsG s n
  if fitsG s t then { e with d:=(addW s.d s.at_ (frame (recG t)) (secs (recG t).length)).sync,at_:=s.at_+secs (recG t).length,rows:=changeR s.rows t.own,nums:=keptG s.nums t.num t.own } else e
theorem GamOk.bad {s:GamV} {b:Nat} (h:GamOk s b) {t:TxV} (ht:t ∈ s.txs):t.own.any (fun c=>!chgOk c)=false:=by
  rw [List.any_eq_false]
  intro c hc
  simp [h.own t ht c hc]
def comG (s:GamV) (n:UInt32):GamV:=match findT s.txs n with
  | none=>s
  | some t=>commG s n t
def begEg (s:GamV) (n:UInt32):Nat:=if n=0 then 1 else if (findT s.txs n).isSome then 7 else if 32≤s.txs.length then 5 else 0
def begG (s:GamV) (n:UInt32) (q:Nat):GamV:=if begEg s n=0 then { s with last:=s.last+1,txs:=s.txs++[⟨n,s.last+1,[],q,⟨none,0,0⟩⟩] } else s
end Go.SL
namespace Go.SL.Fc
open Go Go.Proofs Go.SL
theorem f331_1:fldOf Tryz.prog 331 1=some 1:=by kernel_rfl
theorem k460:callable Tryz.prog 460=true:=by kernel_rfl
theorem pt563:isPtr Tryz.prog 563=true:=by kernel_rfl
theorem zz563:(Tryz.prog.info? 563).bind (·.zero)=some (.pointer none):=by kernel_rfl
end Go.SL.Fc
namespace Go.SL
open Go Go.Proofs Fc
end Go.SL
namespace Go.SL
open Go
theorem delT_sub {ts:List TxV} {n:UInt32}:(delT ts n).Sublist ts:=List.eraseP_sublist
theorem sum_sub {a b:List TxV} (h:a.Sublist b):(a.map fun t=>t.own.length).sum≤(b.map fun t=>t.own.length).sum:=by
  induction h with
  | slnil=>simp
  | cons x _ ih=>simp;omega
  | cons_cons x _ ih=>simp;omega
theorem GamOk.ends {s:GamV} {b:Nat} (h:GamOk s b) (n:UInt32):GamOk (endsG s n) b where
  dok:=h.dok
  hat:=h.hat
  waits:=h.waits
  rising:=h.rising
  sum:=by have:=sum_sub (delT_sub (ts:=s.txs) (n:=n));have:=h.sum;show s.rows.length+((delT s.txs n).map _).sum≤b;omega
  looks:=Nat.le_trans (List.length_filter_le _ _) h.looks
  ids:=h.ids.sublist (delT_sub.map _)
  own:=fun t ht=>h.own t (delT_sub.mem ht)
  bb:=h.bb
theorem find_none {ts:List TxV} {n:UInt32} (h:findT ts n=none):n ∉ ts.map (·.id):=by
  intro hm
  obtain ⟨t,ht,rfl⟩:=List.mem_map.1 hm
  have:=List.find?_eq_none.1 h t ht
  simp at this
theorem GamOk.beg {s:GamV} {b:Nat} (h:GamOk s b) (n:UInt32) (q:Nat):GamOk (begG s n q) b:=by
  unfold begG
  split
  · rename_i hE
    have hf:findT s.txs n=none:=by
      unfold begEg at hE
      cases e:findT s.txs n with
      | none=>rfl
      | some t=>rw [e] at hE;split at hE <;> simp at hE
    refine ⟨h.dok,h.hat,h.waits,h.rising,?_,h.looks,?_,?_,h.bb⟩
    · have:=h.sum;simpa using this
    · simp only [List.map_append,List.map_cons,List.map_nil]
      refine List.nodup_append.2 ⟨h.ids,by simp,?_⟩
      intro a ha c hc e
      simp at hc;subst hc;subst e
      exact find_none hf ha
    · intro t ht
      rcases List.mem_append.1 ht with ht | ht
      · exact h.own t ht
      · simp at ht;subst ht;simp
  · exact h
theorem GamOk.com {s:GamV} {b:Nat} (h:GamOk s b) (n:UInt32):GamOk (comG s n) b:=by
  unfold comG
  cases hf:findT s.txs n with
  | none=>exact h
  | some t=>
    simp only [commG]
    split
    · rename_i hfit
      have he:=h.ends n
      obtain ⟨_,A,B,hts,hdel,_⟩:=find_mid hf
      have hr:=changeR_rising t.own h.rising
      have h1:=addW_ok (secs (recG t).length) s.d s.at_ (frame (recG t)) h.dok
      have h2:=addW_len (secs (recG t).length) s.d s.at_ (frame (recG t))
      refine ⟨h1.sync,?_,rfl,hr.1,?_,he.looks,he.ids,he.own,h.bb⟩
      · show s.at_+secs (recG t).length≤(addW _ _ _ _).seen.length
        rw [h1.len,h2.1];exact hfit.2
      · have:=h.sum
        rw [hts] at this
        show (changeR s.rows t.own).length+((delT s.txs n).map _).sum≤b
        rw [hdel]
        simp only [List.map_append,List.map_cons,List.sum_append,List.sum_cons] at this ⊢
        omega
    · exact h.ends n
theorem GamOk.look {s:GamV} {b:Nat} (h:GamOk s b) (hb:b+1≤1000000000) (t:TxV) (p:SpanM):GamOk (lookG s t p) (b+1):=
  ⟨h.dok,h.hat,h.waits,h.rising,Nat.le_succ_of_le h.sum,by have:=h.looks;simp [lookG];omega,h.ids,h.own,hb⟩
theorem GamOk.put {s:GamV} {b:Nat} (h:GamOk s b) (hb:b+1≤1000000000) {t:TxV} (ht:t ∈ s.txs) (c:ChgM) (hc:chgOk c=true) (sv:SV):GamOk (putG s t.id c sv) (b+1):=by
  obtain ⟨A,B,e⟩:=mem_mid ht
  have hp:(putG s t.id c sv).txs=A++{ t with own:=t.own++[c],sv:=sv }::B:=by
    show putT s.txs t.id c sv=_
    rw [e];exact putT_mid (e ▸ h.ids) c sv
  refine ⟨h.dok,h.hat,h.waits,h.rising,?_,Nat.le_succ_of_le h.looks,?_,?_,hb⟩
  · rw [hp]
    have:=h.sum
    rw [e] at this
    simp at this ⊢
    show s.rows.length+_≤_
    omega
  · rw [hp]
    have:=h.ids
    rw [e] at this
    simpa using this
  · rw [hp]
    intro y hy c' hc'
    rcases List.mem_append.1 hy with hy | hy
    · exact h.own y (by rw [e];simp [hy]) c' hc'
    · rcases List.mem_cons.1 hy with rfl | hy
      · simp at hc'
        rcases hc' with hc' | rfl
        · exact h.own t ht c' hc'
        · exact hc
      · exact h.own y (by rw [e];simp [hy]) c' hc'
def gam0 (d:DiskM):GamV:=⟨d,0,[],[],0,[],[]⟩
def tx1 (q:Nat):TxV:=⟨1,1,[],q,sv0⟩
def tx2 (q:Nat):TxV:=⟨2,2,[],q,sv0⟩
def lt2 (d:DiskM) (q1 q2:Nat):GamV:=⟨d,0,[],[],2,[],[tx1 q1,tx2 q2]⟩
def t9 (q:Nat) (c:List ChgM) (sv:SV):TxV:=⟨9,3,c,q,sv⟩
end Go.SL
namespace Go.SL.Fc
open Go Go.Proofs Go.SL
theorem p331:placesOf Tryz.prog 331=some [(0,1),(1,1),(2,1),(3,1),(4,1),(5,1)]:=by kernel_rfl
theorem z331:zeroOf Tryz.prog 331=some [.pointer none,.pointer none,.map none,.int .u32 0,.slice none 0 0,.map none]:=by kernel_rfl
end Go.SL.Fc
namespace Go.SL
open Go Go.Proofs Fc
theorem New0_spec {g:World} {dp:Nat} {d:DiskM} (hd:d.ok) (hw:d.waits.length < 4000000000) (hz:recs d.seen.flatten=[]) (hc:cleanTo d.seen.flatten d 0 d.sure.length=d):Spec Tryz.prog g 161 [.pointer (some ⟨dp,0,none⟩)] [Dk dp d] fun K R=>∀ p,K (.tuple #[.pointer (some ⟨p,0,none⟩),.int .i64 0]) (Gs p dp (gam0 d.sync)::Txs []::R):=by
 refine Spec.intro Tryz.func161 rfl Tryz.ntmps161 rfl fun R K hK=>?_
 refine WP.seq<|WP.reg<|WL.e e_assign<|WL.e e_assign<|WL.next<|WP.seq<|WP.reg<|WL.e e_move ?_
 refine WL.h (h_call (Open_spec hd hw) k97 ?_)
 intro lp sv xs hx
 obtain rfl:xs=[]:=by rw [hz] at hx;simpa using hx
 rw [show tot []=0 from rfl,Nat.sub_zero,hc]
 refine WL.e e_move<|WL.e e_extract<|WL.e e_extract<|WL.e e_extract<|WL.e e_assign<|WL.e e_assign<|WL.e e_assign<|WL.next<|WP.seq<|WP.seq<|WP.reg<|WL.e e_move<|WL.e e_neq<|WL.next<|WP.cond_f rfl<|WP.skip<|PO.next<|WP.seq<|WP.reg<|WL.e e_move ?_
 refine WL.h (h_call (MNew_spec) k53 ?_)
 intro mp
 refine WL.h (h_makeMapB (ek:=eStr) fun nb=>?_)
 refine WL.h (h_makeMapB (ek:=eU32) fun mb=>?_)
 refine WL.e (e_build z331 p331 (.o (.tmp 22) rfl<|.o (.tmp 23) rfl<|.o (.tmp 24) rfl<|.z (.int .u32 0)<|.z (.slice none 0 0)<|.o (.tmp 25) rfl<|.n)) ?_
 refine WL.h (h_box fun b1=>?_)
 refine WL.e e_assign<|WL.next<|WP.seq<|WP.seq<|WP.reg<|WL.e e_move<|WL.e (el_len (xs:=([]:List RecV)) sl167 sl_rl)<|WL.e e_move<|WL.next<|WP.block<|WP.loopK (fun (_:Unit)=>[(30,.int .i64 0)]) (fun (_:Unit)=>cl b1 331 [.pointer (some ⟨lp,0,none⟩),.pointer (some ⟨mp,0,none⟩),(.map (some nb)),.int .u32 0,.slice none 0 0,(.map (some mb))]::cl lp 246 [.pointer (some ⟨dp,0,none⟩),.int .i64 0]::Dk dp d.sync::Mm mp []::Mp eStr (.map (some nb)) ([]:List (ByteArray × Value))::Mp eU32 (.map (some mb)) ([]:List (UInt32 × Value))::R) [(7,_),(28,_),(29,_)] (fun (_:Unit)=>True) (fun (_:Unit)=>0) () (trivial) ?_
 intro _ _
 refine WP.seq<|WP.reg<|WL.e e_lss<|WL.next<|WP.seq ?_
 refine WP.cond rfl (fun h1=>?_) (fun h1=>?_)
 ·simp at h1
 ·skip
  refine WP.exit<|PO.past nofun<|PO.round nofun<|PO.blockX<|PO.next<|WP.seq<|WP.reg<|WL.e e_move<|WL.e e_assign<|WL.e e_assign<|WL.next<|WP.ret<|PO.nils 571 3 lookC none ?_
  refine PO.cls (A:=Gs b1 dp (gam0 d.sync)) (B:=[cl b1 331 [.pointer (some ⟨lp,0,none⟩),.pointer (some ⟨mp,0,none⟩),(.map (some nb)),.int .u32 0,.slice none 0 0,(.map (some mb))],cl lp 246 [.pointer (some ⟨dp,0,none⟩),.int .i64 0],Dk dp d.sync,Mm mp [],Mp eStr (.map (some nb)) ([]:List (ByteArray × Value)),Sl 571 3 lookC (.slice none 0 0) [],Mp eU32 (.map (some mb)) ([]:List (UInt32 × Value))]) (fun S h=>⟨⟨lp,mp,.map (some nb),.map (some mb),⟨none,0,0⟩⟩,h⟩) ?_
  refine PO.conv (M:=Txs []::_) (fun S h=>bun_stars (L:=[]) h) ?_
  exact PO.fin Tryz.results161 (rv_tmp (rv_tmp rv_nil)) (hK b1)
end Go.SL
namespace Go.SL
open Go
structure Calm (s:GamV) (t:TxV):Prop where
  find:findT s.txs t.id=some t
  own:∀ o ∈ s.txs,o.id≠t.id→o.own=[]
  nums:∀ y ∈ s.nums,¬ t.num < y.2
  looks:∀ y ∈ s.looks,¬ t.num < y.1
theorem Calm.under {s:GamV} {t:TxV} (h:Calm s t) (p:SpanM):underL s.txs t.id p=[]:=by
  unfold underL
  rw [List.map_eq_nil_iff,List.filter_eq_nil_iff]
  intro o ho hc
  simp only [Bool.and_eq_true,Bool.not_eq_true',decide_eq_false_iff_not] at hc
  rw [changes,h.own o ho hc.1] at hc
  simp at hc
theorem Calm.late {s:GamV} {t:TxV} (h:Calm s t) (p:SpanM) (w:Bool):lateG s t p w=false:=by
  have h1:numsLate s.nums t.num p=false:=by
    unfold numsLate
    rw [List.any_eq_false];intro y hy hc
    simp only [Bool.and_eq_true,decide_eq_true_eq] at hc
    exact h.nums y hy hc.1
  have h2:(s.looks.any fun x=>decide (t.num < x.1) && meet x.2 p)=false:=by
    rw [List.any_eq_false];intro y hy hc
    simp only [Bool.and_eq_true,decide_eq_true_eq] at hc
    exact h.looks y hy hc.1
  simp [lateG,h1,h2,h.under]
theorem Calm.put {s:GamV} {b:Nat} {t:TxV} (h:Calm s t) (hs:GamOk s b) (c:ChgM) (sv:SV):Calm (putG s t.id c sv) { t with own:=t.own++[c],sv:=sv }:=by
  obtain ⟨_,A,B,hts,_,hA⟩:=find_mid h.find
  have hp:(putG s t.id c sv).txs=A++{ t with own:=t.own++[c],sv:=sv }::B:=by
    show putT s.txs t.id c sv=_
    rw [hts];exact putT_mid (hts ▸ hs.ids) c sv
  refine ⟨?_,fun o ho hi=>?_,h.nums,h.looks⟩
  · rw [hp]
    unfold findT
    rw [List.find?_append,List.find?_eq_none.2 (fun x hx=>by simpa using hA x hx)]
    simp
  · rw [hp] at ho
    rcases List.mem_append.1 ho with ho | ho
    · exact h.own o (by rw [hts];simp [ho]) hi
    · rcases List.mem_cons.1 ho with rfl | ho
      · exact absurd rfl hi
      · exact h.own o (by rw [hts];simp [ho]) hi
theorem Calm.look {s:GamV} {t:TxV} (h:Calm s t) (p:SpanM):Calm (lookG s t p) t:=by
  refine ⟨h.find,h.own,h.nums,fun y hy=>?_⟩
  rcases List.mem_append.1 hy with hy | hy
  · exact h.looks y hy
  · simp at hy;subst hy;exact fun hlt=>absurd hlt (by simp [UInt32.lt_iff_toNat_lt])
end Go.SL
namespace Go.SL.Fc
end Go.SL.Fc
namespace Go.SL
open Go Go.Proofs Fc
theorem GRows_spec {g:World} {p dp:Nat} {s:GamV} (hn:s.rows.length≤68719476736):Spec Tryz.prog g 458 [.pointer (some ⟨p,0,none⟩)] [Gs p dp s] fun K R=>∀ a m c,K (.slice a m c) (Sl 59 2 RowM.c (.slice a m c) s.rows::Gs p dp s::R):=by
 refine Spec.intro Tryz.func458 rfl Tryz.ntmps458 rfl fun R K hK=>?_
 refine WP.seq<|WP.reg<|WL.e e_assign<|WL.next<|WP.seq<|WP.seq<|WP.reg<|WL.e e_move ?_
 refine WL.h (h_call (Gthere_spec) k460 ?_)
 refine WL.e e_not<|WL.next<|WP.cond_f rfl<|WP.opn (Gs_op (p:=p) (dp:=dp) (s:=s)) fun x=>?_
 obtain ⟨lp,mp,nm,lm,sv⟩:=x
 dsimp only
 refine WP.skip<|PO.next<|WP.seq<|WP.reg<|WL.e e_move<|WL.e e_nil<|WL.e (e_fa f331_1)<|WL.e (e_load a108) ?_
 refine WL.h (h_call (Rows_spec hn) k59 ?_)
 intro a m c
 refine WL.e e_assign<|WL.next<|WP.ret<|PO.cls (A:=Gs p dp s) (B:=[cl p 331 [.pointer (some ⟨lp,0,none⟩),.pointer (some ⟨mp,0,none⟩),nm,.int .u32 s.last.toNat,sv.v,lm],cl lp 246 [.pointer (some ⟨dp,0,none⟩),.int .i64 s.at_],Dk dp s.d,Mm mp s.rows,Mp eStr nm (List.map numC s.nums),Sl 571 3 lookC (sv.v) s.looks,Mp eU32 lm (List.map kvT s.txs)]) (fun S h=>⟨⟨lp,mp,nm,lm,sv⟩,h⟩) ?_
 exact PO.fin Tryz.results458 (rv_tmp rv_nil) (hK a m c)
end Go.SL
namespace Go.SL
open Go
section
variable {P : Program} {r : Option Nat} {g : World} {Γ : Env} {L M : List HP} {dst : Option Tmp} {t : TypeId} {pos : String} {aft : Array Edge} {gd : Option (Nat × Bool)}
theorem e_nilI {T:TypeId} {x:Operand} {v:Value} (hx:ev Γ x=some (.iface T v):=by rfl):EO P g ⟨dst,.nilCheck x,t,pos,aft,gd⟩ Γ L (.iface T v):=
  .of (by simp) fun ρ hρ w _=>by simp [execOp,hρ x _ (by simp [Op.operands]) hx]
theorem CallV.frame {A B C:HP} {y val:Value} {args:List Value} (h:CallV P g y args [B] fun K R=>K val (C::R)):CallV P g y args [A,B] fun K R=>K val (C::A::R):=
  fun R K w r hw hT=>h (A::R) K w r (hw.conv fun _=>stars_swap) hT
end
end Go.SL
