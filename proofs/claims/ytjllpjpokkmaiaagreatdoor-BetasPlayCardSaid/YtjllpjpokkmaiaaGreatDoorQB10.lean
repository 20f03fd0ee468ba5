import Derived.Test.YtjllpjpokkmaiaaGreatDoorQB9
set_option linter.unusedSimpArgs false
set_option linter.unusedVariables false
namespace Go.SL.Fc
open Go Go.Proofs Go.SL
theorem a152:aggOf Tryz.prog 152=some none:=by kernel_rfl
theorem a161:aggOf Tryz.prog 161=some none:=by kernel_rfl
theorem a163:aggOf Tryz.prog 163=some (some 3):=by kernel_rfl
theorem f154_0:fldOf Tryz.prog 154 0=some 0:=by kernel_rfl
theorem f154_1:fldOf Tryz.prog 154 1=some 1:=by kernel_rfl
theorem f154_2:fldOf Tryz.prog 154 2=some 2:=by kernel_rfl
theorem f163_0:fldOf Tryz.prog 163 0=some 0:=by kernel_rfl
theorem f163_1:fldOf Tryz.prog 163 1=some 1:=by kernel_rfl
theorem f163_2:fldOf Tryz.prog 163 2=some 2:=by kernel_rfl
theorem k115:callable Tryz.prog 115=true:=by kernel_rfl
theorem k142:callable Tryz.prog 142=true:=by kernel_rfl
theorem k143:callable Tryz.prog 143=true:=by kernel_rfl
theorem k144:callable Tryz.prog 144=true:=by kernel_rfl
theorem k145:callable Tryz.prog 145=true:=by kernel_rfl
theorem k196:callable Tryz.prog 196=true:=by kernel_rfl
theorem k220:callable Tryz.prog 220=true:=by kernel_rfl
theorem p154:placesOf Tryz.prog 154=some [(0,1),(1,1),(2,1)]:=by kernel_rfl
theorem p163:placesOf Tryz.prog 163=some [(0,1),(1,1),(2,1)]:=by kernel_rfl
theorem pt85:isPtr Tryz.prog 85=true:=by kernel_rfl
theorem s163:szOf Tryz.prog 163=some 3:=by kernel_rfl
theorem s4:szOf Tryz.prog 4=some 1:=by kernel_rfl
theorem sl161:slOf Tryz.prog 161=some (163,3,12):=by kernel_rfl
theorem z154:zeroOf Tryz.prog 154=some [.map none,.int .u32 0,.int .u32 0]:=by kernel_rfl
theorem z163:zeroOf Tryz.prog 163=some [.int .u32 0,.int .u32 0,.bool false]:=by kernel_rfl
theorem z4:zeroOf Tryz.prog 4=some [.bool false]:=by kernel_rfl
theorem z48:zeroOf Tryz.prog 48=some [.int .u32 0]:=by kernel_rfl
theorem zz161:(Tryz.prog.info? 161).bind (·.zero)=some (.slice none 0 0):=by kernel_rfl
end Go.SL.Fc
namespace Go.SL
open Go Go.Proofs Fc
def Pa (p:Nat) (H:HistT) (trim:UInt32):HP:=fun S=>∃ x:Value × List (EntV ByteArray WasM) × UInt32,stars [pu (PastOk (List.map stE x.2.1) x.2.2 trim H),cl p 154 [x.1,.int .u32 x.2.2.toNat,.int .u32 trim.toNat],Mp eStr x.1 (List.map kvE x.2.1),Ents 163 3 WasM.c x.2.1] S
theorem Pa_op {p:Nat} {H:HistT} {trim:UInt32}:∀ S,Pa p H trim S→∃ x:Value × List (EntV ByteArray WasM) × UInt32,stars [pu (PastOk (List.map stE x.2.1) x.2.2 trim H),cl p 154 [x.1,.int .u32 x.2.2.toNat,.int .u32 trim.toNat],Mp eStr x.1 (List.map kvE x.2.1),Ents 163 3 WasM.c x.2.1] S:=fun _ h=>h
theorem PNew_spec {g:World}:Spec Tryz.prog g 34 [] [] fun K R=>∀ p,K (.pointer (some ⟨p,0,none⟩)) (Pa p [] 0::R):=by
 refine Spec.intro Tryz.func34 rfl Tryz.ntmps34 rfl fun R K hK=>?_
 refine WP.seq<|WP.reg<|WL.e e_assign<|WL.next<|WP.seq<|WP.reg ?_
 refine WL.h (h_makeMapB (ek:=eStr) fun nb=>?_)
 refine WL.e (e_build z154 p154 (.o (.tmp 1) rfl<|.z (.int .u32 0)<|.z (.int .u32 0)<|.n)) ?_
 refine WL.h (h_box fun b1=>?_)
 refine WL.e e_assign<|WL.next<|WP.ret<|PO.conv (fun S h=>Ents_nil (κ:=ByteArray) (E:=163) (z:=3) (enc:=WasM.c) h) ?_
 refine PO.conv (fun S h=>pu_stars (show PastOk (List.map stE []) 0 0 [] from PastOk.init) h) ?_
 refine PO.cls (A:=Pa b1 [] 0) (B:=[pu (PastOk (List.map stE []) 0 0 []),cl b1 154 [.map (some nb),.int .u32 (0:UInt32).toNat,.int .u32 (0:UInt32).toNat],Mp eStr (.map (some nb)) (List.map kvE []),Ents 163 3 WasM.c []]) (fun S h=>⟨(.map (some nb),[],0),h⟩) ?_
 exact PO.fin Tryz.results34 (rv_tmp rv_nil) (hK b1)
theorem Pthere_spec {g:World} {p:Nat} {H:List (List ChgM)} {trim:UInt32}:Spec Tryz.prog g 115 [.pointer (some ⟨p,0,none⟩)] [Pa p H trim] fun K R=>K (.bool true) (Pa p H trim::R):=by
 refine Spec.intro Tryz.func115 rfl Tryz.ntmps115 rfl fun R K hK=>?_
 refine WP.opn (Pa_op (p:=p) (H:=H) (trim:=trim)) fun x=>?_
 obtain ⟨m,es,now⟩:=x
 dsimp only
 refine WP.pull (φ:=PastOk (List.map stE es) now trim H) (k:=fun hP=>?_)
 refine WP.seq<|WP.reg<|WL.e e_assign<|WL.next<|WP.seq<|WP.reg<|WL.e e_move<|WL.e (e_pne pt85)<|WL.e e_move ?_
 refine WL.bool 5 rfl (fun h=>?_) (fun h=>?_)
 ·skip
  refine WL.e e_move<|WL.e e_nil<|WL.e (e_fa f154_0)<|WL.e (e_load a152)<|WL.e (e_mne Tryz.underlying152)<|WL.e e_pick_t<|WL.e e_assign<|WL.next<|WP.ret<|PO.conv (fun S h=>pu_stars (show PastOk (List.map stE es) now trim H from hP) h) ?_
  refine PO.cls (A:=Pa p H trim) (B:=[pu (PastOk (List.map stE es) now trim H),cl p 154 [m,.int .u32 now.toNat,.int .u32 trim.toNat],Mp eStr m (List.map kvE es),Ents 163 3 WasM.c es]) (fun S h=>⟨(m,es,now),h⟩) ?_
  exact PO.fin Tryz.results115 (rv_tmp rv_nil) hK
 ·cases h 
theorem PNow_spec {g:World} {p:Nat} {H:List (List ChgM)} {trim:UInt32}:Spec Tryz.prog g 64 [.pointer (some ⟨p,0,none⟩)] [Pa p H trim] fun K R=>K (.int .u32 (UInt32.ofNat H.length).toNat) (Pa p H trim::R):=by
 refine Spec.intro Tryz.func64 rfl Tryz.ntmps64 rfl fun R K hK=>?_
 refine WP.seq<|WP.reg<|WL.e e_assign<|WL.next<|WP.seq<|WP.seq<|WP.reg<|WL.e e_move ?_
 refine WL.h (h_call (Pthere_spec) k115 ?_)
 refine WL.e e_not<|WL.next<|WP.cond_f rfl<|WP.opn (Pa_op (p:=p) (H:=H) (trim:=trim)) fun x=>?_
 obtain ⟨m,es,now⟩:=x
 dsimp only
 refine WP.pull (φ:=PastOk (List.map stE es) now trim H) (k:=fun hP=>?_)
 refine WP.skip<|PO.next<|WP.seq<|WP.reg<|WL.e e_move<|WL.e e_nil<|WL.e (e_fa f154_1)<|WL.e (e_load a48)<|WL.e e_assign<|WL.next<|WP.ret<|PO.conv (fun S h=>pu_stars (show PastOk (List.map stE es) now trim H from hP) h) ?_
 refine PO.cls (A:=Pa p H trim) (B:=[pu (PastOk (List.map stE es) now trim H),cl p 154 [m,.int .u32 now.toNat,.int .u32 trim.toNat],Mp eStr m (List.map kvE es),Ents 163 3 WasM.c es]) (fun S h=>⟨(m,es,now),h⟩) ?_
 rw [← hP.now_eq] at hK
 exact PO.fin Tryz.results64 (rv_tmp rv_nil) hK
def bwC (x:Nat × WasM):List Value:=[.int .i64 x.1,.agg (WasM.c x.2).toArray]
theorem Backw_spec {g:World} {u:SV}:Spec Tryz.prog g 196 [u.v] [] fun K R=>∀ b,K (.func (.func 220) #[] #[.pointer (some ⟨b,0,none⟩)]) (cl b 161 [u.v]::R):=by
 refine Spec.intro Tryz.func196 rfl Tryz.ntmps196 rfl fun R K hK=>?_
 refine WP.seq<|WP.reg ?_
 refine WL.h (h_box fun b1=>?_)
 refine WL.e e_assign<|WL.next<|WP.seq<|WP.reg<|WL.e e_makeFunc<|WL.e e_assign<|WL.next<|WP.ret ?_
 exact PO.fin Tryz.results196 (rv_tmp rv_nil) (hK b1)
theorem backw_iter {g:World} {A:HP} {u:SV} {ws:List WasM} {b:Nat} (hA:RL A 3 WasM.c u.v ws) (hn:ws.length≤68719476736):Iter Tryz.prog g 220 (fun y=>[]++[y]++[.pointer (some ⟨b,0,none⟩)]) [cl b 161 [u.v],A] bwC (fun _=>pu True) (fun xs=>xs=bwdK ws ws.length) (fun pre=>∃ r,pre++r=bwdK ws ws.length) [cl b 161 [u.v],A]:=by
 intro y J X cont hy
 refine Spec.intro Tryz.func220 rfl Tryz.ntmps220 rfl fun R K hK=>?_
 refine WP.seq<|WP.reg<|WL.e (e_load a161)<|WL.e (el_len (xs:=ws) sl161 hA)<|WL.e (e_sub (c:=((ws.length:Int) - 1)) rfl rfl (by rw [w_i64 (by omega) (by omega)]))<|WL.e e_assign<|WL.next<|WP.block<|WP.loopK (fun (x:Nat × List (Nat × WasM))=>[(3,.int .i64 ((x.1:Int) - 1))]) (fun (x:Nat × List (Nat × WasM))=>J x.2::cl b 161 [u.v]::A::R) [(0,_),(1,_)] (fun (x:Nat × List (Nat × WasM))=>x.1≤ws.length∧x.2++bwdK ws x.1=bwdK ws ws.length∧Hist cont x.2) (fun (x:Nat × List (Nat × WasM))=>x.1) (ws.length,[]) (⟨Nat.le_refl _,rfl,Hist.nil⟩) ?_
 rintro ⟨k,pre⟩ ⟨hk,hp,hh⟩
 simp only at hk hp hh
 dsimp only
 refine WP.seq<|WP.seq<|WP.reg<|WL.e e_move<|WL.e e_geq<|WL.next ?_
 refine WP.cond rfl (fun h1=>?_) (fun h1=>?_)
 ·obtain ⟨j,rfl⟩:∃ j,k=j+1:=⟨k - 1,by simp at h1;omega⟩
  obtain ⟨w,hw⟩:∃ w,ws[j]?=some w:=⟨_,List.getElem?_eq_getElem (by omega)⟩
  have hpj:pre++([(j,w)]++bwdK ws j)=bwdK ws ws.length:=by rw [← hp];simp [bwdK,hw]
  rw [show (((j+1:Nat):Int) - 1)=(j:Int) by omega]
  refine WP.skip<|PO.next<|WP.seq<|WP.block<|WP.seq<|WP.reg<|WL.e e_move<|WL.e e_move<|WL.e (e_load a161)<|WL.e e_move<|WL.e (el_ia (j:=j) (xs:=ws) sl161 hA (by omega))<|WL.e (el_loadN (a:=w) a163 wasE hA hw) ?_
  refine WL.h (HO.conv (fun S h=>pu_stars trivial h) (h_cally (hy pre (j,w) ⟨_,by rw [List.append_assoc];exact hpj⟩ hh) ?_))
  refine ⟨fun hc=>?_,fun hc=>?_⟩
  ·skip
   refine WL.e e_not<|WL.next<|WP.cond_f rfl<|WP.skip<|PO.blockN<|PO.next<|WP.reg<|WL.e e_move<|WL.e (e_sub (c:=((j:Int) - 1)) rfl rfl (by rw [w_i64 (by omega) (by omega)]))<|WL.e e_assign<|WL.nil ?_
   exact PO.againK (j,pre++[(j,w)]) ⟨by simp only;omega,by simp only;rw [List.append_assoc];exact hpj,hh.snoc hc⟩ (by simp only;omega)
  ·skip
   refine WL.e e_not<|WL.next<|WP.cond_t rfl<|WP.ret<|PO.blockR<|PO.past nofun<|PO.round nofun<|PO.blockR ?_
   exact PO.fin Tryz.results220 rv_nil (hK.2 pre (j,w) ⟨_,by rw [List.append_assoc];exact hpj⟩ hh hc)
 ·obtain rfl:k=0:=by simp at h1;omega
  refine WP.exit<|PO.past nofun<|PO.round nofun<|PO.blockX ?_
  exact PO.fin Tryz.results220 rv_nil (hK.1 pre (by simpa [bwdK] using hp) hh)
def FdJ (b1 b2 b3:Nat) (n:UInt32):HP:=fun S=>∃ _:Unit,stars [cl b1 48 [.int .u32 n.toNat],cl b2 48 [.int .u32 0],cl b3 4 [.bool false]] S
def FdX (b1 b2 b3:Nat) (n:UInt32) (w:WasM) (j:Code):HP:=fun S=>∃ _:{ u:Unit // j=.ret },stars [cl b1 48 [.int .u32 n.toNat],cl b2 48 [.int .u32 w.val.toNat],cl b3 4 [.bool (!w.gone)]] S
theorem find1_spec {g:World} {p:Nat} {A:HP} {m:Value} {now trim:UInt32} {es:List (EntV ByteArray WasM)} (n:UInt32) (k:ByteArray) (hA:RdM A eStr m (List.map kvE es)) (hn:(wsE es k).length≤68719476736) :
  Spec Tryz.prog g 143 [.pointer (some ⟨p,0,none⟩),.int .u32 n.toNat,.string k] [cl p 154 [m,.int .u32 now.toNat,.int .u32 trim.toNat],A,Ents 163 3 WasM.c es] fun K R=>K (.tuple #[.int .u32 (findP (wsE es k) (if n < trim then trim else n)).1.toNat,.bool (findP (wsE es k) (if n < trim then trim else n)).2]) (cl p 154 [m,.int .u32 now.toNat,.int .u32 trim.toNat]::A::Ents 163 3 WasM.c es::R):=by
 refine Spec.intro Tryz.func143 rfl Tryz.ntmps143 rfl fun R K hK=>?_
 refine WP.seq<|WP.reg ?_
 refine WL.h (h_box fun b1=>?_)
 refine WL.h (h_alloc z48 fun b2=>?_)
 refine WL.h (h_alloc z4 fun b3=>?_)
 refine WL.next<|WP.seq<|WP.draws mixedOk 7<|RW.e 0 rfl (e_load a48)<|RW.e 1 rfl e_move<|RW.e 2 rfl e_nil<|RW.e 3 rfl (e_fa f154_2)<|RW.e 4 rfl (e_load a48)<|RW.e 5 rfl e_max32 ?_
 refine RW.any (is:=[6]) rfl ⟨?_,trivial⟩
 refine RWat.h' rfl rfl rfl ?_
 refine (h_store s48 ?_)
 refine ⟨trivial,?_⟩
 refine RW.done<|PO.next<|WP.seq<|WP.seq<|WP.reg<|WL.e e_move<|WL.e e_nil<|WL.e (e_fa f154_0)<|WL.e (e_load a152)<|WL.e e_move<|WL.e (em_lookE (k:=k) (es:=es) Tryz.underlying152 (key_str Tryz.underlying9) zz161 hA) ?_
 refine WL.h (h_call (Backw_spec (u:=svE es k)) k196 ?_)
 intro b4
 refine WL.next<|WP.block<|WP.cls (A:=FdJ b1 b2 b3 (if n < trim then trim else n)) (B:=[cl b1 48 [.int .u32 (if n < trim then trim else n).toNat],cl b2 48 [.int .u32 0],cl b3 4 [.bool false]]) (fun S h=>⟨(),h⟩) ?_
 refine WP.range (R:=?RR) (f:=220) (fs:=[]) (cs:=[.pointer (some ⟨b4,0,none⟩)]) (fun _=>FdJ b1 b2 b3 (if n < trim then trim else n)) (fun _ x=>FdX b1 b2 b3 (if n < trim then trim else n) x.2) (fun _ x=>¬ x.2.at_≤(if n < trim then trim else n)) (backw_iter (b:=b4) (u:=svE es k) (ws:=wsE es k) (ents_key (E:=163) k) hn) k220 ?hLL ?_ ?_ ?_ (fun _=>rfl)
 case hLL=>repeat first | exact .nil | exact Pick.z | apply Pick.s | apply Split.cons
 ·rintro lb db fn tmps pre x R2 hp hh
  refine WP.opn (B:=fun _:Unit=>[cl b1 48 [.int .u32 (if n < trim then trim else n).toNat],cl b2 48 [.int .u32 0],cl b3 4 [.bool false]]) (fun _ h=>h) fun _=>?_
  refine WP.reg ?_
  refine WL.h (h_alloc z163 fun b4=>?_)
  refine WL.h' (h_store s163 ?_)
  refine WL.nil<|PO.asg rfl (by repeat first | exact .z | apply Put.s)<|WP.block<|WP.seq<|WP.reg<|WL.e (e_fa f163_0)<|WL.e (e_load a48)<|WL.e (e_load a48)<|WL.e e_leq<|WL.next ?_
  refine WP.cond rfl (fun h5=>?_) (fun h5=>?_)
  ·replace h5:x.2.at_≤(if n < trim then trim else n):=of_le32 h5
   refine WP.seq<|WP.draws mixedOk 7<|RW.e 0 rfl (e_fa f163_1)<|RW.e 1 rfl (e_load a48)<|RW.e 2 rfl (e_fa f163_2)<|RW.e 3 rfl (e_load a4)<|RW.e 4 rfl e_not ?_
   refine RW.any (is:=[5]) rfl ⟨?_,trivial⟩
   refine RWat.h' rfl rfl rfl ?_
   refine (h_store s48 ?_)
   refine ⟨⟨⟨_,rfl,.inl ⟨rfl,e_not⟩⟩,⟨_,rfl,.inl ⟨rfl,(e_load a4)⟩⟩,⟨_,rfl,.inl ⟨rfl,(e_fa f163_2)⟩⟩,trivial⟩,?_⟩
   refine RW.any (is:=[6]) rfl ⟨?_,trivial⟩
   refine RWat.h' rfl rfl rfl ?_
   refine (h_store s4 ?_)
   refine ⟨trivial,?_⟩
   refine RW.done<|PO.next<|WP.ret<|PO.blockR<|PO.cls (A:=FdX b1 b2 b3 (if n < trim then trim else n) x.2 .ret) (B:=[cl b1 48 [.int .u32 (if n < trim then trim else n).toNat],cl b2 48 [.int .u32 x.2.val.toNat],cl b3 4 [.bool (!x.2.gone)]]) (fun S h=>⟨⟨(),rfl⟩,h⟩) ?_
   exact PO.rnd_ret (fun h=>h h5) (by repeat first | exact .refl | exact Pick.z | apply Pick.s | apply Sub.cons | apply Sub.drop)
  ·replace h5:¬ x.2.at_≤(if n < trim then trim else n):=of_nle32 h5
   refine WP.skip<|PO.blockN<|PO.cls (A:=FdJ b1 b2 b3 (if n < trim then trim else n)) (B:=[cl b1 48 [.int .u32 (if n < trim then trim else n).toNat],cl b2 48 [.int .u32 0],cl b3 4 [.bool false]]) (fun S h=>⟨(),h⟩) ?_
   exact PO.rnd h5 (by repeat first | exact .refl | exact Pick.z | apply Pick.s | apply Sub.cons | apply Sub.drop)
 ·rintro db xs rfl hh
  have hfp:findP (wsE es k) (if n < trim then trim else n)=(0,false):=findP_none hh
  refine PO.opn (B:=fun _:Unit=>[cl b1 48 [.int .u32 (if n < trim then trim else n).toNat],cl b2 48 [.int .u32 0],cl b3 4 [.bool false]]) (fun _ h=>h) fun _=>?_
  refine PO.blockN<|PO.next<|WP.seq<|WP.reg ?_
  refine WL.h' (h_store s48 ?_)
  refine WL.h' (h_store s4 ?_)
  refine WL.next<|WP.ret ?_
  rw [hfp] at hK
  exact PO.finM (by repeat first | exact .z | apply Put.s) Tryz.results143 (rv_cell a48 (rv_cell a4 rv_nil)) hK
 ·rintro db pre x j hp hh hc
  have hfp:findP (wsE es k) (if n < trim then trim else n)=(x.2.val,!x.2.gone):=findP_some hp hh hc
  refine WP.opn (B:=fun sv:{ u:Unit // j=.ret }=>[cl b1 48 [.int .u32 (if n < trim then trim else n).toNat],cl b2 48 [.int .u32 x.2.val.toNat],cl b3 4 [.bool (!x.2.gone)]]) (fun _ h=>h) fun u=>?_
  obtain ⟨_,rfl⟩:=u
  refine WP.ret<|PO.blockR<|PO.past nofun ?_
  rw [hfp] at hK
  exact PO.finM (by repeat first | exact .z | apply Put.s) Tryz.results143 (rv_cell a48 (rv_cell a4 rv_nil)) hK
theorem PScan_spec {g:World} {p:Nat} {H:List (List ChgM)} {trim:UInt32} (n:UInt32) (sp:SpanM) (most:Nat) (h1:trim≤n) (h2:n.toNat≤H.length) (hb:H.flatten.length≤1000000000) (hb2:H.length < 4294967295) (hm:most≤68719476000) :
  Spec Tryz.prog g 63 [.pointer (some ⟨p,0,none⟩),.int .u32 n.toNat,sp.v,.int .i64 most] [Pa p H trim] fun K R=>∀ a m c,K (.slice a m c) (Sl 142 2 RowM.c (.slice a m c) (scanR (rowsN H n.toNat) sp most)::Pa p H trim::R):=by
 refine Spec.intro Tryz.func63 rfl Tryz.ntmps63 rfl fun R K hK=>?_
 refine WP.seq<|WP.reg ?_
 refine WL.h (h_box fun b1=>?_)
 refine WL.e e_assign<|WL.next<|WP.seq<|WP.seq<|WP.reg<|WL.e e_move ?_
 refine WL.h (h_call (Pthere_spec) k115 ?_)
 refine WL.e e_not<|WL.next<|WP.cond_f rfl<|WP.opn (Pa_op (p:=p) (H:=H) (trim:=trim)) fun x=>?_
 obtain ⟨m,es,now⟩:=x
 dsimp only
 refine WP.pull (φ:=PastOk (List.map stE es) now trim H) (k:=fun hP=>?_)
 have hnow:n≤now:=by rw [UInt32.le_iff_toNat_le,hP.nowH];exact h2
 have hes:es.length≤1000000000:=by have:=hP.size;rw [List.length_map] at this;omega
 refine WP.skip<|PO.next<|WP.seq<|WP.reg ?_
 refine WL.h (h_call (MNew_spec) k142 ?_)
 intro mp
 refine WL.e e_assign<|WL.next<|WP.seq<|WP.seq<|WP.reg<|WL.e e_move<|WL.e e_nil<|WL.e (e_fa f154_0)<|WL.e (e_load a152) ?_
 refine WL.h (h_range (kvs:=List.map kvE es) Tryz.underlying152 fun it=>?_)
 refine WL.next<|WP.block<|WP.loopK (fun (x:List (EntV ByteArray WasM) × List RowM × Option (ByteArray × Value))=>[]) (fun (x:List (EntV ByteArray WasM) × List RowM × Option (ByteArray × Value))=>cl p 154 [m,.int .u32 now.toNat,.int .u32 trim.toNat]::MpIt eStr m it (List.map kvE es) (List.map kvE x.1) x.2.2::Ents 163 3 WasM.c es::Mm mp x.2.1::cl b1 110 sp.c::R) [(0,_),(1,_),(3,_),(6,_),(8,_),(9,_),(21,_)] (fun (x:List (EntV ByteArray WasM) × List RowM × Option (ByteArray × Value))=>(∀ y ∈ x.1,y ∈ es)∧ScanI (List.map stE es) n (List.map (·.key) x.1) x.2.1∧x.2.1.length+x.1.length≤es.length) (fun (x:List (EntV ByteArray WasM) × List RowM × Option (ByteArray × Value))=>x.1.length) (es,[],none) (⟨fun _ h=>h,ScanI.first (keys_st es) hP.nodup n,by simp⟩) ?_
 rintro ⟨left,rows,cur⟩ ⟨hx1,hx2,hx3⟩
 simp only at hx1 hx2 hx3
 dsimp only
 refine WP.seq<|WP.reg ?_
 refine WL.h (h_next (fun h0=>?_) (fun a y0 b hx=>?_))
 ·have hl0:left=[]:=by simpa using h0
  subst hl0
  have hrows:rows=rowsN H n.toNat:=hx2.done hP h1 hnow
  refine WL.e e_extract<|WL.next<|WP.seq<|WP.cond_f rfl<|WP.exit<|PO.past nofun<|PO.round nofun<|PO.blockX<|PO.next<|WP.seq<|WP.reg<|WL.e e_move<|WL.e (e_loadN a110)<|WL.e e_move ?_
  refine WL.h (h_call (Scan_spec (l:=rows) sp most hx2.rising (by omega) hm) k145 ?_)
  intro a9 m9 c9
  rw [hrows]
  refine WL.e e_assign<|WL.next<|WP.ret<|PO.conv (fun S h=>pu_stars (show PastOk (List.map stE es) now trim H from hP) h) ?_
  refine PO.cls (A:=Pa p H trim) (B:=[pu (PastOk (List.map stE es) now trim H),cl p 154 [m,.int .u32 now.toNat,.int .u32 trim.toNat],Mp eStr m (List.map kvE es),Ents 163 3 WasM.c es]) (fun S h=>⟨(m,es,now),h⟩) ?_
  exact PO.fin Tryz.results63 (rv_tmp rv_nil) (hK a9 m9 c9)
 ·obtain ⟨A1,y,B1,hl,rfl,rfl,rfl⟩:=map_mid hx
  have hsub:∀ z ∈ A1++B1,z ∈ es:=fun z hz=>hx1 z (by rw [hl];simp only [List.mem_append,List.mem_cons] at hz ⊢;rcases hz with h | h;exact .inl h;exact .inr (.inr h))
  have hyin:y ∈ es:=hx1 y (by simp [hl])
  have hnd:(es.map (·.key)).Nodup:=by rw [keys_st];exact hP.nodup
  have hfe:=findE_mem hnd hyin
  have hwe:wsE es y.key=y.ws:=by unfold wsE;rw [hfe]
  have hgy:getS (List.map stE es) y.key=some y.ws:=by rw [getS_st,hfe];rfl
  have hl2:List.map (·.key) left=List.map (·.key) A1++y.key::List.map (·.key) B1:=by rw [hl];simp
  have hky:keyOk y.key=true:=hP.keys (stE y) (List.mem_map.2 ⟨y,hyin,rfl⟩)
  have hlw:y.ws.length≤68719476736:=by have h7:=hP.lens (stE y) (List.mem_map.2 ⟨y,hyin,rfl⟩);have h8:(stE y).2=y.ws:=rfl;rw [h8] at h7;omega
  refine WL.e e_extract<|WL.next<|WP.seq<|WP.cond_t rfl<|WP.skip<|PO.next<|WP.block<|WP.seq<|WP.reg<|WL.e e_entry<|WL.e e_extract<|WL.e e_assign<|WL.next<|WP.seq<|WP.reg<|WL.e e_move<|WL.e e_move<|WL.e e_move ?_
  refine WL.h (h_call (find1_spec (es:=es) n y.key mpit_rdm (by rw [hwe];exact hlw)) k143 ?_)
  rw [hwe,show (if n < trim then trim else n)=n from if_neg (UInt32.not_lt.2 h1)]
  refine WL.e e_move<|WL.e e_extract<|WL.e e_extract<|WL.e e_assign<|WL.e e_assign<|WL.next<|WP.seq<|WP.reg<|WL.e e_move<|WL.next ?_
  refine WP.cond rfl (fun h9=>?_) (fun h9=>?_)
  ·skip
   refine WP.reg<|WL.e e_move<|WL.e e_move<|WL.e e_move ?_
   refine WL.h (h_call (MPut_spec y.key (findP y.ws n).1 hx2.rising (by omega) hky) k144 ?_)
   refine WL.nil<|PO.blockN ?_
   rw [← List.map_append]
   exact PO.againK (A1++B1,setR rows y.key (findP y.ws n).1,_) ⟨hsub,by simp only [List.map_append];exact hx2.put hl2 hgy h9,by simp only;have:=(setR_spec hx2.rising y.key (findP y.ws n).1).2.2;simp only [hl,List.length_append,List.length_cons] at hx3 ⊢;omega⟩ (by simp only [hl,List.length_append,List.length_cons];omega)
  ·skip
   refine WP.skip<|PO.blockN ?_
   rw [← List.map_append]
   exact PO.againK (A1++B1,rows,_) ⟨hsub,by simp only [List.map_append];exact hx2.skip hl2 hgy h9,by simp only;simp only [hl,List.length_append,List.length_cons] at hx3 ⊢;omega⟩ (by simp only [hl,List.length_append,List.length_cons];omega)
theorem PSince_spec {g:World} {p:Nat} {H:List (List ChgM)} {trim:UInt32} (n:UInt32) (sp:SpanM) (h1:trim≤n) (hb2:H.length < 4294967295) :
  Spec Tryz.prog g 44 [.pointer (some ⟨p,0,none⟩),.int .u32 n.toNat,sp.v] [Pa p H trim] fun K R=>K (.bool (sinceH H n.toNat sp)) (Pa p H trim::R):=by
 refine Spec.intro Tryz.func44 rfl Tryz.ntmps44 rfl fun R K hK=>?_
 refine WP.seq<|WP.reg ?_
 refine WL.h (h_box fun b1=>?_)
 refine WL.e e_assign<|WL.next<|WP.seq<|WP.seq<|WP.reg<|WL.e e_move ?_
 refine WL.h (h_call (Pthere_spec) k115 ?_)
 refine WL.e e_not<|WL.next<|WP.cond_f rfl<|WP.opn (Pa_op (p:=p) (H:=H) (trim:=trim)) fun x=>?_
 obtain ⟨m,es,now⟩:=x
 dsimp only
 refine WP.pull (φ:=PastOk (List.map stE es) now trim H) (k:=fun hP=>?_)
 refine WP.skip<|PO.next<|WP.seq<|WP.seq<|WP.reg<|WL.e e_move<|WL.e e_move<|WL.e e_nil<|WL.e (e_fa f154_2)<|WL.e (e_load a48)<|WL.e (e_lss32)<|WL.next ?_
 refine WP.cond rfl (fun h3=>?_) (fun h3=>?_)
 ·exact absurd (of_lt32 h3) (UInt32.not_lt.2 h1)
 ·skip
  refine WP.skip<|PO.next<|WP.seq<|WP.seq<|WP.reg<|WL.e e_move<|WL.e e_nil<|WL.e (e_fa f154_0)<|WL.e (e_load a152) ?_
  refine WL.h (h_range (kvs:=List.map kvE es) Tryz.underlying152 fun it=>?_)
  refine WL.next<|WP.block<|WP.loopK (fun (x:List (EntV ByteArray WasM) × Option (ByteArray × Value))=>[]) (fun (x:List (EntV ByteArray WasM) × Option (ByteArray × Value))=>cl p 154 [m,.int .u32 now.toNat,.int .u32 trim.toNat]::MpIt eStr m it (List.map kvE es) (List.map kvE x.1) x.2::Ents 163 3 WasM.c es::cl b1 110 sp.c::R) [(1,_),(5,_),(22,_)] (fun (x:List (EntV ByteArray WasM) × Option (ByteArray × Value))=>(∀ y ∈ x.1,y ∈ es)∧sinceP (List.map stE x.1) n sp=sinceP (List.map stE es) n sp) (fun (x:List (EntV ByteArray WasM) × Option (ByteArray × Value))=>x.1.length) (es,none) (⟨fun _ h=>h,rfl⟩) ?_
  rintro ⟨left,cur⟩ ⟨hx1,hx2⟩
  simp only at hx1 hx2
  dsimp only
  refine WP.seq<|WP.reg ?_
  refine WL.h (h_next (fun h0=>?_) (fun a y0 b hx=>?_))
  ·have hl0:left=[]:=by simpa using h0
   subst hl0
   have hfin:sinceH H n.toNat sp=false:=by rw [← hP.since,← hx2];rfl
   refine WL.e e_extract<|WL.next<|WP.seq<|WP.cond_f rfl<|WP.exit<|PO.past nofun<|PO.round nofun<|PO.blockX<|PO.next<|WP.seq<|WP.reg<|WL.e e_assign<|WL.next<|WP.ret<|PO.conv (fun S h=>pu_stars (show PastOk (List.map stE es) now trim H from hP) h) ?_
   refine PO.cls (A:=Pa p H trim) (B:=[pu (PastOk (List.map stE es) now trim H),cl p 154 [m,.int .u32 now.toNat,.int .u32 trim.toNat],Mp eStr m (List.map kvE es),Ents 163 3 WasM.c es]) (fun S h=>⟨(m,es,now),h⟩) ?_
   rw [hfin] at hK
   exact PO.fin Tryz.results44 (rv_tmp rv_nil) hK
  ·obtain ⟨A1,y,B1,hl,rfl,rfl,rfl⟩:=map_mid hx
   have hsub:∀ z ∈ A1++B1,z ∈ es:=fun z hz=>hx1 z (by rw [hl];simp only [List.mem_append,List.mem_cons] at hz ⊢;rcases hz with h | h;exact .inl h;exact .inr (.inr h))
   have hyin:y ∈ es:=hx1 y (by simp [hl])
   have hne:y.ws≠[]:=hP.ne (stE y) (List.mem_map.2 ⟨y,hyin,rfl⟩)
   have hpos:0 < y.ws.length:=List.length_pos_iff.2 hne
   obtain ⟨w,hw⟩:∃ w,y.ws[y.ws.length - 1]?=some w:=⟨_,List.getElem?_eq_getElem (by omega)⟩
   have hlast:lastW y.ws=w.at_:=lastW_at hw
   have hlw:y.ws.length≤68719476736:=by have h7:=hP.lens (stE y) (List.mem_map.2 ⟨y,hyin,rfl⟩);have h8:(stE y).2=y.ws:=rfl;rw [h8] at h7;omega
   refine WL.e e_extract<|WL.next<|WP.seq<|WP.cond_t rfl<|WP.skip<|PO.next<|WP.block<|WP.seq<|WP.reg<|WL.e e_entry<|WL.e e_extract<|WL.e e_extract<|WL.e e_assign<|WL.e e_assign<|WL.next<|WP.seq<|WP.reg<|WL.e e_move<|WL.e e_move<|WL.e (el_len (xs:=y.ws) (enc:=WasM.c) sl161 (ents_rl hyin))<|WL.e (e_sub (c:=((y.ws.length - 1:Nat):Int)) rfl rfl (by rw [w_i64 (by omega) (by omega)];omega))<|WL.e (el_ia (j:=y.ws.length - 1) (xs:=y.ws) (enc:=WasM.c) sl161 (ents_rl hyin) (by omega))<|WL.e (el_fa (z:=3) (j:=y.ws.length - 1) (xs:=y.ws) (enc:=WasM.c) f163_0 (ents_rl hyin) (by omega))<|WL.e (el_load0 (j:=y.ws.length - 1) (a:=w) a48 wasE (ents_rl hyin) hw) ?_
   refine WL.e e_move<|WL.e (e_gtr32)<|WL.e e_move ?_
   refine WL.bool 37 rfl (fun h8=>?_) (fun h8=>?_)
   ·skip
    refine WL.e e_move<|WL.e e_move<|WL.e (e_build z110 p110 (.o (.tmp 38) rfl<|.o (.tmp 39) rfl<|.n))<|WL.e (e_loadN a110) ?_
    refine WL.h (h_call (Meet_spec ⟨_,_⟩ ⟨_,_⟩) k118 ?_)
    refine WL.e e_pick_t<|WL.next ?_
    refine WP.cond rfl (fun h9=>?_) (fun h9=>?_)
    ·have hfin:sinceH H n.toNat sp=true:=by rw [← hP.since,← hx2,hl,since_mid,hlast,h8,show meet (one y.key) sp=true from h9];rfl
     refine WP.seq<|WP.reg<|WL.e e_assign<|WL.next<|WP.ret<|PO.blockR<|PO.round nofun<|PO.blockR<|PO.past nofun<|PO.conv (conv1 (A:=MpIt eStr m it (List.map kvE es) _ _) (B:=Mp eStr m (List.map kvE es)) MpIt_Mp (by repeat first | exact .z | apply Put.s)) ?_
     refine PO.conv (fun S h=>pu_stars (show PastOk (List.map stE es) now trim H from hP) h) ?_
     refine PO.cls (A:=Pa p H trim) (B:=[pu (PastOk (List.map stE es) now trim H),cl p 154 [m,.int .u32 now.toNat,.int .u32 trim.toNat],Mp eStr m (List.map kvE es),Ents 163 3 WasM.c es]) (fun S h=>⟨(m,es,now),h⟩) ?_
     rw [hfin] at hK
     exact PO.fin Tryz.results44 (rv_tmp rv_nil) hK
    ·replace h9:meet (one y.key) sp=false:=h9
     refine WP.skip<|PO.blockN ?_
     rw [← List.map_append]
     exact PO.againK (A1++B1,_) ⟨hsub,by simp only;rw [hl,since_mid,hlast,h8] at hx2;rw [← hx2];simp [h9]⟩ (by simp only [hl,List.length_append,List.length_cons];omega)
   ·skip
    refine WL.skip<|WL.skip<|WL.skip<|WL.skip<|WL.skip<|WL.e e_pick_f<|WL.next<|WP.cond_f rfl<|WP.skip<|PO.blockN ?_
    rw [← List.map_append]
    exact PO.againK (A1++B1,_) ⟨hsub,by simp only;rw [hl,since_mid,hlast,h8] at hx2;rw [← hx2];simp⟩ (by simp only [hl,List.length_append,List.length_cons];omega)
theorem PTrim_spec {g:World} {p:Nat} {H:List (List ChgM)} {trim:UInt32} (n:UInt32) (h1:trim≤n) (h2:n.toNat≤H.length) (hb2:H.length < 4294967295) :
  Spec Tryz.prog g 122 [.pointer (some ⟨p,0,none⟩),.int .u32 n.toNat] [Pa p H trim] fun K R=>K (.int .i64 0) (Pa p H n::R):=by
 refine Spec.intro Tryz.func122 rfl Tryz.ntmps122 rfl fun R K hK=>?_
 refine WP.seq<|WP.reg<|WL.e e_assign<|WL.next<|WP.seq<|WP.block<|WP.seq<|WP.reg<|WL.e e_move ?_
 refine WL.h (h_call (Pthere_spec) k115 ?_)
 refine WL.e e_not<|WL.e e_assign<|WL.next<|WP.cond_f rfl<|WP.opn (Pa_op (p:=p) (H:=H) (trim:=trim)) fun x=>?_
 obtain ⟨m,es,now⟩:=x
 dsimp only
 refine WP.pull (φ:=PastOk (List.map stE es) now trim H) (k:=fun hP=>?_)
 have hnow:n≤now:=by rw [UInt32.le_iff_toNat_le,hP.nowH];exact h2
 have hnd:(es.map (·.key)).Nodup:=by rw [keys_st];exact hP.nodup
 refine WP.seq<|WP.reg<|WL.e e_move<|WL.e e_move<|WL.e e_nil<|WL.e (e_fa f154_1)<|WL.e (e_load a48)<|WL.e (e_gtr32)<|WL.e e_move ?_
 refine WL.bool 19 rfl (fun h3=>?_) (fun h3=>?_)
 ·exact absurd (of_gt32 h3) (UInt32.not_lt.2 hnow) 
 ·skip
  refine WL.e e_move<|WL.e e_move<|WL.e e_nil<|WL.e (e_fa f154_2)<|WL.e (e_load a48)<|WL.e (e_lss32)<|WL.e e_pick_f<|WL.e e_assign<|WL.next ?_
  refine WP.cond rfl (fun h4=>?_) (fun h4=>?_)
  ·exact absurd (of_lt32 h4) (UInt32.not_lt.2 h1)
  ·skip
   refine WP.skip<|PO.blockN<|PO.next<|WP.seq<|WP.reg<|WL.e e_move<|WL.e e_move<|WL.e e_nil<|WL.e (e_fa f154_2) ?_
   refine WL.h' (h_store s48 ?_)
   refine WL.next<|WP.seq<|WP.seq<|WP.reg<|WL.e e_move<|WL.e e_nil<|WL.e (e_fa f154_0)<|WL.e (e_load a152) ?_
   refine WL.h (h_range (kvs:=List.map kvE es) Tryz.underlying152 fun it=>?_)
   refine WL.next<|WP.block<|WP.loopK (fun (x:List (EntV ByteArray WasM) × List (EntV ByteArray WasM) × Option (ByteArray × Value))=>[]) (fun (x:List (EntV ByteArray WasM) × List (EntV ByteArray WasM) × Option (ByteArray × Value))=>cl p 154 [m,.int .u32 now.toNat,.int .u32 n.toNat]::MpIt eStr m it (List.map kvE x.2.1) (List.map kvE x.1) x.2.2::Ents 163 3 WasM.c x.2.1::R) [(0,_),(1,_),(4,_),(35,_)] (fun (x:List (EntV ByteArray WasM) × List (EntV ByteArray WasM) × Option (ByteArray × Value))=>TrimI es n x.1 x.2.1) (fun (x:List (EntV ByteArray WasM) × List (EntV ByteArray WasM) × Option (ByteArray × Value))=>x.1.length) (es,es,none) (TrimI.first hnd n) ?_
   rintro ⟨left,st,cur⟩ hI
   simp only at hI
   dsimp only
   refine WP.seq<|WP.reg ?_
   refine WL.h (h_next (fun h0=>?_) (fun a y0 b hx=>?_))
   ·have hl0:left=[]:=by simpa using h0
    subst hl0
    have hdone:=hI.done
    have hP2:=hP.trimmed h1 hnow
    rw [← hdone] at hP2
    refine WL.e e_extract<|WL.next<|WP.seq<|WP.cond_f rfl<|WP.exit<|PO.past nofun<|PO.round nofun<|PO.blockX<|PO.next<|WP.seq<|WP.reg<|WL.e e_assign<|WL.next<|WP.ret<|PO.conv (fun S h=>pu_stars (show PastOk (List.map stE st) now n H from hP2) h) ?_
    refine PO.cls (A:=Pa p H n) (B:=[pu (PastOk (List.map stE st) now n H),cl p 154 [m,.int .u32 now.toNat,.int .u32 n.toNat],Mp eStr m (List.map kvE st),Ents 163 3 WasM.c st]) (fun S h=>⟨(m,st,now),h⟩) ?_
    exact PO.fin Tryz.results122 (rv_tmp rv_nil) hK
   ·obtain ⟨A1,y,B1,hl,rfl,rfl,rfl⟩:=map_mid hx
    have hyin:y ∈ st:=hI.sub y (by simp [hl])
    have hye:y ∈ es:=hI.old y (by simp [hl])
    have hne:y.ws≠[]:=hP.ne (stE y) (List.mem_map.2 ⟨y,hye,rfl⟩)
    have hpos:0 < y.ws.length:=List.length_pos_iff.2 hne
    have hlw:y.ws.length≤68719476736:=by have h7:=hP.lens (stE y) (List.mem_map.2 ⟨y,hye,rfl⟩);have h8:(stE y).2=y.ws:=rfl;rw [h8] at h7;omega
    have hfe:=findE_mem hI.nodup hyin
    have hwe:wsE st y.key=y.ws:=by unfold wsE;rw [hfe]
    have hse:svE st y.key=y.sv:=by unfold svE;rw [hfe]
    refine WL.opn (Ents_take st y.key) fun _=>?_
    rw [hwe,hse]
    refine WL.e e_extract<|WL.next<|WP.seq<|WP.cond_t rfl<|WP.skip<|PO.next<|WP.block<|WP.seq<|WP.reg<|WL.e e_entry<|WL.e e_extract<|WL.e e_extract<|WL.e e_assign<|WL.e e_assign<|WL.next<|WP.seq<|WP.reg<|WL.e e_move<|WL.e (el_len (xs:=y.ws) (enc:=WasM.c) sl161 sl_rl)<|WL.e (e_sub (c:=((y.ws.length - 1:Nat):Int)) rfl rfl (by rw [w_i64 (by omega) (by omega)];omega))<|WL.e e_assign<|WL.next<|WP.seq<|WP.block ?_
    refine WP.loopK (fun (j:Nat)=>[(7,.int .i64 j)]) (fun (j:Nat)=>cl p 154 [m,.int .u32 now.toNat,.int .u32 n.toNat]::MpIt eStr m it (List.map kvE st) (List.map kvE A1++List.map kvE B1) (some (kvE y))::Sl 163 3 WasM.c y.sv.v y.ws::Ents 163 3 WasM.c (delE st y.key)::R) [(0,_),(1,_),(4,_),(5,_),(6,_),(35,_),(36,_),(37,_),(38,_),(39,_),(40,_),(41,_),(42,_),(43,_)] (fun (j:Nat)=>j < y.ws.length∧trimI y.ws n j=trimI y.ws n (y.ws.length - 1)) (fun (j:Nat)=>j) (y.ws.length - 1) (⟨by omega,rfl⟩) ?_
    rintro j ⟨hj,hj2⟩
    refine WP.seq<|WP.seq<|WP.reg<|WL.e e_move<|WL.e e_gtr<|WL.e e_move ?_
    refine WL.bool 46 rfl (fun h8=>?_) (fun h8=>?_)
    ·have hpos2:0 < j:=by simp at h8;omega
     obtain ⟨w,hw2⟩:∃ w,y.ws[j]?=some w:=⟨_,List.getElem?_eq_getElem hj⟩
     refine WL.e e_move<|WL.e e_move<|WL.e (el_ia (j:=j) (xs:=y.ws) (enc:=WasM.c) sl161 sl_rl hj)<|WL.e (el_fa (z:=3) (j:=j) (xs:=y.ws) (enc:=WasM.c) f163_0 sl_rl hj)<|WL.e (el_load0 (j:=j) (a:=w) a48 wasE sl_rl hw2)<|WL.e e_move<|WL.e (e_gtr32)<|WL.e e_pick_t<|WL.next ?_
     refine WP.cond rfl (fun h9=>?_) (fun h9=>?_)
     ·replace h9:=of_gt32 h9
      refine WP.skip<|PO.next<|WP.block<|WP.reg<|WL.e e_move<|WL.e (e_sub (c:=((j - 1:Nat):Int)) rfl rfl (by rw [w_i64 (by omega) (by omega)];omega))<|WL.e e_assign<|WL.nil<|PO.blockN ?_
      exact PO.againK (j - 1) ⟨by omega,by rw [← hj2];exact (trimI_step hw2 hpos2 h9).symm⟩ (by omega)
     ·replace h9:=of_ngt32 h9
      have hI2:=hI.step hl (j:=j) (by unfold trimW;rw [← hj2,trimI_stay hw2 hpos2 h9])
      refine WP.exit<|PO.past nofun<|PO.round nofun<|PO.blockX<|PO.next<|WP.draws mixedOk 9<|RW.e 0 rfl e_move<|RW.e 1 rfl e_nil<|RW.e 2 rfl (e_fa f154_0)<|RW.e 3 rfl (e_load a152)<|RW.e 4 rfl e_move<|RW.e 5 rfl e_move<|RW.e 6 rfl e_move<|RW.e 7 rfl (el_from (lo:=j) (xs:=y.ws) (enc:=WasM.c) sl161 sl_rl (by omega)) ?_
      refine RW.any (is:=[8]) rfl ⟨?_,trivial⟩
      refine RWat.h' rfl rfl rfl<|HO.conv (conv1 (A:=Sl 163 3 WasM.c y.sv.v y.ws) (B:=Sl 163 3 WasM.c (subV y.sv.v j y.ws.length none 3) (y.ws.drop j)) (fun S h=>sl_from wasE h hj) (by repeat first | exact .z | apply Put.s)) ?_
      refine (h_mapUpdateIt (p:=kvE y) Tryz.underlying152 (key_str Tryz.underlying9) (by rw [keys_kv];exact hI.nodup) ?_)
      refine ⟨trivial,?_⟩
      refine RW.done<|PO.blockN<|PO.cls (A:=Ents 163 3 WasM.c (setE st y.key (subS y.sv j y.ws.length 3) (y.ws.drop j))) (B:=[Sl 163 3 WasM.c (subS y.sv j y.ws.length 3).v (y.ws.drop j),Ents 163 3 WasM.c (delE st y.key)]) (Ents_put st y.key (subS y.sv j y.ws.length 3) (y.ws.drop j)) ?_
      refine PO.conv (conv1 (A:=MpIt eStr m it (mset (List.map kvE st) y.key (subS y.sv j y.ws.length 3).v) (List.map kvE A1++List.map kvE B1) none) (B:=MpIt eStr m it (List.map kvE (setE st y.key (subS y.sv j y.ws.length 3) (y.ws.drop j))) (List.map kvE (A1++B1)) none) (fun S h=>by rw [mset_kvE,← List.map_append] at h;exact h) (by repeat first | exact .z | apply Put.s)) ?_
      exact PO.againK (A1++B1,(setE st y.key (subS y.sv j y.ws.length 3) (y.ws.drop j)),none) hI2 (by simp only [hl,List.length_append,List.length_cons];omega)
    ·have hj0:j=0:=by simp at h8;omega
     have hI2:=hI.step hl (j:=j) (by unfold trimW;rw [← hj2,hj0];simp [trimI])
     refine WL.skip<|WL.skip<|WL.skip<|WL.skip<|WL.skip<|WL.skip<|WL.skip<|WL.e e_pick_f<|WL.next<|WP.cond_f rfl<|WP.exit<|PO.past nofun<|PO.round nofun<|PO.blockX<|PO.next<|WP.draws mixedOk 9<|RW.e 0 rfl e_move<|RW.e 1 rfl e_nil<|RW.e 2 rfl (e_fa f154_0)<|RW.e 3 rfl (e_load a152)<|RW.e 4 rfl e_move<|RW.e 5 rfl e_move<|RW.e 6 rfl e_move<|RW.e 7 rfl (el_from (lo:=j) (xs:=y.ws) (enc:=WasM.c) sl161 sl_rl (by omega)) ?_
     refine RW.any (is:=[8]) rfl ⟨?_,trivial⟩
     refine RWat.h' rfl rfl rfl<|HO.conv (conv1 (A:=Sl 163 3 WasM.c y.sv.v y.ws) (B:=Sl 163 3 WasM.c (subV y.sv.v j y.ws.length none 3) (y.ws.drop j)) (fun S h=>sl_from wasE h hj) (by repeat first | exact .z | apply Put.s)) ?_
     refine (h_mapUpdateIt (p:=kvE y) Tryz.underlying152 (key_str Tryz.underlying9) (by rw [keys_kv];exact hI.nodup) ?_)
     refine ⟨trivial,?_⟩
     refine RW.done<|PO.blockN<|PO.cls (A:=Ents 163 3 WasM.c (setE st y.key (subS y.sv j y.ws.length 3) (y.ws.drop j))) (B:=[Sl 163 3 WasM.c (subS y.sv j y.ws.length 3).v (y.ws.drop j),Ents 163 3 WasM.c (delE st y.key)]) (Ents_put st y.key (subS y.sv j y.ws.length 3) (y.ws.drop j)) ?_
     refine PO.conv (conv1 (A:=MpIt eStr m it (mset (List.map kvE st) y.key (subS y.sv j y.ws.length 3).v) (List.map kvE A1++List.map kvE B1) none) (B:=MpIt eStr m it (List.map kvE (setE st y.key (subS y.sv j y.ws.length 3) (y.ws.drop j))) (List.map kvE (A1++B1)) none) (fun S h=>by rw [mset_kvE,← List.map_append] at h;exact h) (by repeat first | exact .z | apply Put.s)) ?_
     exact PO.againK (A1++B1,(setE st y.key (subS y.sv j y.ws.length 3) (y.ws.drop j)),none) hI2 (by simp only [hl,List.length_append,List.length_cons];omega)
set_option maxHeartbeats 4000000 in
theorem PCommit_spec {g:World} {p:Nat} {A:HP} {u:Value} {H:List (List ChgM)} {trim:UInt32} {cs:List ChgM} (hA:RL A 3 ChgM.c u cs) (hcs:∀ c ∈ cs,chgOk c=true) (hn:cs.length≤68719476736) (hb2:H.length < 1000000000) :
  Spec Tryz.prog g 36 [.pointer (some ⟨p,0,none⟩),u] [Pa p H trim,A] fun K R=>K (.tuple #[.int .u32 (UInt32.ofNat H.length+1).toNat,.int .i64 0]) (Pa p (H++[cs]) trim::A::R):=by
 refine Spec.intro Tryz.func36 rfl Tryz.ntmps36 rfl fun R K hK=>?_
 refine WP.seq<|WP.reg<|WL.e e_assign<|WL.e e_assign<|WL.next<|WP.seq<|WP.seq<|WP.reg<|WL.e e_move ?_
 refine WL.h (h_call (Pthere_spec) k115 ?_)
 refine WL.e e_not<|WL.next<|WP.cond_f rfl<|WP.skip<|PO.next<|WP.seq<|WP.seq<|WP.reg<|WL.e e_move<|WL.e (el_len (xs:=cs) sl91 hA)<|WL.e e_move<|WL.next<|WP.block<|WP.loopK (fun (i:Nat)=>[(17,.int .i64 i)]) (fun (i:Nat)=>Pa p H trim::A::R) [(0,_),(1,_),(15,_),(16,_)] (fun (i:Nat)=>i≤cs.length) (fun (i:Nat)=>cs.length - i) 0 (Nat.zero_le _) ?_
 intro i hi
 refine WP.seq<|WP.reg<|WL.e e_lss<|WL.next<|WP.seq ?_
 refine WP.cond rfl (fun h2=>?_) (fun h2=>?_)
 ·have hlt:i < cs.length:=by rw [decide_eq_true_eq] at h2;omega
  obtain ⟨c,hc0⟩:∃ c,cs[i]?=some c:=⟨_,List.getElem?_eq_getElem hlt⟩
  have hco:=hcs c (List.mem_of_getElem? hc0)
  have hck:=chg_key hco
  refine WP.skip<|PO.next<|WP.seq<|WP.block<|WP.seq<|WP.reg<|WL.e (el_ia (xs:=cs) sl91 hA hlt)<|WL.e (el_loadN (a:=c) a127 chgE hA hc0) ?_
  refine WL.h (h_alloc z127 fun b1=>?_)
  refine WL.h' (h_store s127 ?_)
  refine WL.next<|WP.seq<|WP.reg<|WL.e (e_fa f127_0)<|WL.e (e_load a9) ?_
  refine WL.h (h_call (Check_spec _) k116 ?_)
  refine WL.e e_not<|WL.e e_move ?_
  refine WL.bool 25 rfl (fun g1=>?_) (fun g1=>?_)
  ·exact absurd g1 (by simp [hck]) 
  ·skip
   refine WL.e (e_fa f127_2)<|WL.e (e_load a4)<|WL.e e_move ?_
   refine WL.bool 28 rfl (fun g2=>?_) (fun g2=>?_)
   ·have hv0:=chg_gone hco g2
    refine WL.e (e_fa f127_1)<|WL.e (e_load a48)<|WL.e (e_neq32 (b:=0))<|WL.e e_pick_t<|WL.e e_pick_f<|WL.next ?_
    refine WP.cond rfl (fun g3=>?_) (fun g3=>?_)
    ·(rw [hv0] at g3;exact absurd g3 (by decide))
    ·skip
     refine WP.skip<|PO.blockN<|PO.next<|WP.reg<|WL.e (e_add rfl rfl (w_i64 (by omega) (by omega)))<|WL.e e_move<|WL.nil ?_
     exact PO.againK (i+1) (by omega) (by omega)
   ·skip
    refine WL.skip<|WL.skip<|WL.skip<|WL.e e_pick_f<|WL.e e_pick_f<|WL.next<|WP.cond_f rfl<|WP.skip<|PO.blockN<|PO.next<|WP.reg<|WL.e (e_add rfl rfl (w_i64 (by omega) (by omega)))<|WL.e e_move<|WL.nil ?_
    exact PO.againK (i+1) (by omega) (by omega)
 ·refine WP.opn (Pa_op (p:=p) (H:=H) (trim:=trim)) fun x=>?_
  obtain ⟨m,es,now⟩:=x
  dsimp only
  refine WP.pull (φ:=PastOk (List.map stE es) now trim H) (k:=fun hP=>?_)
  refine WP.exit<|PO.past nofun<|PO.round nofun<|PO.blockX<|PO.next<|WP.seq<|WP.reg<|WL.e e_move<|WL.e e_nil<|WL.e (e_fa f154_1)<|WL.e (e_load a48)<|WL.e (e_add32 (b:=1))<|WL.e e_nil<|WL.e (e_fa f154_1) ?_
  refine WL.h' (h_store s48 ?_)
  refine WL.next<|WP.seq<|WP.seq<|WP.reg<|WL.e e_move<|WL.e (el_len (xs:=cs) sl91 hA)<|WL.e e_move<|WL.next<|WP.block<|WP.loopK (fun (x:Nat × List (EntV ByteArray WasM))=>[(44,.int .i64 x.1)]) (fun (x:Nat × List (EntV ByteArray WasM))=>cl p 154 [m,.int .u32 (now+1).toNat,.int .u32 trim.toNat]::Mp eStr m (List.map kvE x.2)::Ents 163 3 WasM.c x.2::A::R) [(0,_),(42,_),(43,_)] (fun (x:Nat × List (EntV ByteArray WasM))=>x.1≤cs.length∧MidOk (List.map stE x.2) now trim H (cs.take x.1)) (fun (x:Nat × List (EntV ByteArray WasM))=>cs.length - x.1) (0,es) (⟨Nat.zero_le _,hP.start (by omega)⟩) ?_
  rintro ⟨i,es⟩ ⟨hi,hM⟩
  simp only at hi hM
  dsimp only
  refine WP.seq<|WP.reg<|WL.e e_lss<|WL.next<|WP.seq ?_
  refine WP.cond rfl (fun h3=>?_) (fun h3=>?_)
  ·have hlt:i < cs.length:=by rw [decide_eq_true_eq] at h3;omega
   obtain ⟨c,hc0⟩:∃ c,cs[i]?=some c:=⟨_,List.getElem?_eq_getElem hlt⟩
   have hck:=chg_key (hcs c (List.mem_of_getElem? hc0))
   have hlen:(wsE es c.key).length≤H.length+1:=hM.len_le c.key
   refine WP.skip<|PO.next<|WP.seq<|WP.block<|WP.seq<|WP.reg<|WL.e (el_ia (xs:=cs) sl91 hA hlt)<|WL.e (el_loadN (a:=c) a127 chgE hA hc0) ?_
   refine WL.h (h_alloc z127 fun b2=>?_)
   refine WL.h' (h_store s127 ?_)
   refine WL.next<|WP.seq<|WP.draws mixedOk 8<|RW.e 0 rfl e_move<|RW.e 1 rfl e_nil<|RW.e 2 rfl (e_fa f154_0)<|RW.e 3 rfl (e_load a152)<|RW.e 4 rfl (e_fa f127_0)<|RW.e 5 rfl (e_load a9)<|RW.e 6 rfl (em_lookE (k:=c.key) (es:=es) Tryz.underlying152 (key_str Tryz.underlying9) zz161 mp_rdm)<|RW.e 7 rfl e_assign<|RW.done<|PO.next ?_
   refine WP.cutR (fun (y:SV × List WasM)=>[(10,y.1.v)]) (fun (y:SV × List WasM)=>cl p 154 [m,.int .u32 (now+1).toNat,.int .u32 trim.toNat]::Mp eStr m (List.map kvE es)::Sl 163 3 WasM.c y.1.v y.2::Ents 163 3 WasM.c (delE es c.key)::A::cl b2 127 c.c::R) [(0,_),(9,_),(42,_),(43,_),(44,_),(45,_),(46,_),(47,_),(48,_),(49,_),(50,_),(51,_),(52,_),(53,_),(54,_)] (fun (y:SV × List WasM)=>y.2++[(⟨now+1,c.val,c.gone⟩:WasM)]=addW1 (wsE es c.key) (now+1) c) ?_ ?_
   ·skip
    refine WP.seq<|WP.reg<|WL.e e_move<|WL.e (el_len (xs:=wsE es c.key) (enc:=WasM.c) sl161 (ents_key c.key))<|WL.e e_assign<|WL.next ?_
    refine WP.cutL (fun (y:{ y:Bool // y=decide (wsE es c.key≠[]∧lastW (wsE es c.key)=now+1) })=>[(71,.bool y.1)]) (fun (y:{ y:Bool // y=decide (wsE es c.key≠[]∧lastW (wsE es c.key)=now+1) })=>cl p 154 [m,.int .u32 (now+1).toNat,.int .u32 trim.toNat]::Mp eStr m (List.map kvE es)::Ents 163 3 WasM.c es::A::cl b2 127 c.c::R) (fun (y:{ y:Bool // y=decide (wsE es c.key≠[]∧lastW (wsE es c.key)=now+1) })=>True) ?_ ?_
    ·skip
     refine WP.draws mixedOk 15<|RW.e 0 rfl e_move<|RW.e 1 rfl e_gtr<|RW.e 2 rfl e_move ?_
     refine RW.bool 59 rfl (fun h5=>?_) (fun h5=>?_)
     ·have hpos:0 < (wsE es c.key).length:=by simp at h5;omega
      obtain ⟨w5,hw5⟩:∃ w,(wsE es c.key)[(wsE es c.key).length - 1]?=some w:=⟨_,List.getElem?_eq_getElem (by omega)⟩
      refine RW.e 3 rfl e_move<|RW.e 4 rfl e_move<|RW.e 5 rfl (e_sub (c:=(((wsE es c.key).length - 1:Nat):Int)) rfl rfl (by rw [w_i64 (by omega) (by omega)];omega))<|RW.e 6 rfl (el_ia (j:=(wsE es c.key).length - 1) (xs:=wsE es c.key) (enc:=WasM.c) sl161 (ents_key c.key) (by omega))<|RW.e 7 rfl (el_fa (z:=3) (j:=(wsE es c.key).length - 1) (xs:=wsE es c.key) (enc:=WasM.c) f163_0 (ents_key c.key) (by omega))<|RW.e 8 rfl (el_load0 (j:=(wsE es c.key).length - 1) (a:=w5) a48 wasE (ents_key c.key) hw5)<|RW.e 9 rfl e_move<|RW.e 10 rfl e_nil<|RW.e 11 rfl (e_fa f154_1)<|RW.e 12 rfl (e_load a48)<|RW.e 13 rfl (e_eql32)<|RW.e 14 rfl e_pick_t<|RW.done ?_
      exact PO.meetK ⟨_,eqlast hw5⟩ trivial
     ·have hw0:wsE es c.key=[]:=by cases e:wsE es c.key with
       | nil=>rfl
       | cons a b=>rw [e] at h5;simp at h5
      refine RW.skip 3 rfl<|RW.skip 4 rfl<|RW.skip 5 rfl<|RW.skip 6 rfl<|RW.skip 7 rfl<|RW.skip 8 rfl<|RW.skip 9 rfl<|RW.skip 10 rfl<|RW.skip 11 rfl<|RW.skip 12 rfl<|RW.skip 13 rfl<|RW.e 14 rfl e_pick_f<|RW.done ?_
      exact PO.meetK ⟨false,by simp [hw0]⟩ trivial
    ·rintro ⟨y,hy⟩ _
     dsimp only
     refine WP.cond rfl (fun h6=>?_) (fun h6=>?_)
     ·have hy5:=of_decide_eq_true (hy.symm.trans h6)
      have hpos:0 < (wsE es c.key).length:=List.length_pos_iff.2 hy5.1
      refine WP.reg<|WL.e e_move<|WL.e e_move<|WL.e (e_sub (c:=(((wsE es c.key).length - 1:Nat):Int)) rfl rfl (by rw [w_i64 (by omega) (by omega)];omega))<|WL.e e_move<|WL.e (e_sub (c:=(((wsE es c.key).length - 1:Nat):Int)) rfl rfl (by rw [w_i64 (by omega) (by omega)];omega))<|WL.e (el_to3 (hi:=(wsE es c.key).length - 1) (xs:=wsE es c.key) (enc:=WasM.c) sl161 (ents_key c.key) (by omega))<|WL.e e_assign<|WL.nil<|PO.opn (Ents_take es c.key) fun _=>?_
      refine PO.conv (conv1 (A:=Sl 163 3 WasM.c (svE es c.key).v (wsE es c.key)) (B:=Sl 163 3 WasM.c (subV (svE es c.key).v 0 ((wsE es c.key).length - 1) (some ((wsE es c.key).length - 1)) 3) ((wsE es c.key).take ((wsE es c.key).length - 1))) (fun S h=>sl_to3 wasE h (by omega)) (by repeat first | exact .z | apply Put.s)) ?_
      refine PO.sh (u:=subV (svE es c.key).v 0 ((wsE es c.key).length - 1) (some ((wsE es c.key).length - 1)) 3) fun a9 m9 c9 e9=>?_
      rw [e9]
      exact PO.meetK (⟨a9,m9,c9⟩,(wsE es c.key).take ((wsE es c.key).length - 1)) (by simp only;unfold addW1;rw [if_pos hy5,List.dropLast_eq_take])
     ·have hy5:=of_decide_eq_false (hy.symm.trans h6)
      refine WP.skip<|PO.opn (Ents_take es c.key) fun _=>?_
      exact PO.meetK (svE es c.key,wsE es c.key) (by simp only;unfold addW1;rw [if_neg hy5])
   ·rintro ⟨w1,ws1⟩ hws1
    simp only at hws1
    dsimp only
    have hwl:ws1.length≤1000000000:=by have h7:=congrArg List.length hws1;rw [List.length_append,List.length_singleton] at h7;have h8:=addW1_len (wsE es c.key) (now+1) c;omega
    refine WP.draws mixedOk 19<|RW.e 0 rfl e_move<|RW.e 1 rfl e_nil<|RW.e 2 rfl (e_fa f154_0)<|RW.e 3 rfl (e_load a152)<|RW.e 4 rfl (e_fa f127_0)<|RW.e 5 rfl (e_load a9)<|RW.e 6 rfl e_move<|RW.e 7 rfl e_move<|RW.e 8 rfl e_nil<|RW.e 9 rfl (e_fa f154_1)<|RW.e 10 rfl (e_load a48)<|RW.e 11 rfl (e_fa f127_1)<|RW.e 12 rfl (e_load a48)<|RW.e 13 rfl (e_fa f127_2)<|RW.e 14 rfl (e_load a4)<|RW.e 15 rfl (e_build z163 p163 (.o (.tmp 88) rfl<|.o (.tmp 90) rfl<|.o (.tmp 92) rfl<|.n)) ?_
    refine RW.any (is:=[16]) rfl ⟨?_,trivial⟩
    refine RWat.h rfl rfl rfl ?_
    refine (h_bs sl161 z163 (.a3 (.tmp 93) rfl<|.n) fun b3=>?_)
    refine ⟨⟨⟨_,rfl,.inl ⟨rfl,e_move⟩⟩,⟨_,rfl,.inl ⟨rfl,(e_load a9)⟩⟩,⟨_,rfl,.inl ⟨rfl,(e_fa f127_0)⟩⟩,⟨_,rfl,.inl ⟨rfl,(e_load a152)⟩⟩,⟨_,rfl,.inl ⟨rfl,(e_fa f154_0)⟩⟩,⟨_,rfl,.inl ⟨rfl,e_nil⟩⟩,⟨_,rfl,.inl ⟨rfl,e_move⟩⟩,trivial⟩,?_⟩
    refine RW.any (is:=[17]) rfl ⟨?_,trivial⟩
    refine RWat.h rfl rfl rfl ?_
    refine (hl_append (xs:=ws1) (ys:=[(⟨now+1,c.val,c.gone⟩:WasM)]) sl161 wasE z163 (lit_rl wasE [(⟨now+1,c.val,c.gone⟩:WasM)] rfl) (by simp;omega) (fun a5 n5 c5=>?_))
    refine ⟨⟨⟨_,rfl,.inl ⟨rfl,(e_load a9)⟩⟩,⟨_,rfl,.inl ⟨rfl,(e_fa f127_0)⟩⟩,⟨_,rfl,.inl ⟨rfl,(e_load a152)⟩⟩,⟨_,rfl,.inl ⟨rfl,(e_fa f154_0)⟩⟩,⟨_,rfl,.inl ⟨rfl,e_nil⟩⟩,⟨_,rfl,.inl ⟨rfl,e_move⟩⟩,trivial⟩,?_⟩
    refine RW.any (is:=[18]) rfl ⟨?_,trivial⟩
    refine RWat.h' rfl rfl rfl ?_
    refine (h_mapUpdate (k:=c.key) (kvs:=List.map kvE es) Tryz.underlying152 (key_str Tryz.underlying9) ?_)
    refine ⟨trivial,?_⟩
    refine RW.done<|PO.blockN<|PO.next<|WP.reg<|WL.e (e_add rfl rfl (w_i64 (by omega) (by omega)))<|WL.e e_move<|WL.nil ?_
    rw [show ws1++[(⟨now+1,c.val,c.gone⟩:WasM)]=addW1 (wsE es c.key) (now+1) c from hws1,show mset (List.map kvE es) c.key (.slice a5 n5 c5)=List.map kvE (setE es c.key ⟨a5,n5,c5⟩ (addW1 (wsE es c.key) (now+1) c)) from mset_kvE es c.key ⟨a5,n5,c5⟩ _]
    refine PO.cls (A:=Ents 163 3 WasM.c (setE es c.key ⟨a5,n5,c5⟩ (addW1 (wsE es c.key) (now+1) c))) (B:=[Sl 163 3 WasM.c (.slice a5 n5 c5) (addW1 (wsE es c.key) (now+1) c),Ents 163 3 WasM.c (delE es c.key)]) (Ents_put es c.key ⟨a5,n5,c5⟩ (addW1 (wsE es c.key) (now+1) c)) ?_
    exact PO.againK (i+1,(setE es c.key ⟨a5,n5,c5⟩ (addW1 (wsE es c.key) (now+1) c))) ⟨by simp only;omega,by simp only;rw [putS_ents,take_snoc hc0];exact hM.step hP.nowH (by omega) c hck⟩ (by simp only;omega)
  ·obtain rfl:i=cs.length:=by rw [decide_eq_false_iff_not] at h3;omega
   rw [List.take_length] at hM
   have hP2:=hM.done hP (by omega)
   refine WP.exit<|PO.past nofun<|PO.round nofun<|PO.blockX<|PO.next<|WP.seq<|WP.reg<|WL.e e_move<|WL.e e_nil<|WL.e (e_fa f154_1)<|WL.e (e_load a48)<|WL.e e_assign<|WL.e e_assign<|WL.next<|WP.ret<|PO.conv (fun S h=>pu_stars (show PastOk (List.map stE es) (now+1) trim (H++[cs]) from hP2) h) ?_
   refine PO.cls (A:=Pa p ((H++[cs])) trim) (B:=[pu (PastOk (List.map stE es) (now+1) trim (H++[cs])),cl p 154 [m,.int .u32 (now+1).toNat,.int .u32 trim.toNat],Mp eStr m (List.map kvE es),Ents 163 3 WasM.c es]) (fun S h=>⟨(m,es,(now+1)),h⟩) ?_
   rw [← hP.now_eq] at hK
   exact PO.fin Tryz.results36 (rv_tmp (rv_tmp rv_nil)) hK
end Go.SL
set_option linter.unusedSectionVars false
namespace Go.SL
open Go
structure TxU (κ σ:Type) where
  id:κ
  q:Nat
  x:σ
section
variable {κ σ : Type} [DecidableEq κ]
def findU (ts:List (TxU κ σ)) (n:κ):Option (TxU κ σ):=ts.find? fun t=>decide (t.id=n)
def delU (ts:List (TxU κ σ)) (n:κ):List (TxU κ σ):=ts.eraseP fun t=>decide (t.id=n)
def kvU (t:TxU κ σ):κ × Value:=(t.id,.pointer (some ⟨t.q,0,none⟩))
def setU (ts:List (TxU κ σ)) (n:κ) (x:σ):List (TxU κ σ):=ts.map fun o=>if o.id=n then { o with x:=x } else o
theorem mget_kvU (ts:List (TxU κ σ)) (n:κ):mget (ts.map kvU) n=(findU ts n).map fun t=>.pointer (some ⟨t.q,0,none⟩):=by
  unfold mget findU
  induction ts with
  | nil=>rfl
  | cons t ts ih=>
    simp only [List.map_cons,List.find?_cons,kvU]
    by_cases h:t.id=n
    · simp [h]
    · simp only [h,decide_false];exact ih
theorem mdel_kvU (ts:List (TxU κ σ)) (n:κ):mdel (ts.map kvU) n=(delU ts n).map kvU:=by
  unfold mdel midx delU
  induction ts with
  | nil=>rfl
  | cons t ts ih=>
    simp only [List.map_cons,List.findIdx?_cons,List.eraseP_cons,kvU]
    by_cases h:t.id=n
    · simp [h]
    · simp only [h,decide_false,Bool.false_eq_true,if_false,cond_false]
      cases hm:List.findIdx? (fun p:κ × Value=>decide (p.1=n)) (ts.map kvU) with
      | none=>rw [hm] at ih;simp [ih,kvU]
      | some j=>rw [hm] at ih;simp only [Option.map_some,List.eraseIdx_cons_succ,List.map_cons];rw [← ih];rfl
theorem mset_kvU (ts:List (TxU κ σ)) (t:TxU κ σ) (h:findU ts t.id=none):mset (ts.map kvU) t.id (.pointer (some ⟨t.q,0,none⟩))=(ts++[t]).map kvU:=by
  have h1:midx (ts.map kvU) t.id=none:=by rw [midx_none,mget_kvU,h];rfl
  simp [mset,h1,kvU]
theorem findU_mid {ts:List (TxU κ σ)} {n:κ} {t:TxU κ σ} (h:findU ts n=some t):t.id=n∧∃ A B,ts=A++t::B∧delU ts n=A++B∧∀ x ∈ A,x.id≠n:=by
  unfold findU at h
  induction ts with
  | nil=>simp at h
  | cons x ts ih=>
    rw [List.find?_cons] at h
    by_cases e:x.id=n
    · simp [e] at h;subst h
      exact ⟨e,[],ts,rfl,by simp [delU,e],by simp⟩
    · simp [e] at h
      obtain ⟨h1,A,B,h2,h3,h4⟩:=ih (by simpa using h)
      refine ⟨h1,x::A,B,by simp [h2],by simp only [delU,List.eraseP_cons,e,decide_false,cond_false,List.cons_append] at h3 ⊢;rw [h3],?_⟩
      intro y hy
      rcases List.mem_cons.1 hy with rfl | hy
      · exact e
      · exact h4 y hy
theorem findU_mem {ts:List (TxU κ σ)} {n:κ} {t:TxU κ σ} (h:findU ts n=some t):t ∈ ts:=List.mem_of_find?_eq_some h
theorem findU_none {ts:List (TxU κ σ)} {n:κ} (h:findU ts n=none):n ∉ ts.map (·.id):=by
  intro hm
  obtain ⟨t,ht,rfl⟩:=List.mem_map.1 hm
  have:=List.find?_eq_none.1 h t ht
  simp at this
theorem nodupU_mid {A B:List (TxU κ σ)} {t:TxU κ σ} (h:((A++t::B).map (·.id)).Nodup):∀ x ∈ A++B,x.id≠t.id:=by
  rw [List.map_append,List.map_cons] at h
  obtain ⟨h1,h2,h3⟩:=List.nodup_append.1 h
  have h4:=(List.nodup_cons.1 h2).1
  intro x hx e
  rcases List.mem_append.1 hx with hx | hx
  · exact h3 x.id (List.mem_map.2 ⟨x,hx,rfl⟩) t.id (by simp) e
  · exact h4 (e ▸ List.mem_map.2 ⟨x,hx,rfl⟩)
theorem findU_of {ts:List (TxU κ σ)} (hn:(ts.map (·.id)).Nodup) {t:TxU κ σ} (ht:t ∈ ts):findU ts t.id=some t:=by
  obtain ⟨A,B,rfl⟩:=List.append_of_mem ht
  unfold findU
  rw [List.find?_append,List.find?_eq_none.2 (fun x hx=>by have:=nodupU_mid hn x (by simp [hx]);simpa using this)]
  simp
theorem delU_sub {ts:List (TxU κ σ)} {n:κ}:(delU ts n).Sublist ts:=List.eraseP_sublist
theorem setU_mid {A B:List (TxU κ σ)} {t:TxU κ σ} (h:((A++t::B).map (·.id)).Nodup) (x:σ):setU (A++t::B) t.id x=A++{ t with x:=x }::B:=by
  have hn:=nodupU_mid h
  unfold setU
  rw [List.map_append,List.map_cons,if_pos rfl]
  have e1:∀ l:List (TxU κ σ),(∀ y ∈ l,y.id≠t.id)→l.map (fun o=>if o.id=t.id then { o with x:=x } else o)=l:=fun l hl=>by
    conv=>rhs;rw [← List.map_id l]
    apply List.map_congr_left
    intro o ho
    rw [if_neg (hl o ho)];rfl
  rw [e1 A (fun x hx=>hn x (by simp [hx])),e1 B (fun x hx=>hn x (by simp [hx]))]
theorem setU_ids (ts:List (TxU κ σ)) (n:κ) (x:σ):(setU ts n x).map (·.id)=ts.map (·.id):=by
  unfold setU
  rw [List.map_map]
  apply List.map_congr_left
  intro o _
  simp only [Function.comp]
  split <;> rfl
theorem setU_mem {ts:List (TxU κ σ)} {n:κ} {x:σ} {o:TxU κ σ} (h:o ∈ setU ts n x):(∃ t ∈ ts,t.id=n∧o={ t with x:=x })∨(o ∈ ts∧o.id≠n):=by
  unfold setU at h
  obtain ⟨t,ht,rfl⟩:=List.mem_map.1 h
  by_cases e:t.id=n
  · left;exact ⟨t,ht,e,by rw [if_pos e]⟩
  · right;rw [if_neg e];exact ⟨ht,e⟩
theorem setU_find {ts:List (TxU κ σ)} {n:κ} {x:σ} (m:κ):findU (setU ts n x) m=(findU ts m).map fun t=>if t.id=n then { t with x:=x } else t:=by
  unfold findU setU
  rw [List.find?_map]
  congr 1
  congr 1
  funext t
  simp only [Function.comp]
  split <;> rfl
def TxsU (TP:TxU κ σ→List HP) (ts:List (TxU κ σ)):HP:=bun (ts.map fun t=>bun (TP t))
variable {TP : TxU κ σ → List HP}
theorem TxsU_nil {L:List HP} {S:Piece} (h:stars L S):stars (TxsU TP []::L) S:=bun_stars (L:=[]) h
theorem TxsU_out {ts A B:List (TxU κ σ)} {t:TxU κ σ} (h:ts=A++t::B):∀ S,TxsU TP ts S→∃ _:Unit,stars (TP t++[TxsU TP (A++B)]) S:=fun S hS=>by
  subst h
  refine ⟨(),?_⟩
  have hS:stars ((A++t::B).map fun t=>bun (TP t)) S:=hS
  rw [List.map_append,List.map_cons] at hS
  have h1:=stars_bun (stars_unmove hS)
  have h2:=stars_append h1
  refine stars_append' ?_
  obtain ⟨S1,S2,a,b,c,d,e⟩:=h2
  refine ⟨S1,S2,a,b,c,d,?_⟩
  rw [TxsU,List.map_append]
  exact bun_stars (M:=[]) (S:=S2) (by simpa using e)
theorem TxsU_in {A B:List (TxU κ σ)} {t:TxU κ σ}:∀ S,stars (TP t++[TxsU TP (A++B)]) S→TxsU TP (A++t::B) S:=fun S hS=>by
  show stars ((A++t::B).map fun t=>bun (TP t)) S
  rw [List.map_append,List.map_cons]
  refine stars_move (bun_stars (L:=TP t) ?_)
  obtain ⟨S1,S2,a,b,c,d,e⟩:=stars_append hS
  refine stars_append' ⟨S1,S2,a,b,c,d,?_⟩
  rw [TxsU,List.map_append] at e
  have:=stars_bun (M:=[]) e
  simpa using this
end
end Go.SL
namespace Go.SL
open Go
theorem recs_framesB:∀ (ys:List (List UInt8)) (rest:List UInt8),(∀ y ∈ ys,(y).length≤16384)→recs rest=[]→recs ((ys.flatMap frame)++rest)=ys.map fun y=>(y,secs (y).length)
  | [],rest,_,h=>by simpa using h
  | y::ys,rest,hy,h=>by
    have ih:=recs_framesB ys rest (fun z hz=>hy z (by simp [hz])) h
    rw [List.flatMap_cons,List.append_assoc,recs_some (getF_frame (hy y (by simp)) _),List.drop_left' (frame_len _),ih]
    rfl
structure DiskLogB (d:DiskM) (at0:Nat) (ys:List (List UInt8)):Prop where
  ok:d.ok
  waits:d.waits=[]
  same:d.sure=d.seen
  len:d.sure.length=4096
  flat:d.seen.flatten=(ys.flatMap frame)++List.replicate ((4096 - at0) * 64) 0
  hat:(ys.map fun y=>secs (y).length).sum=at0
  le:at0≤4096
  yok:∀ y ∈ ys,(y).length≤16384
theorem frames_lenB:∀ (ys:List (List UInt8)),(ys.flatMap frame).length=(ys.map fun y=>secs (y).length).sum * 64
  | []=>rfl
  | y::ys=>by rw [List.flatMap_cons,List.length_append,frames_lenB ys,frame_len];simp;omega
theorem DiskLogB.recs {d:DiskM} {at0:Nat} {ys:List (List UInt8)} (h:DiskLogB d at0 ys):(SL.recs d.seen.flatten).map (·.1)=ys∧((SL.recs d.seen.flatten).map (·.2)).sum=at0∧cleanTo d.seen.flatten d at0 (d.sure.length - at0)=d:=by
  have hr:SL.recs d.seen.flatten=ys.map fun y=>(y,secs (y).length):=by
    rw [h.flat]
    exact recs_framesB ys _ (fun y hy=>h.yok y hy) (recs_zeros _)
  refine ⟨by rw [hr,List.map_map];exact List.map_id' ys,by rw [hr,← h.hat];simp [Function.comp_def],clean_id _ _ _ _ fun j hj=>?_⟩
  have hl:=h.len
  rw [h.flat,List.drop_append,frames_lenB,h.hat,List.drop_of_length_le (by rw [frames_lenB,h.hat];omega),List.nil_append,List.drop_replicate,List.take_replicate]
  congr 1
  omega
theorem DiskLogB.fail {d:DiskM} {at0:Nat} {ys:List (List UInt8)} (h:DiskLogB d at0 ys):(⟨d.sure,d.sure,[]⟩:DiskM)=d:=by
  have h1:=h.same;have h2:=h.waits
  cases d;simp only at h1 h2 ⊢;subst h1 h2;rfl
theorem DiskLogB.sync {d:DiskM} {at0:Nat} {ys:List (List UInt8)} (h:DiskLogB d at0 ys):d.sync=d:=by
  have h1:=h.same;have h2:=h.waits
  cases d;simp only [DiskM.sync] at h1 h2 ⊢;subst h1 h2;rfl
theorem DiskLogB.first:DiskLogB (newDisk 4096).sync 0 []:=
  ⟨newDisk_quiet.ok.sync,rfl,rfl,List.length_replicate,by show (newDisk 4096).seen.flatten=_;rw [new_flat];rfl,rfl,Nat.zero_le _,by simp⟩
theorem DiskLogB.add {d:DiskM} {at0:Nat} {ys:List (List UInt8)} (h:DiskLogB d at0 ys) {y:List UInt8} (hl:(y).length≤16384) (hfit:at0+secs (y).length≤d.sure.length):DiskLogB (addW d at0 (frame (y)) (secs (y).length)).sync (at0+secs (y).length) (ys++[y]):=by
  have hlen:=h.len
  have hsl:=h.ok.len
  obtain ⟨e1,e2⟩:=addW_flat (secs (y).length) d at0 (frame (y)) (frame_len _) (by omega)
  have hfr:(ys.flatMap frame).length=at0 * 64:=by rw [frames_lenB,h.hat]
  refine ⟨(addW_ok _ _ _ _ h.ok).sync,rfl,rfl,by show (addW _ _ _ _).seen.length=_;rw [e2];omega,?_,by rw [List.map_append,List.sum_append,h.hat];simp,by omega,fun z hz=>?_⟩
  · show (addW _ _ _ _).seen.flatten=_
    rw [e1,flat_take64 _ _ h.ok.l2,flat_drop64 _ _ h.ok.l2,h.flat,List.take_left' hfr,List.drop_append,List.drop_of_length_le (by rw [hfr];omega),List.nil_append,hfr,List.drop_replicate,List.flatMap_append]
    simp only [List.flatMap_cons,List.flatMap_nil,List.append_nil]
    congr 2
    omega
  · rcases List.mem_append.1 hz with hz | hz
    · exact h.yok z hz
    · simp at hz;subst hz;exact hl
end Go.SL
