import Derived.Test.YtjllpjpokkmaiaaGreatDoorQB20
set_option linter.unusedSimpArgs false
set_option linter.unusedVariables false
namespace Go.SL.Fc
open Go Go.Proofs Go.SL
theorem a102:aggOf Tryz.prog 102=some none:=by kernel_rfl
theorem a95:aggOf Tryz.prog 95=some none:=by kernel_rfl
theorem a97:aggOf Tryz.prog 97=some none:=by kernel_rfl
theorem f106_0:fldOf Tryz.prog 106 0=some 0:=by kernel_rfl
theorem f106_1:fldOf Tryz.prog 106 1=some 1:=by kernel_rfl
theorem f106_2:fldOf Tryz.prog 106 2=some 2:=by kernel_rfl
theorem f106_3:fldOf Tryz.prog 106 3=some 3:=by kernel_rfl
theorem f99_0:fldOf Tryz.prog 99 0=some 0:=by kernel_rfl
theorem f99_1:fldOf Tryz.prog 99 1=some 1:=by kernel_rfl
theorem k141:callable Tryz.prog 141=true:=by kernel_rfl
theorem k37:callable Tryz.prog 37=true:=by kernel_rfl
theorem k40:callable Tryz.prog 40=true:=by kernel_rfl
theorem k49:callable Tryz.prog 49=true:=by kernel_rfl
theorem k50:callable Tryz.prog 50=true:=by kernel_rfl
theorem k51:callable Tryz.prog 51=true:=by kernel_rfl
theorem k57:callable Tryz.prog 57=true:=by kernel_rfl
theorem k58:callable Tryz.prog 58=true:=by kernel_rfl
theorem k59:callable Tryz.prog 59=true:=by kernel_rfl
theorem k60:callable Tryz.prog 60=true:=by kernel_rfl
theorem k61:callable Tryz.prog 61=true:=by kernel_rfl
theorem k62:callable Tryz.prog 62=true:=by kernel_rfl
theorem p106:placesOf Tryz.prog 106=some [(0,1),(1,1),(2,1),(3,1)]:=by kernel_rfl
theorem p99:placesOf Tryz.prog 99=some [(0,1),(1,1)]:=by kernel_rfl
theorem pt102:isPtr Tryz.prog 102=true:=by kernel_rfl
theorem s97:szOf Tryz.prog 97=some 1:=by kernel_rfl
theorem sl97:slOf Tryz.prog 97=some (102,1,8):=by kernel_rfl
theorem z102:zeroOf Tryz.prog 102=some [.pointer none]:=by kernel_rfl
theorem z106:zeroOf Tryz.prog 106=some [.int .u32 0,.int .u32 0,.slice none 0 0,.slice none 0 0]:=by kernel_rfl
theorem z99:zeroOf Tryz.prog 99=some [.pointer none,.slice none 0 0]:=by kernel_rfl
end Go.SL.Fc
namespace Go.SL
open Go Go.Proofs Fc
def Rf (p:Nat) (s:RefV):HP:=fun S=>∃ x:Nat × SV,stars [cl p 99 [.pointer (some ⟨x.1,0,none⟩),x.2.v],Pas x.1 s.H,Sl 102 1 ptC (x.2.v) (s.txs),Rts 106 110 127 s.txs] S
theorem Rf_op {p:Nat} {s:RefV}:∀ S,Rf p s S→∃ x:Nat × SV,stars [cl p 99 [.pointer (some ⟨x.1,0,none⟩),x.2.v],Pas x.1 s.H,Sl 102 1 ptC (x.2.v) (s.txs),Rts 106 110 127 s.txs] S:=fun S h=>h
theorem rNew_spec {g:World}:Spec Tryz.prog g 8 [] [] fun K R=>∀ p,K (.pointer (some ⟨p,0,none⟩)) (Rf p ref0::R):=by
 refine Spec.intro Tryz.func8 rfl Tryz.ntmps8 rfl fun R K hK=>?_
 refine WP.seq<|WP.reg<|WL.e e_assign<|WL.next<|WP.seq<|WP.reg ?_
 refine WL.h (h_call (pNew_spec) k37 ?_)
 intro pb
 refine WL.e (e_build z99 p99 (.o (.tmp 1) rfl<|.z (.slice none 0 0)<|.n)) ?_
 refine WL.h (h_box fun b1=>?_)
 refine WL.e e_assign<|WL.next<|WP.ret<|PO.nils 102 1 ptC none ?_
 refine PO.conv (M:=Rts 106 110 127 []::_) (fun S h=>TxsU_nil h) ?_
 refine PO.cls (A:=Rf b1 ref0) (B:=[cl b1 99 [.pointer (some ⟨pb,0,none⟩),.slice none 0 0],Pas pb [],Sl 102 1 ptC (.slice none 0 0) [],Rts 106 110 127 []]) (fun S h=>⟨⟨pb,⟨none,0,0⟩⟩,h⟩) ?_
 exact PO.fin Tryz.results8 (rv_tmp rv_nil) (hK b1)
theorem rAgain_spec {g:World} {p:Nat} {s:RefV}:Spec Tryz.prog g 16 [.pointer (some ⟨p,0,none⟩)] [Rf p s] fun K R=>∀ p,K (.pointer (some ⟨p,0,none⟩)) (Rf p (rAgain s)::R):=by
 refine Spec.intro Tryz.func16 rfl Tryz.ntmps16 rfl fun R K hK=>?_
 refine WP.opn (Rf_op (p:=p) (s:=s)) fun x=>?_
 obtain ⟨pb,lv⟩:=x
 dsimp only
 refine WP.seq<|WP.reg<|WL.e e_assign<|WL.next<|WP.seq<|WP.reg<|WL.e e_move<|WL.e e_nil<|WL.e (e_fa f99_0)<|WL.e (e_load a95)<|WL.e (e_build z99 p99 (.o (.tmp 6) rfl<|.z (.slice none 0 0)<|.n)) ?_
 refine WL.h (h_box fun b1=>?_)
 refine WL.e e_assign<|WL.next<|WP.ret<|PO.nils 102 1 ptC none ?_
 refine PO.conv (M:=Rts 106 110 127 []::_) (fun S h=>TxsU_nil h) ?_
 refine PO.cls (A:=Rf b1 (rAgain s)) (B:=[cl b1 99 [.pointer (some ⟨pb,0,none⟩),.slice none 0 0],Pas pb s.H,Sl 102 1 ptC (.slice none 0 0) [],Rts 106 110 127 []]) (fun S h=>⟨⟨pb,⟨none,0,0⟩⟩,h⟩) ?_
 exact PO.fin Tryz.results16 (rv_tmp rv_nil) (hK b1)
theorem rFindT_spec {g:World} {p:Nat} {s:RefV} (n:UInt32) (hn:s.txs.length≤1000):Spec Tryz.prog g 40 [.pointer (some ⟨p,0,none⟩),.int .u32 n.toNat] [Rf p s] fun K R=>K (.pointer ((findU s.txs n).map fun t=>⟨t.q,0,none⟩)) (Rf p s::R):=by
 refine Spec.intro Tryz.func40 rfl Tryz.ntmps40 rfl fun R K hK=>?_
 refine WP.seq<|WP.reg<|WL.e e_assign<|WL.next<|WP.seq<|WP.seq<|WP.reg<|WL.e e_assign<|WL.next<|WP.block<|WP.opn (Rf_op (p:=p) (s:=s)) fun x=>?_
 obtain ⟨pb,lv⟩:=x
 dsimp only
 refine WP.loopK (fun (i:Nat)=>[(5,.int .i64 i)]) (fun (i:Nat)=>cl p 99 [.pointer (some ⟨pb,0,none⟩),lv.v]::Pas pb s.H::Sl 102 1 ptC (lv.v) (s.txs)::Rts 106 110 127 s.txs::R) [(0,_),(1,_)] (fun (i:Nat)=>i≤s.txs.length∧∀ t ∈ s.txs.take i,t.id≠n) (fun (i:Nat)=>s.txs.length - i) 0 (⟨Nat.zero_le _,by simp⟩) ?_
 rintro i ⟨hi,hb⟩
 refine WP.seq<|WP.seq<|WP.reg<|WL.e e_move<|WL.e e_move<|WL.e e_nil<|WL.e (e_fa f99_1)<|WL.e (e_load a97)<|WL.e (el_len (xs:=s.txs) sl97 sl_rl)<|WL.e e_lss<|WL.next ?_
 refine WP.cond rfl (fun h1=>?_) (fun h1=>?_)
 ·have hlt:i < s.txs.length:=by simp at h1;omega
  obtain ⟨t,hx⟩:∃ x,s.txs[i]?=some x:=⟨_,List.getElem?_eq_getElem hlt⟩
  refine WP.skip<|PO.next<|WP.seq<|WP.block<|WP.seq<|WP.reg<|WL.e e_move<|WL.e e_nil<|WL.e (e_fa f99_1)<|WL.e (e_load a97)<|WL.e e_move<|WL.e (el_ia (j:=i) (xs:=s.txs) sl97 sl_rl hlt)<|WL.e (el_load0 (j:=i) (xs:=s.txs) (a:=t) a102 ptE sl_rl hx)<|WL.e e_nil<|WL.e (e_fa f106_0)<|WL.e (e_load_rd (k:=0) a48 rfl (rt_rd (List.mem_of_getElem? hx)) rfl)<|WL.e e_move<|WL.e (e_eql32)<|WL.next ?_
  refine WP.cond rfl (fun h3=>?_) (fun h3=>?_)
  ·replace h3:t.id=n:=by simpa using h3
   refine WP.seq<|WP.reg<|WL.e e_move<|WL.e e_nil<|WL.e (e_fa f99_1)<|WL.e (e_load a97)<|WL.e e_move<|WL.e (el_ia (j:=i) (xs:=s.txs) sl97 sl_rl hlt)<|WL.e (el_load0 (j:=i) (xs:=s.txs) (a:=t) a102 ptE sl_rl hx)<|WL.e e_assign<|WL.next<|WP.ret<|PO.blockR<|PO.past nofun<|PO.round nofun<|PO.blockR<|PO.past nofun<|PO.cls (A:=Rf p (s)) (B:=[cl p 99 [.pointer (some ⟨pb,0,none⟩),lv.v],Pas pb s.H,Sl 102 1 ptC (lv.v) (s.txs),Rts 106 110 127 s.txs]) (fun S h=>⟨⟨pb,lv⟩,h⟩) ?_
   exact PO.finE Tryz.results40 (rv_tmp rv_nil) (by rw [find_at hb hx h3];rfl) hK
  ·replace h3:t.id≠n:=by simpa using h3
   refine WP.skip<|PO.blockN<|PO.next<|WP.reg<|WL.e e_move<|WL.e (e_add (c:=((i+1:Nat):Int)) rfl rfl (by rw [w_i64 (by omega) (by omega)];omega))<|WL.e e_assign<|WL.nil ?_
   exact PO.againK (i+1) ⟨by omega,ne_step hb hx h3⟩ (by omega)
 ·rw [List.take_of_length_le (show s.txs.length≤i by simp at h1;omega)] at hb
  refine WP.exit<|PO.past nofun<|PO.round nofun<|PO.blockX<|PO.next<|WP.seq<|WP.reg<|WL.e e_assign<|WL.next<|WP.ret<|PO.cls (A:=Rf p (s)) (B:=[cl p 99 [.pointer (some ⟨pb,0,none⟩),lv.v],Pas pb s.H,Sl 102 1 ptC (lv.v) (s.txs),Rts 106 110 127 s.txs]) (fun S h=>⟨⟨pb,lv⟩,h⟩) ?_
  exact PO.finE Tryz.results40 (rv_tmp rv_nil) (by rw [findR_no hb];rfl) hK
theorem rEnds_spec {g:World} {p:Nat} {s:RefV} {t0:TxU UInt32 RtD} (n:UInt32) (hf:findU s.txs n=some t0) (hnd:(s.txs.map (·.id)).Nodup) (hn:s.txs.length≤1000):Spec Tryz.prog g 49 [.pointer (some ⟨p,0,none⟩),.int .u32 n.toNat] [Rf p s] fun K R=>K (.tuple #[]) (Rf p (rEnds s n)::cl t0.q 106 [.int .u32 t0.id.toNat,.int .u32 t0.x.at_.toNat,t0.x.kv.v,t0.x.sv.v]::Sl 110 2 SpanM.c t0.x.kv.v t0.x.looked::Sl 127 3 ChgM.c t0.x.sv.v t0.x.own::R):=by
 refine Spec.intro Tryz.func49 rfl Tryz.ntmps49 rfl fun R K hK=>?_
 refine WP.seq<|WP.reg<|WL.e e_assign<|WL.next<|WP.seq<|WP.seq<|WP.reg<|WL.e e_assign<|WL.next<|WP.block<|WP.opn (Rf_op (p:=p) (s:=s)) fun x=>?_
 obtain ⟨pb,lv⟩:=x
 dsimp only
 refine WP.nils 102 1 ptC none ?_
 rw [show ([]:List (TxU UInt32 RtD))=((s.txs.take 0).filter fun o=>!decide (o.id=n)) from rfl]
 refine WP.loopK (fun (x:Nat × Value)=>[(5,.int .i64 x.1),(4,x.2)]) (fun (x:Nat × Value)=>Sl 102 1 ptC (x.2) ((s.txs.take x.1).filter fun o=>!decide (o.id=n))::cl p 99 [.pointer (some ⟨pb,0,none⟩),lv.v]::Pas pb s.H::Sl 102 1 ptC (lv.v) (s.txs)::Rts 106 110 127 s.txs::R) [(0,_),(1,_)] (fun (x:Nat × Value)=>x.1≤s.txs.length) (fun (x:Nat × Value)=>s.txs.length - x.1) (0,.slice none 0 0) (Nat.zero_le _) ?_
 rintro ⟨i,v⟩ hi
 simp only at hi
 dsimp only
 have hfl:=List.length_filter_le (fun o:TxU UInt32 RtD=>!decide (o.id=n)) (s.txs.take i)
 rw [List.length_take] at hfl
 refine WP.seq<|WP.seq<|WP.reg<|WL.e e_move<|WL.e e_move<|WL.e e_nil<|WL.e (e_fa f99_1)<|WL.e (e_load a97)<|WL.e (el_len (xs:=s.txs) sl97 sl_rl)<|WL.e e_lss<|WL.next ?_
 refine WP.cond rfl (fun h1=>?_) (fun h1=>?_)
 ·have hlt:i < s.txs.length:=by simp at h1;omega
  obtain ⟨t,hx⟩:∃ x,s.txs[i]?=some x:=⟨_,List.getElem?_eq_getElem hlt⟩
  refine WP.skip<|PO.next<|WP.seq<|WP.block<|WP.seq<|WP.reg<|WL.e e_move<|WL.e e_nil<|WL.e (e_fa f99_1)<|WL.e (e_load a97)<|WL.e e_move<|WL.e (el_ia (j:=i) (xs:=s.txs) sl97 sl_rl hlt)<|WL.e (el_load0 (j:=i) (xs:=s.txs) (a:=t) a102 ptE sl_rl hx)<|WL.e e_nil<|WL.e (e_fa f106_0)<|WL.e (e_load_rd (k:=0) a48 rfl (rt_rd (List.mem_of_getElem? hx)) rfl)<|WL.e e_move<|WL.e (e_neq32)<|WL.next ?_
  refine WP.cond rfl (fun h3=>?_) (fun h3=>?_)
  ·replace h3:t.id≠n:=by simpa using h3
   refine WP.reg<|WL.e e_move<|WL.e e_move<|WL.e e_nil<|WL.e (e_fa f99_1)<|WL.e (e_load a97)<|WL.e e_move<|WL.e (el_ia (j:=i) (xs:=s.txs) sl97 sl_rl hlt)<|WL.e (el_load0 (j:=i) (xs:=s.txs) (a:=t) a102 ptE sl_rl hx) ?_
   refine WL.h (h_bs sl97 z102 (.o (.tmp 34) rfl<|.n) fun b1=>?_)
   refine WL.h (hl_append (xs:=(s.txs.take i).filter fun o=>!decide (o.id=n)) sl97 ptE z102 (lit_rl ptE [t] rfl) (by simp;omega) fun a9 m9 c9=>?_)
   refine WL.e e_assign<|WL.nil<|PO.blockN<|PO.next<|WP.reg<|WL.e e_move<|WL.e (e_add (c:=((i+1:Nat):Int)) rfl rfl (by rw [w_i64 (by omega) (by omega)];omega))<|WL.e e_assign<|WL.nil ?_
   rw [← filt_in hx h3]
   exact PO.againK (i+1,.slice a9 m9 c9) (by simp only;omega) (by simp only;omega)
  ·replace h3:t.id=n:=by simpa using h3
   refine WP.skip<|PO.blockN<|PO.next<|WP.reg<|WL.e e_move<|WL.e (e_add (c:=((i+1:Nat):Int)) rfl rfl (by rw [w_i64 (by omega) (by omega)];omega))<|WL.e e_assign<|WL.nil ?_
   rw [← filt_out hx h3]
   exact PO.againK (i+1,v) (by simp only;omega) (by simp only;omega)
 ·rw [List.take_of_length_le (show s.txs.length≤i by simp at h1;omega)]
  refine WP.sh (u:=v) ?_
  rintro a8 m8 c8 rfl
  refine WP.exit<|PO.past nofun<|PO.round nofun<|PO.blockX<|PO.next<|WP.reg<|WL.e e_move<|WL.e e_move<|WL.e e_nil<|WL.e (e_fa f99_1) ?_
  refine WL.h' (h_store s97 ?_)
  refine WL.nil ?_
  obtain ⟨hid,X,Y,e,_,_⟩:=findU_mid hf
  have hfil:s.txs.filter (fun o=>!decide (o.id=n))=X++Y:=by rw [e,← hid];exact filt_mid (e ▸ hnd)
  refine PO.opn (TxsU_out (TP:=RtP 106 110 127) e) fun _=>?_
  unfold rEnds at hK
  rw [hfil] at hK ⊢
  refine PO.cls (A:=Rf p ({ s with txs:=X++Y })) (B:=[cl p 99 [.pointer (some ⟨pb,0,none⟩),.slice a8 m8 c8],Pas pb s.H,Sl 102 1 ptC (.slice a8 m8 c8) (X++Y),Rts 106 110 127 (X++Y)]) (fun S h=>⟨⟨pb,⟨a8,m8,c8⟩⟩,h⟩) ?_
  exact PO.fin Tryz.results49 rv_nil hK
theorem rRows_spec {g:World} {p b:Nat} {s:RefV} (hs:RefOk s b) (hb1:b≤1000000):Spec Tryz.prog g 24 [.pointer (some ⟨p,0,none⟩)] [Rf p s] fun K R=>∀ a m c,K (.slice a m c) (Sl 142 2 RowM.c (.slice a m c) (rowsN s.H s.H.length)::Rf p s::R):=by
 have htl:=hs.tl
 have hrlb:=hs.rl
 have hhl:=hs.hl
 refine Spec.intro Tryz.func24 rfl Tryz.ntmps24 rfl fun R K hK=>?_
 refine WP.opn (Rf_op (p:=p) (s:=s)) fun x=>?_
 obtain ⟨pb,lv⟩:=x
 dsimp only
 refine WP.opn (Pas_op (pb:=pb) (H:=s.H)) fun x=>?_
 obtain ⟨A,rv,cv,rl,cl_,hrl,hr,hcl,hc⟩:=x
 dsimp only
 obtain ⟨v,hv⟩:∃ v,rl[s.H.length]?=some v:=⟨_,List.getElem?_eq_getElem (by omega)⟩
 have hrv:=hr s.H.length v hv
 have e32:(UInt32.ofNat s.H.length).toNat=s.H.length:=by rw [UInt32.toNat_ofNat'];omega
 refine WP.nils 142 2 RowM.c none ?_
 refine WP.seq<|WP.reg<|WL.e e_assign<|WL.next<|WP.seq<|WP.draws mixedOk 12<|RW.e 0 rfl e_move<|RW.e 1 rfl e_nil<|RW.e 2 rfl (e_fa f99_0)<|RW.e 3 rfl (e_load a95)<|RW.e 4 rfl e_move<|RW.e 5 rfl e_nil<|RW.e 6 rfl (e_fa f99_0)<|RW.e 7 rfl (e_load a95) ?_
 refine RW.any (is:=[8]) rfl ⟨?_,trivial⟩
 refine RWat.h rfl rfl rfl ?_
 refine (h_call (pNow_spec (cl_:=cl_)) k41 ?_)
 rw [hcl]
 refine ⟨⟨⟨_,rfl,.inl ⟨rfl,(e_load a95)⟩⟩,⟨_,rfl,.inl ⟨rfl,(e_fa f99_0)⟩⟩,⟨_,rfl,.inl ⟨rfl,e_nil⟩⟩,⟨_,rfl,.inl ⟨rfl,e_move⟩⟩,trivial⟩,?_⟩
 refine RW.any (is:=[9]) rfl ⟨?_,trivial⟩
 refine RWat.h rfl rfl rfl ?_
 refine (h_call (pAt_spec (rl:=rl) (cl_:=cl_) (v:=v) (UInt32.ofNat s.H.length) (by rw [e32];exact hv) (by omega) (by omega)) k62 ?_)
 refine ⟨trivial,?_⟩
 refine RW.any (is:=[10]) rfl ⟨?_,trivial⟩
 refine RWat.h rfl rfl rfl ?_
 refine (hl_append (xs:=([]:List RowM)) sl59 rowE z142 hrv (by have:=rowsN_len s.H s.H.length;simp;omega) fun a9 m9 c9=>?_)
 rw [List.nil_append]
 refine ⟨trivial,?_⟩
 refine RW.e 11 rfl e_assign<|RW.done<|PO.next<|WP.ret<|PO.cls (A:=Pas pb (s.H)) (B:=[cl pb 167 [rv.v,cv.v,.int .u32 0],A,Sl 59 1 hvC (rv.v) (rl),Sl 91 1 hvC (cv.v) (cl_)]) (fun S h=>⟨⟨A,rv,cv,rl,cl_,hrl,hr,hcl,hc⟩,h⟩) ?_
 refine PO.cls (A:=Rf p (s)) (B:=[cl p 99 [.pointer (some ⟨pb,0,none⟩),lv.v],Pas pb s.H,Sl 102 1 ptC (lv.v) (s.txs),Rts 106 110 127 s.txs]) (fun S h=>⟨⟨pb,lv⟩,h⟩) ?_
 exact PO.fin Tryz.results24 (rv_tmp rv_nil) (hK a9 m9 c9)
theorem rOpen_spec {g:World} {p b:Nat} {s:RefV} (hs:RefOk s b):Spec Tryz.prog g 26 [.pointer (some ⟨p,0,none⟩)] [Rf p s] fun K R=>∀ a m c,K (.slice a m c) (Sl 48 1 u32C (.slice a m c) ((s.txs).map (·.id))::Rf p s::R):=by
 have htl:=hs.tl
 have hrlb:=hs.rl
 have hhl:=hs.hl
 refine Spec.intro Tryz.func26 rfl Tryz.ntmps26 rfl fun R K hK=>?_
 refine WP.seq<|WP.reg<|WL.e e_assign<|WL.next<|WP.seq<|WP.reg<|WL.e e_assign<|WL.next<|WP.seq<|WP.seq<|WP.reg<|WL.e e_assign<|WL.next<|WP.block<|WP.opn (Rf_op (p:=p) (s:=s)) fun x=>?_
 obtain ⟨pb,lv⟩:=x
 dsimp only
 refine WP.nils 48 1 u32C none ?_
 rw [show ([]:List UInt32)=(s.txs.take 0).map (·.id) from rfl]
 refine WP.loopK (fun (x:Nat × Value)=>[(4,.int .i64 x.1),(3,x.2)]) (fun (x:Nat × Value)=>Sl 48 1 u32C (x.2) ((s.txs.take x.1).map (·.id))::cl p 99 [.pointer (some ⟨pb,0,none⟩),lv.v]::Pas pb s.H::Sl 102 1 ptC (lv.v) (s.txs)::Rts 106 110 127 s.txs::R) [(0,_),(2,_)] (fun (x:Nat × Value)=>x.1≤s.txs.length) (fun (x:Nat × Value)=>s.txs.length - x.1) (0,.slice none 0 0) (Nat.zero_le _) ?_
 rintro ⟨i,v⟩ hi
 simp only at hi
 dsimp only
 refine WP.seq<|WP.seq<|WP.reg<|WL.e e_move<|WL.e e_move<|WL.e e_nil<|WL.e (e_fa f99_1)<|WL.e (e_load a97)<|WL.e (el_len (xs:=s.txs) sl97 sl_rl)<|WL.e e_lss<|WL.next ?_
 refine WP.cond rfl (fun h1=>?_) (fun h1=>?_)
 ·have hlt:i < s.txs.length:=by simp at h1;omega
  obtain ⟨t,hx⟩:∃ x,s.txs[i]?=some x:=⟨_,List.getElem?_eq_getElem hlt⟩
  refine WP.skip<|PO.next<|WP.seq<|WP.block<|WP.reg<|WL.e e_move<|WL.e e_move<|WL.e e_nil<|WL.e (e_fa f99_1)<|WL.e (e_load a97)<|WL.e e_move<|WL.e (el_ia (j:=i) (xs:=s.txs) sl97 sl_rl hlt)<|WL.e (el_load0 (j:=i) (xs:=s.txs) (a:=t) a102 ptE sl_rl hx)<|WL.e e_nil<|WL.e (e_fa f106_0)<|WL.e (e_load_rd (k:=0) a48 rfl (rt_rd (List.mem_of_getElem? hx)) rfl) ?_
  refine WL.h (h_bs sl67 z48 (.o (.tmp 24) rfl<|.n) fun b1=>?_)
  refine WL.h (hl_append (xs:=(s.txs.take i).map (·.id)) sl67 u32E z48 (lit_rl u32E [t.id] rfl) (by simp;omega) fun a9 m9 c9=>?_)
  refine WL.e e_assign<|WL.nil<|PO.blockN<|PO.next<|WP.reg<|WL.e e_move<|WL.e (e_add (c:=((i+1:Nat):Int)) rfl rfl (by rw [w_i64 (by omega) (by omega)];omega))<|WL.e e_assign<|WL.nil ?_
  rw [show (s.txs.take i).map (·.id)++[t.id]=(s.txs.take (i+1)).map (·.id) by rw [take_snoc hx];simp]
  exact PO.againK (i+1,.slice a9 m9 c9) (by simp only;omega) (by simp only;omega)
 ·rw [List.take_of_length_le (show s.txs.length≤i by simp at h1;omega)]
  refine WP.sh (u:=v) ?_
  rintro a8 m8 c8 rfl
  refine WP.exit<|PO.past nofun<|PO.round nofun<|PO.blockX<|PO.next<|WP.seq<|WP.reg<|WL.e e_move<|WL.e e_assign<|WL.next<|WP.ret<|PO.cls (A:=Rf p (s)) (B:=[cl p 99 [.pointer (some ⟨pb,0,none⟩),lv.v],Pas pb s.H,Sl 102 1 ptC (lv.v) (s.txs),Rts 106 110 127 s.txs]) (fun S h=>⟨⟨pb,lv⟩,h⟩) ?_
  exact PO.fin Tryz.results26 (rv_tmp rv_nil) (hK a8 m8 c8)
set_option maxHeartbeats 4000000 in
theorem rBegin_spec {g:World} {p b:Nat} {s:RefV} (n:UInt32) (hs:RefOk s b) (hb1:b≤1000000):Spec Tryz.prog g 10 [.pointer (some ⟨p,0,none⟩),.int .u32 n.toNat] [Rf p s] fun K R=>∀ q,K (.int .i64 (rBegE s n)) (Rf p (rBeg s n q)::R):=by
 have htl:=hs.tl
 have hrlb:=hs.rl
 have hhl:=hs.hl
 refine Spec.intro Tryz.func10 rfl Tryz.ntmps10 rfl fun R K hK=>?_
 refine WP.seq<|WP.reg<|WL.e e_assign<|WL.next<|WP.seq<|WP.seq<|WP.reg<|WL.e e_move<|WL.e (e_eql32 (b:=0))<|WL.next ?_
 refine WP.cond rfl (fun c0=>?_) (fun c0=>?_)
 ·replace c0:n=0:=by simpa using c0
  have he:rBegE s n=1:=by rw [rBegE,if_pos c0]
  have hb:rBeg s n 0=s:=by rw [rBeg,he];rfl
  have hK:=hK 0
  rw [he,hb] at hK
  refine WP.seq<|WP.reg<|WL.e e_assign<|WL.next<|WP.ret<|PO.past nofun ?_
  exact PO.fin Tryz.results10 (rv_tmp rv_nil) hK
 ·replace c0:n≠0:=by simpa using c0
  refine WP.skip<|PO.next<|WP.seq<|WP.seq<|WP.reg<|WL.e e_move<|WL.e e_move ?_
  refine WL.h (h_call (rFindT_spec (s:=s) n (by omega)) k40 ?_)
  refine WL.e (e_pne pt102)<|WL.next ?_
  refine WP.cond rfl (fun c1=>?_) (fun c1=>?_)
  ·replace c1:(findU s.txs n).isSome=true:=by cases e:findU s.txs n with
    | none=>rw [e] at c1;cases c1
    | some t=>rfl
   have he:rBegE s n=7:=by rw [rBegE,if_neg c0,if_pos c1]
   have hb:rBeg s n 0=s:=by rw [rBeg,he];rfl
   have hK:=hK 0
   rw [he,hb] at hK
   refine WP.seq<|WP.reg<|WL.e e_assign<|WL.next<|WP.ret<|PO.past nofun ?_
   exact PO.fin Tryz.results10 (rv_tmp rv_nil) hK
  ·replace c1:¬ (findU s.txs n).isSome=true:=by cases e:findU s.txs n with
    | none=>simp
    | some t=>rw [e] at c1;cases c1
   refine WP.opn (Rf_op (p:=p) (s:=s)) fun x=>?_
   obtain ⟨pb,lv⟩:=x
   dsimp only
   refine WP.skip<|PO.next<|WP.seq<|WP.seq<|WP.reg<|WL.e e_move<|WL.e e_nil<|WL.e (e_fa f99_1)<|WL.e (e_load a97)<|WL.e (el_len (xs:=s.txs) sl97 sl_rl)<|WL.e e_geq<|WL.next ?_
   refine WP.cond rfl (fun c2=>?_) (fun c2=>?_)
   ·replace c2:32≤s.txs.length:=by simp at c2;omega
    have he:rBegE s n=5:=by rw [rBegE,if_neg c0,if_neg c1,if_pos c2]
    have hb:rBeg s n 0=s:=by rw [rBeg,he];rfl
    have hK:=hK 0
    rw [he,hb] at hK
    refine WP.seq<|WP.reg<|WL.e e_assign<|WL.next<|WP.ret<|PO.past nofun<|PO.cls (A:=Rf p (s)) (B:=[cl p 99 [.pointer (some ⟨pb,0,none⟩),lv.v],Pas pb s.H,Sl 102 1 ptC (lv.v) (s.txs),Rts 106 110 127 s.txs]) (fun S h=>⟨⟨pb,lv⟩,h⟩) ?_
    exact PO.fin Tryz.results10 (rv_tmp rv_nil) hK
   ·replace c2:¬ 32≤s.txs.length:=by simp at c2;omega
    have he:rBegE s n=0:=by rw [rBegE,if_neg c0,if_neg c1,if_neg c2]
    refine WP.skip<|PO.next<|WP.seq<|WP.reg<|WL.e e_assign<|WL.next<|WP.seq<|WP.block<|WP.loopK (fun (i:Nat)=>[(5,.int .i64 i)]) (fun (i:Nat)=>cl p 99 [.pointer (some ⟨pb,0,none⟩),lv.v]::Pas pb s.H::Sl 102 1 ptC (lv.v) (s.txs)::Rts 106 110 127 s.txs::R) [(0,_),(1,_),(4,_)] (fun (i:Nat)=>i≤s.txs.length∧∀ t ∈ s.txs.take i,t.id < n) (fun (i:Nat)=>s.txs.length - i) 0 (⟨Nat.zero_le _,by simp⟩) ?_
    rintro i ⟨hi,hb⟩
    refine WP.seq<|WP.seq<|WP.reg<|WL.e e_move<|WL.e e_move<|WL.e e_nil<|WL.e (e_fa f99_1)<|WL.e (e_load a97)<|WL.e (el_len (xs:=s.txs) sl97 sl_rl)<|WL.e e_lss<|WL.e e_move ?_
    refine WL.join 38 (.bool (ltAt s.txs i n)) (.c (.c (.c (.c (.c (.c (.c (.c (.c (.c (.c (.c (.c .n))))))))))))) ?_ ?_
    ·refine WL.bool 25 rfl (fun hg=>?_) (fun hg=>?_)
     ·skip
      refine WL.e e_move<|WL.e e_nil<|WL.e (e_fa f99_1)<|WL.e (e_load a97)<|WL.e e_move<|WL.e (el_ia (j:=i) (xs:=s.txs) sl97 sl_rl (by simpa using hg)) ?_
      refine WL.e (el_load0 (j:=i) (xs:=s.txs) (a:=s.txs[i]'(by simpa using hg)) a102 ptE sl_rl (List.getElem?_eq_getElem _))<|WL.e e_nil<|WL.e (e_fa f106_0)<|WL.e (e_load_rd (k:=0) a48 rfl (rt_rd (List.getElem_mem _)) rfl)<|WL.e e_move<|WL.e (e_lss32)<|WL.e e_pick_t ?_
      exact WL.nil (PO.joined rfl (by rw [ltAt_lt (by simpa using hg)]))
     ·skip
      refine WL.skip<|WL.skip<|WL.skip<|WL.skip<|WL.skip<|WL.skip<|WL.skip<|WL.skip<|WL.skip<|WL.skip<|WL.skip<|WL.skip<|WL.e e_pick_f ?_
      exact WL.nil (PO.joined rfl (by rw [ltAt_ge (by simpa using hg)]))
    refine WL.next ?_
    refine WP.cond rfl (fun h4=>?_) (fun h4=>?_)
    ·obtain ⟨t,hx,hlt⟩:=ltAt_some h4
     refine WP.skip<|PO.next<|WP.block<|WP.reg<|WL.e e_move<|WL.e (e_add (c:=((i+1:Nat):Int)) rfl rfl (by have:=idx_lt hx;rw [w_i64 (by omega) (by omega)];omega))<|WL.e e_assign<|WL.nil<|PO.blockN ?_
     exact PO.againK (i+1) ⟨by have:=idx_lt hx;omega,ne_step (p:=fun t=>t.id < n) hb hx hlt⟩ (by have:=idx_lt hx;omega)
    ·obtain ⟨ht1,ht2⟩:=tw_at hb h4
     refine WP.opn (Pas_op (pb:=pb) (H:=s.H)) fun x=>?_
     obtain ⟨A,rv,cv,rl,cl_,hrl,hr,hcl,hc⟩:=x
     dsimp only
     refine WP.nils 102 1 ptC none ?_
     refine WP.exit<|PO.past nofun<|PO.round nofun<|PO.blockX<|PO.next<|WP.seq<|WP.draws mixedOk 28<|RW.e 0 rfl e_move<|RW.e 1 rfl e_move<|RW.e 2 rfl e_nil<|RW.e 3 rfl (e_fa f99_1)<|RW.e 4 rfl (e_load a97)<|RW.e 5 rfl e_move<|RW.e 6 rfl (el_to (hi:=i) (xs:=s.txs) sl97 sl_rl hi)<|RW.e 8 rfl e_move<|RW.e 9 rfl e_move<|RW.e 10 rfl e_nil<|RW.e 11 rfl (e_fa f99_0)<|RW.e 12 rfl (e_load a95)<|RW.e 18 rfl e_move<|RW.e 19 rfl e_nil<|RW.e 20 rfl (e_fa f99_1)<|RW.e 21 rfl (e_load a97)<|RW.e 22 rfl e_move ?_
     refine RW.e 23 rfl (el_from (lo:=i) (xs:=s.txs) sl97 sl_rl hi) ?_
     refine RW.any (is:=[7]) rfl ⟨?_,trivial⟩
     refine RWat.h rfl rfl rfl ?_
     refine (hl_append (xs:=([]:List (TxU UInt32 RtD))) sl97 ptE z102 (RL.to_ (xs:=s.txs) (hi:=i) ptE (sl_rl (E:=102)) hi) (by simp;omega) fun a1 m1 c1=>?_)
     rw [List.nil_append]
     refine ⟨⟨⟨_,rfl,.inl ⟨rfl,(el_from (lo:=i) (xs:=s.txs) sl97 sl_rl hi)⟩⟩,⟨_,rfl,.inl ⟨rfl,e_move⟩⟩,⟨_,rfl,.inl ⟨rfl,(e_load a97)⟩⟩,⟨_,rfl,.inl ⟨rfl,(e_fa f99_1)⟩⟩,⟨_,rfl,.inl ⟨rfl,e_nil⟩⟩,⟨_,rfl,.inl ⟨rfl,e_move⟩⟩,⟨_,rfl,.inl ⟨rfl,(e_load a95)⟩⟩,⟨_,rfl,.inl ⟨rfl,(e_fa f99_0)⟩⟩,⟨_,rfl,.inl ⟨rfl,e_nil⟩⟩,⟨_,rfl,.inl ⟨rfl,e_move⟩⟩,⟨_,rfl,.inl ⟨rfl,e_move⟩⟩,⟨_,rfl,.inl ⟨rfl,e_move⟩⟩,trivial⟩,?_⟩
     refine RW.any (is:=[13]) rfl ⟨?_,trivial⟩
     refine RWat.h rfl rfl rfl ?_
     refine (h_call (pNow_spec (cl_:=cl_)) k41 ?_)
     rw [hcl]
     refine ⟨⟨⟨_,rfl,.inl ⟨rfl,(el_from (lo:=i) (xs:=s.txs) sl97 sl_rl hi)⟩⟩,⟨_,rfl,.inl ⟨rfl,e_move⟩⟩,⟨_,rfl,.inl ⟨rfl,(e_load a97)⟩⟩,⟨_,rfl,.inl ⟨rfl,(e_fa f99_1)⟩⟩,⟨_,rfl,.inl ⟨rfl,e_nil⟩⟩,⟨_,rfl,.inl ⟨rfl,e_move⟩⟩,⟨_,rfl,.inl ⟨rfl,e_move⟩⟩,⟨_,rfl,.inl ⟨rfl,e_move⟩⟩,trivial⟩,?_⟩
     refine RW.e 14 rfl (e_build z106 p106 (.o (.tmp 49) rfl<|.o (.tmp 54) rfl<|.z (.slice none 0 0)<|.z (.slice none 0 0)<|.n)) ?_
     refine RW.any (is:=[15]) rfl ⟨?_,trivial⟩
     refine RWat.h rfl rfl rfl ?_
     refine (h_box fun b1=>?_)
     refine ⟨⟨⟨_,rfl,.inl ⟨rfl,(el_from (lo:=i) (xs:=s.txs) sl97 sl_rl hi)⟩⟩,⟨_,rfl,.inl ⟨rfl,e_move⟩⟩,⟨_,rfl,.inl ⟨rfl,(e_load a97)⟩⟩,⟨_,rfl,.inl ⟨rfl,(e_fa f99_1)⟩⟩,⟨_,rfl,.inl ⟨rfl,e_nil⟩⟩,⟨_,rfl,.inl ⟨rfl,e_move⟩⟩,⟨_,rfl,.inl ⟨rfl,e_move⟩⟩,trivial⟩,?_⟩
     refine RW.any (is:=[16]) rfl ⟨?_,trivial⟩
     refine RWat.h rfl rfl rfl ?_
     refine (h_bs sl97 z102 (.o (.tmp 56) rfl<|.n) fun b2=>?_)
     refine ⟨⟨⟨_,rfl,.inl ⟨rfl,(el_from (lo:=i) (xs:=s.txs) sl97 sl_rl hi)⟩⟩,⟨_,rfl,.inl ⟨rfl,e_move⟩⟩,⟨_,rfl,.inl ⟨rfl,(e_load a97)⟩⟩,⟨_,rfl,.inl ⟨rfl,(e_fa f99_1)⟩⟩,⟨_,rfl,.inl ⟨rfl,e_nil⟩⟩,⟨_,rfl,.inl ⟨rfl,e_move⟩⟩,⟨_,rfl,.inl ⟨rfl,e_move⟩⟩,trivial⟩,?_⟩
     refine RW.any (is:=[17]) rfl ⟨?_,trivial⟩
     refine RWat.h rfl rfl rfl ?_
     refine (hl_append (xs:=s.txs.take i) sl97 ptE z102 (lit_rl ptE [(⟨n,b1,⟨UInt32.ofNat s.H.length,[],[],⟨none,0,0⟩,⟨none,0,0⟩⟩⟩:TxU UInt32 RtD)] rfl) (by simp;omega) fun a2 m2 c2=>?_)
     refine ⟨⟨⟨_,rfl,.inl ⟨rfl,(el_from (lo:=i) (xs:=s.txs) sl97 sl_rl hi)⟩⟩,⟨_,rfl,.inl ⟨rfl,e_move⟩⟩,⟨_,rfl,.inl ⟨rfl,(e_load a97)⟩⟩,⟨_,rfl,.inl ⟨rfl,(e_fa f99_1)⟩⟩,⟨_,rfl,.inl ⟨rfl,e_nil⟩⟩,⟨_,rfl,.inl ⟨rfl,e_move⟩⟩,⟨_,rfl,.inl ⟨rfl,e_move⟩⟩,trivial⟩,?_⟩
     refine RW.any (is:=[24]) rfl ⟨?_,trivial⟩
     refine RWat.h rfl rfl rfl ?_
     refine (hl_append (xs:=s.txs.take i++[(⟨n,b1,⟨UInt32.ofNat s.H.length,[],[],⟨none,0,0⟩,⟨none,0,0⟩⟩⟩:TxU UInt32 RtD)]) sl97 ptE z102 (RL.from_ (xs:=s.txs) (lo:=i) ptE (sl_rl (E:=102)) hi) (by simp;omega) fun a3 m3 c3=>?_)
     refine ⟨⟨⟨_,rfl,.inl ⟨rfl,e_move⟩⟩,trivial⟩,?_⟩
     refine RW.e 25 rfl e_nil<|RW.e 26 rfl (e_fa f99_1) ?_
     refine RW.any (is:=[27]) rfl ⟨?_,trivial⟩
     refine RWat.h' rfl rfl rfl ?_
     refine (h_store s97 ?_)
     refine ⟨trivial,?_⟩
     refine RW.done<|PO.next<|WP.seq<|WP.reg<|WL.e e_assign<|WL.next<|WP.ret ?_
     have hbeg:rBeg s n b1={ s with txs:=s.txs.take i++[(⟨n,b1,⟨UInt32.ofNat s.H.length,[],[],⟨none,0,0⟩,⟨none,0,0⟩⟩⟩:TxU UInt32 RtD)]++s.txs.drop i }:=by rw [rBeg,if_pos he];simp only [rIns,ht1,ht2]
     have hK:=hK b1
     rw [he,hbeg] at hK
     refine PO.nils 110 2 SpanM.c none ?_
     refine PO.nils 127 3 ChgM.c none ?_
     refine PO.cls (A:=Rts 106 110 127 (s.txs.take i++[(⟨n,b1,⟨UInt32.ofNat s.H.length,[],[],⟨none,0,0⟩,⟨none,0,0⟩⟩⟩:TxU UInt32 RtD)]++s.txs.drop i)) (B:=[cl b1 106 [.int .u32 n.toNat,.int .u32 (UInt32.ofNat s.H.length).toNat,.slice none 0 0,.slice none 0 0],Sl 110 2 SpanM.c (.slice none 0 0) [],Sl 127 3 ChgM.c (.slice none 0 0) [],Rts 106 110 127 s.txs]) (fun S h=>Rts_add (t:=(⟨n,b1,⟨UInt32.ofNat s.H.length,[],[],⟨none,0,0⟩,⟨none,0,0⟩⟩⟩:TxU UInt32 RtD)) S (by rw [List.take_append_drop];exact h)) ?_
     refine PO.cls (A:=Pas pb (s.H)) (B:=[cl pb 167 [rv.v,cv.v,.int .u32 0],A,Sl 59 1 hvC (rv.v) (rl),Sl 91 1 hvC (cv.v) (cl_)]) (fun S h=>⟨⟨A,rv,cv,rl,cl_,hrl,hr,hcl,hc⟩,h⟩) ?_
     refine PO.cls (A:=Rf p ({ s with txs:=s.txs.take i++[(⟨n,b1,⟨UInt32.ofNat s.H.length,[],[],⟨none,0,0⟩,⟨none,0,0⟩⟩⟩:TxU UInt32 RtD)]++s.txs.drop i })) (B:=[cl p 99 [.pointer (some ⟨pb,0,none⟩),.slice a3 m3 c3],Pas pb s.H,Sl 102 1 ptC (.slice a3 m3 c3) (s.txs.take i++[(⟨n,b1,⟨UInt32.ofNat s.H.length,[],[],⟨none,0,0⟩,⟨none,0,0⟩⟩⟩:TxU UInt32 RtD)]++s.txs.drop i),Rts 106 110 127 (s.txs.take i++[(⟨n,b1,⟨UInt32.ofNat s.H.length,[],[],⟨none,0,0⟩,⟨none,0,0⟩⟩⟩:TxU UInt32 RtD)]++s.txs.drop i)]) (fun S h=>⟨⟨pb,⟨a3,m3,c3⟩⟩,h⟩) ?_
     exact PO.fin Tryz.results10 (rv_tmp rv_nil) hK
theorem rAbort_spec {g:World} {p b:Nat} {s:RefV} (n:UInt32) (hs:RefOk s b):Spec Tryz.prog g 14 [.pointer (some ⟨p,0,none⟩),.int .u32 n.toNat] [Rf p s] fun K R=>K (.int .i64 (if (findU s.txs n).isSome then 0 else 6)) (Rf p (rAbo s n)::R):=by
 have htl:=hs.tl
 have hrlb:=hs.rl
 have hhl:=hs.hl
 refine Spec.intro Tryz.func14 rfl Tryz.ntmps14 rfl fun R K hK=>?_
 refine WP.seq<|WP.reg<|WL.e e_assign<|WL.next<|WP.seq<|WP.seq<|WP.reg<|WL.e e_move<|WL.e e_move ?_
 refine WL.h (h_call (rFindT_spec (s:=s) n (by omega)) k40 ?_)
 refine WL.e (e_peq pt102)<|WL.next ?_
 refine WP.cond rfl (fun h2=>?_) (fun h2=>?_)
 ·have hf:findU s.txs n=none:=by cases e:findU s.txs n with
   | none=>rfl
   | some t=>rw [e] at h2;cases h2
  rw [rAbo,hf] at hK
  refine WP.seq<|WP.reg<|WL.e e_assign<|WL.next<|WP.ret<|PO.past nofun ?_
  exact PO.fin Tryz.results14 (rv_tmp rv_nil) hK
 ·obtain ⟨t,hf⟩:∃ t,findU s.txs n=some t:=by cases e:findU s.txs n with
   | none=>rw [e] at h2;cases h2
   | some t=>exact ⟨t,rfl⟩
  rw [hf,Option.map_some]
  have ht:=findU_mem hf
  have hol:=hs.ol t ht
  have hlk:=hs.lk t ht
  rw [rAbo,hf] at hK
  refine WP.skip<|PO.next<|WP.seq<|WP.reg<|WL.e e_move<|WL.e e_move ?_
  refine WL.h (h_call (rEnds_spec (s:=s) n hf hs.ids.nodup (by omega)) k49 ?_)
  refine WL.next<|WP.seq<|WP.reg<|WL.e e_assign<|WL.next<|WP.ret ?_
  exact PO.fin Tryz.results14 (rv_tmp rv_nil) hK
set_option maxHeartbeats 2000000 in
theorem rCommit_spec {g:World} {p b:Nat} {s:RefV} (n:UInt32) (hs:RefOk s b) (hb1:b≤1000000):Spec Tryz.prog g 12 [.pointer (some ⟨p,0,none⟩),.int .u32 n.toNat] [Rf p s] fun K R=>K (.tuple #[.int .u32 (rComN s n).toNat,.int .i64 (rComE s n)]) (Rf p (rCom s n)::R):=by
 have htl:=hs.tl
 have hrlb:=hs.rl
 have hhl:=hs.hl
 refine Spec.intro Tryz.func12 rfl Tryz.ntmps12 rfl fun R K hK=>?_
 refine WP.seq<|WP.reg<|WL.e e_assign<|WL.e e_assign<|WL.next<|WP.seq<|WP.reg<|WL.e e_move<|WL.e e_move ?_
 refine WL.h (h_call (rFindT_spec (s:=s) n (by omega)) k40 ?_)
 refine WL.e e_assign<|WL.next<|WP.seq<|WP.seq<|WP.reg<|WL.e e_move<|WL.e (e_peq pt102)<|WL.next ?_
 refine WP.cond rfl (fun h2=>?_) (fun h2=>?_)
 ·have hf:findU s.txs n=none:=by cases e:findU s.txs n with
   | none=>rfl
   | some t=>rw [e] at h2;cases h2
  have he:rComE s n=6:=by simp [rComE,hf]
  have hn:rComN s n=0:=by rw [rComN,he];rfl
  rw [he,hn,show rCom s n=s by simp [rCom,hf]] at hK
  refine WP.seq<|WP.reg<|WL.e e_assign<|WL.e e_assign<|WL.next<|WP.ret<|PO.past nofun ?_
  exact PO.fin Tryz.results12 (rv_tmp (rv_tmp rv_nil)) hK
 ·obtain ⟨t,hf⟩:∃ t,findU s.txs n=some t:=by cases e:findU s.txs n with
   | none=>rw [e] at h2;cases h2
   | some t=>exact ⟨t,rfl⟩
  rw [hf,Option.map_some]
  have ht:=findU_mem hf
  have hol:=hs.ol t ht
  have hlk:=hs.lk t ht
  refine WP.skip<|PO.next<|WP.seq<|WP.reg<|WL.e e_move<|WL.e e_move ?_
  refine WL.h (h_call (rEnds_spec (s:=s) n hf hs.ids.nodup (by omega)) k49 ?_)
  refine WL.next<|WP.seq<|WP.seq<|WP.reg<|WL.e e_assign<|WL.next<|WP.block<|WP.opn (Rf_op (p:=p) (s:=rEnds s n)) fun x=>?_
  obtain ⟨pb,lv⟩:=x
  dsimp only
  refine WP.loopK (fun (i:Nat)=>[(7,.int .i64 i)]) (fun (i:Nat)=>cl p 99 [.pointer (some ⟨pb,0,none⟩),lv.v]::Pas pb s.H::Sl 102 1 ptC (lv.v) ((rEnds s n).txs)::Rts 106 110 127 (rEnds s n).txs::cl t.q 106 [.int .u32 t.id.toNat,.int .u32 t.x.at_.toNat,t.x.kv.v,t.x.sv.v]::Sl 110 2 SpanM.c t.x.kv.v t.x.looked::Sl 127 3 ChgM.c t.x.sv.v t.x.own::R) [(0,_),(6,_)] (fun (i:Nat)=>i≤t.x.looked.length∧(t.x.looked.take i).any (fun p=>sinceH s.H t.x.at_.toNat p)=false) (fun (i:Nat)=>t.x.looked.length - i) 0 (⟨Nat.zero_le _,rfl⟩) ?_
  rintro i ⟨hi,hb⟩
  refine WP.seq<|WP.seq<|WP.reg<|WL.e e_move<|WL.e e_move<|WL.e e_nil<|WL.e (e_fa f106_2)<|WL.e (e_load a104)<|WL.e (el_len (xs:=t.x.looked) sl104 sl_rl)<|WL.e e_lss<|WL.next ?_
  refine WP.cond rfl (fun h1=>?_) (fun h1=>?_)
  ·have hlt:i < t.x.looked.length:=by simp at h1;omega
   obtain ⟨y,hx⟩:∃ x,t.x.looked[i]?=some x:=⟨_,List.getElem?_eq_getElem hlt⟩
   have hky:=hs.kl t ht y (List.mem_of_getElem? hx)
   refine WP.skip<|PO.next<|WP.seq<|WP.block<|WP.seq<|WP.draws mixedOk 16<|RW.e 0 rfl e_move<|RW.e 1 rfl e_nil<|RW.e 2 rfl (e_fa f99_0)<|RW.e 3 rfl (e_load a95)<|RW.e 4 rfl e_move<|RW.e 5 rfl e_nil<|RW.e 6 rfl (e_fa f106_1)<|RW.e 7 rfl (e_load a48)<|RW.e 8 rfl e_move<|RW.e 9 rfl e_nil<|RW.e 10 rfl (e_fa f106_2)<|RW.e 11 rfl (e_load a104)<|RW.e 12 rfl e_move<|RW.e 13 rfl (el_ia (j:=i) (xs:=t.x.looked) sl104 sl_rl hlt)<|RW.e 14 rfl (el_loadN (j:=i) (xs:=t.x.looked) (a:=y) a110 spanE sl_rl hx) ?_
   refine RW.any (is:=[15]) rfl ⟨?_,trivial⟩
   refine RWat.h rfl rfl rfl ?_
   refine (h_call (pSince_spec (H:=s.H) t.x.at_ y (hs.ats t ht) (by omega) (by omega) hs.kh hky) k50 ?_)
   refine ⟨trivial,?_⟩
   refine RW.done<|PO.next ?_
   refine WP.cond rfl (fun h3=>?_) (fun h3=>?_)
   ·have hbad:rBad s t=true:=List.any_eq_true.2 ⟨y,List.mem_of_getElem? hx,h3⟩
    have he:rComE s n=9:=by simp [rComE,hf,hbad]
    have hn:rComN s n=0:=by rw [rComN,he];rfl
    rw [he,hn,show rCom s n=rEnds s n by simp [rCom,hf,hbad]] at hK
    refine WP.seq<|WP.reg<|WL.e e_assign<|WL.e e_assign<|WL.next<|WP.ret<|PO.blockR<|PO.past nofun<|PO.round nofun<|PO.blockR<|PO.past nofun<|PO.cls (A:=Rf p (rEnds s n)) (B:=[cl p 99 [.pointer (some ⟨pb,0,none⟩),lv.v],Pas pb (s.H),Sl 102 1 ptC (lv.v) ((rEnds s n).txs),Rts 106 110 127 (rEnds s n).txs]) (fun S h=>⟨⟨pb,lv⟩,h⟩) ?_
    exact PO.fin Tryz.results12 (rv_tmp (rv_tmp rv_nil)) hK
   ·skip
    refine WP.skip<|PO.blockN<|PO.next<|WP.reg<|WL.e e_move<|WL.e (e_add (c:=((i+1:Nat):Int)) rfl rfl (by rw [w_i64 (by omega) (by omega)];omega))<|WL.e e_assign<|WL.nil ?_
    exact PO.againK (i+1) ⟨by omega,rBad_snoc hx hb h3⟩ (by omega)
  ·rw [List.take_of_length_le (show t.x.looked.length≤i by simp at h1;omega)] at hb
   have hbad:rBad s t=false:=hb
   have he:rComE s n=0:=by simp [rComE,hf,hbad]
   have hn:rComN s n=UInt32.ofNat (s.H.length+1):=by rw [rComN,he];rfl
   rw [he,hn,show rCom s n={ rEnds s n with H:=s.H++[t.x.own] } by simp [rCom,hf,hbad]] at hK
   refine WP.exit<|PO.past nofun<|PO.round nofun<|PO.blockX<|PO.next<|WP.seq<|WP.draws mixedOk 13<|RW.e 0 rfl e_move<|RW.e 1 rfl e_nil<|RW.e 2 rfl (e_fa f99_0)<|RW.e 3 rfl (e_load a95)<|RW.e 4 rfl e_move<|RW.e 5 rfl e_nil<|RW.e 6 rfl (e_fa f106_3)<|RW.e 7 rfl (e_load a91) ?_
   refine RW.any (is:=[8]) rfl ⟨?_,trivial⟩
   refine RWat.h rfl rfl rfl ?_
   refine (h_call (pCommit_spec (H:=s.H) (y:=t.x.sv.v) (sl_rl (E:=127) (xs:=t.x.own)) (hs.ko t ht) (by omega) (by omega) (by omega)) k51 ?_)
   refine ⟨trivial,?_⟩
   refine RW.e 9 rfl e_extract<|RW.e 10 rfl e_extract<|RW.e 11 rfl e_assign<|RW.e 12 rfl e_assign<|RW.done<|PO.next<|WP.ret<|PO.cls (A:=Rf p ({ rEnds s n with H:=s.H++[t.x.own] })) (B:=[cl p 99 [.pointer (some ⟨pb,0,none⟩),lv.v],Pas pb (s.H++[t.x.own]),Sl 102 1 ptC (lv.v) ((rEnds s n).txs),Rts 106 110 127 (rEnds s n).txs]) (fun S h=>⟨⟨pb,lv⟩,h⟩) ?_
   exact PO.fin Tryz.results12 (rv_tmp (rv_tmp rv_nil)) hK
def rRes (l:List RowM) (x:OpM):List RowM:=if x.kind=1 then scanR l (one x.key) 1 else if x.kind=4 then scanR l (spanOf x) 256 else []
def rChs (x:OpM):List ChgM:=if writes x then [chgOf x] else []
theorem rDoes_spec {g:World} {A:HP} {u:Value} {l:List RowM} (x:OpM) (hA:RL A 2 RowM.c u l) (hn:l.length≤2000000000) (hk:kSz l) (hx:opOk x=true):Spec Tryz.prog g 60 [u,x.v] [A] fun K R=>∀ a m c a2 m2 c2,(writes x=true→a=none∧m=0∧c=0)→K (.tuple #[.agg #[.slice a m c],.slice a2 m2 c2]) (Sl 142 2 RowM.c (.slice a m c) (rRes l x)::Sl 127 3 ChgM.c (.slice a2 m2 c2) (rChs x)::A::R):=by
 refine Spec.intro Tryz.func60 rfl Tryz.ntmps60 rfl fun R K hK=>?_
 refine WP.seq<|WP.reg ?_
 refine WL.h (h_box fun b1=>?_)
 refine WL.h (h_alloc z61 fun b2=>?_)
 refine WL.e e_assign<|WL.next<|WP.seq<|WP.seq<|WP.reg<|WL.e (e_fa f51_0)<|WL.e (e_load a49)<|WL.next<|WP.block<|WP.seq<|WP.reg<|WL.e (e_eql8 (b:=1))<|WL.e e_assign<|WL.next ?_
 refine WP.cond rfl (fun h1=>?_) (fun h1=>?_)
 ·replace h1:x.kind=1:=by simpa using h1
  have e1:rRes l x=scanR l (one x.key) 1:=by rw [rRes,if_pos h1]
  have e2:rChs x=[]:=by rw [rChs,if_neg (by simp [writes,h1])]
  rw [e1,e2] at hK
  refine WP.seq<|WP.reg<|WL.e e_move<|WL.e (e_fa f51_1)<|WL.e (e_load a9)<|WL.e (e_fa f51_1)<|WL.e (e_load a9)<|WL.e (e_build z110 p110 (.o (.tmp 12) rfl<|.o (.tmp 14) rfl<|.n)) ?_
  refine WL.h (h_call (rScan_spec (one x.key) 1 hA (by omega) hk (opOk_sz hx).1) k141 ?_)
  intro a9 m9 c9
  refine WL.e (e_build z61 p61 (.o (.tmp 16) rfl<|.n)) ?_
  refine WL.h' (h_store s61 ?_)
  refine WL.e e_assign<|WL.next<|WP.ret<|PO.blockR<|PO.past nofun<|PO.nils 127 3 ChgM.c none ?_
  exact PO.fin Tryz.results60 (rv_cellN a61 (rv_tmp rv_nil)) (hK a9 m9 c9 none 0 0 (fun h=>absurd h (by simp [writes,h1])))
 ·replace h1:x.kind≠1:=by simpa using h1
  refine WP.seq<|WP.reg<|WL.e (e_eql8 (b:=4))<|WL.e e_assign<|WL.next ?_
  refine WP.cond rfl (fun h4=>?_) (fun h4=>?_)
  ·replace h4:x.kind=4:=by simpa using h4
   have hsp:spanOf x=⟨x.key,x.to⟩:=by simp [spanOf,h4]
   have hsz:=opOk_sz hx
   rw [hsp] at hsz
   have e1:rRes l x=scanR l ⟨x.key,x.to⟩ 256:=by rw [rRes,if_neg h1,if_pos h4,hsp]
   have e2:rChs x=[]:=by rw [rChs,if_neg (by simp [writes,h4])]
   rw [e1,e2] at hK
   refine WP.seq<|WP.reg<|WL.e e_move<|WL.e (e_fa f51_1)<|WL.e (e_load a9)<|WL.e (e_fa f51_2)<|WL.e (e_load a9)<|WL.e (e_build z110 p110 (.o (.tmp 22) rfl<|.o (.tmp 24) rfl<|.n)) ?_
   refine WL.h (h_call (rScan_spec ⟨x.key,x.to⟩ 256 hA (by omega) hk hsz.2) k141 ?_)
   intro a9 m9 c9
   refine WL.e (e_build z61 p61 (.o (.tmp 26) rfl<|.n)) ?_
   refine WL.h' (h_store s61 ?_)
   refine WL.e e_assign<|WL.next<|WP.ret<|PO.blockR<|PO.past nofun<|PO.nils 127 3 ChgM.c none ?_
   exact PO.fin Tryz.results60 (rv_cellN a61 (rv_tmp rv_nil)) (hK a9 m9 c9 none 0 0 (fun h=>absurd h (by simp [writes,h4])))
  ·replace h4:x.kind≠4:=by simpa using h4
   have e1:rRes l x=[]:=by rw [rRes,if_neg h1,if_neg h4]
   rw [e1] at hK
   refine WP.seq<|WP.reg<|WL.e (e_eql8 (b:=2))<|WL.e e_assign<|WL.next ?_
   refine WP.cond rfl (fun h2=>?_) (fun h2=>?_)
   ·replace h2:x.kind=2:=by simpa using h2
    have e2:rChs x=[⟨x.key,x.val,false⟩]:=by rw [rChs,if_pos (by simp [writes,h2]),chgOf,if_pos h2]
    rw [e2] at hK
    refine WP.seq<|WP.draws mixedOk 9<|RW.e 0 rfl (e_build z61 p61 (.z (.slice none 0 0)<|.n))<|RW.e 1 rfl (e_fa f51_1)<|RW.e 2 rfl (e_load a9)<|RW.e 3 rfl (e_fa f51_3)<|RW.e 4 rfl (e_load a48)<|RW.e 5 rfl (e_build z127 p127 (.o (.tmp 32) rfl<|.o (.tmp 34) rfl<|.z (.bool false)<|.n)) ?_
    refine RW.any (is:=[6,7]) rfl ⟨?_,?_,trivial⟩
    ·skip
     refine RWat.h rfl rfl rfl ?_
     refine (h_bs sl91 z127 (.a3 (.tmp 35) rfl<|.n) fun b3=>?_)
     refine ⟨⟨⟨_,rfl,.inl ⟨rfl,(e_build z61 p61 (.z (.slice none 0 0)<|.n))⟩⟩,trivial⟩,?_⟩
     refine RW.any (is:=[7]) rfl ⟨?_,trivial⟩
     refine RWat.h' rfl rfl rfl ?_
     refine (h_store s61 ?_)
     refine ⟨trivial,?_⟩
     refine RW.e 8 rfl e_assign<|RW.done<|PO.next<|WP.ret<|PO.blockR<|PO.past nofun<|PO.nils 142 2 RowM.c none ?_
     refine PO.cls (A:=Sl 127 3 ChgM.c (.slice (some ⟨b3,0,none⟩) 1 1) ([(⟨x.key,x.val,false⟩:ChgM)])) (B:=[cl b3 127 (ChgM.c ((⟨x.key,x.val,false⟩:ChgM)))]) (fun S ⟨S1,_,_,l1,_,h,_⟩=>own_up (lit_own chgE [(⟨x.key,x.val,false⟩:ChgM)] rfl rfl (by simp) S1 h) l1) ?_
     exact PO.fin Tryz.results60 (rv_cellN a61 (rv_tmp rv_nil)) (hK none 0 0 _ 1 1 (fun _=>⟨rfl,rfl,rfl⟩))
    ·skip
     refine RWat.h' rfl rfl rfl ?_
     refine (h_store s61 ?_)
     refine ⟨⟨⟨_,rfl,.inl ⟨rfl,(e_build z127 p127 (.o (.tmp 32) rfl<|.o (.tmp 34) rfl<|.z (.bool false)<|.n))⟩⟩,⟨_,rfl,.inl ⟨rfl,(e_load a48)⟩⟩,⟨_,rfl,.inl ⟨rfl,(e_fa f51_3)⟩⟩,⟨_,rfl,.inl ⟨rfl,(e_load a9)⟩⟩,⟨_,rfl,.inl ⟨rfl,(e_fa f51_1)⟩⟩,trivial⟩,?_⟩
     refine RW.any (is:=[6]) rfl ⟨?_,trivial⟩
     refine RWat.h rfl rfl rfl ?_
     refine (h_bs sl91 z127 (.a3 (.tmp 35) rfl<|.n) fun b4=>?_)
     refine ⟨trivial,?_⟩
     refine RW.e 8 rfl e_assign<|RW.done<|PO.next<|WP.ret<|PO.blockR<|PO.past nofun<|PO.nils 142 2 RowM.c none ?_
     refine PO.cls (A:=Sl 127 3 ChgM.c (.slice (some ⟨b4,0,none⟩) 1 1) ([(⟨x.key,x.val,false⟩:ChgM)])) (B:=[cl b4 127 (ChgM.c ((⟨x.key,x.val,false⟩:ChgM)))]) (fun S ⟨S1,_,_,l1,_,h,_⟩=>own_up (lit_own chgE [(⟨x.key,x.val,false⟩:ChgM)] rfl rfl (by simp) S1 h) l1) ?_
     exact PO.fin Tryz.results60 (rv_cellN a61 (rv_tmp rv_nil)) (hK none 0 0 _ 1 1 (fun _=>⟨rfl,rfl,rfl⟩))
   ·replace h2:x.kind≠2:=by simpa using h2
    have h3:x.kind=3:=by
     have:=opOk_none (x:=x) h1 h2
     by_cases h3:x.kind=3
     ·exact h3
     ·rw [this h3 h4] at hx;cases hx
    have e2:rChs x=[⟨x.key,0,true⟩]:=by rw [rChs,if_pos (by simp [writes,h3]),chgOf,if_neg h2]
    rw [e2] at hK
    refine WP.skip<|PO.blockN<|PO.next<|WP.seq<|WP.draws mixedOk 7<|RW.e 0 rfl (e_build z61 p61 (.z (.slice none 0 0)<|.n))<|RW.e 1 rfl (e_fa f51_1)<|RW.e 2 rfl (e_load a9)<|RW.e 3 rfl (e_build z127 p127 (.o (.tmp 39) rfl<|.z (.int .u32 0)<|.o (.const (.bool true)) rfl<|.n)) ?_
    refine RW.any (is:=[4,5]) rfl ⟨?_,?_,trivial⟩
    ·skip
     refine RWat.h rfl rfl rfl ?_
     refine (h_bs sl91 z127 (.a3 (.tmp 40) rfl<|.n) fun b5=>?_)
     refine ⟨⟨⟨_,rfl,.inl ⟨rfl,(e_build z61 p61 (.z (.slice none 0 0)<|.n))⟩⟩,trivial⟩,?_⟩
     refine RW.any (is:=[5]) rfl ⟨?_,trivial⟩
     refine RWat.h' rfl rfl rfl ?_
     refine (h_store s61 ?_)
     refine ⟨trivial,?_⟩
     refine RW.e 6 rfl e_assign<|RW.done<|PO.next<|WP.ret<|PO.nils 142 2 RowM.c none ?_
     refine PO.cls (A:=Sl 127 3 ChgM.c (.slice (some ⟨b5,0,none⟩) 1 1) ([(⟨x.key,0,true⟩:ChgM)])) (B:=[cl b5 127 (ChgM.c ((⟨x.key,0,true⟩:ChgM)))]) (fun S ⟨S1,_,_,l1,_,h,_⟩=>own_up (lit_own chgE [(⟨x.key,0,true⟩:ChgM)] rfl rfl (by simp) S1 h) l1) ?_
     exact PO.fin Tryz.results60 (rv_cellN a61 (rv_tmp rv_nil)) (hK none 0 0 _ 1 1 (fun _=>⟨rfl,rfl,rfl⟩))
    ·skip
     refine RWat.h' rfl rfl rfl ?_
     refine (h_store s61 ?_)
     refine ⟨⟨⟨_,rfl,.inl ⟨rfl,(e_build z127 p127 (.o (.tmp 39) rfl<|.z (.int .u32 0)<|.o (.const (.bool true)) rfl<|.n))⟩⟩,⟨_,rfl,.inl ⟨rfl,(e_load a9)⟩⟩,⟨_,rfl,.inl ⟨rfl,(e_fa f51_1)⟩⟩,trivial⟩,?_⟩
     refine RW.any (is:=[4]) rfl ⟨?_,trivial⟩
     refine RWat.h rfl rfl rfl ?_
     refine (h_bs sl91 z127 (.a3 (.tmp 40) rfl<|.n) fun b6=>?_)
     refine ⟨trivial,?_⟩
     refine RW.e 6 rfl e_assign<|RW.done<|PO.next<|WP.ret<|PO.nils 142 2 RowM.c none ?_
     refine PO.cls (A:=Sl 127 3 ChgM.c (.slice (some ⟨b6,0,none⟩) 1 1) ([(⟨x.key,0,true⟩:ChgM)])) (B:=[cl b6 127 (ChgM.c ((⟨x.key,0,true⟩:ChgM)))]) (fun S ⟨S1,_,_,l1,_,h,_⟩=>own_up (lit_own chgE [(⟨x.key,0,true⟩:ChgM)] rfl rfl (by simp) S1 h) l1) ?_
     exact PO.fin Tryz.results60 (rv_cellN a61 (rv_tmp rv_nil)) (hK none 0 0 _ 1 1 (fun _=>⟨rfl,rfl,rfl⟩))
theorem rRes_w {l:List RowM} {x:OpM} (h:writes x=true):rRes l x=[]:=by
 have h2:x.kind=2∨x.kind=3:=by simpa [writes] using h
 unfold rRes
 rcases h2 with h2 | h2 <;> simp [h2]
theorem rRes_r {l:List RowM} {x:OpM} (hl:Rising l) (hx:opOk x=true) (h:writes x=false):rRes l x=scanR l (spanOf x) 256:=by
 have h2:x.kind≠2∧x.kind≠3:=by simpa [writes] using h
 unfold rRes
 by_cases h1:x.kind=1
 ·rw [if_pos h1,← scan_one hl,show spanOf x=one x.key by simp [spanOf,one,h1]]
 ·by_cases h4:x.kind=4
  ·rw [if_neg h1,if_pos h4]
  ·rw [opOk_none h1 h2.1 h2.2 h4] at hx;cases hx
theorem kSz_rows {H:List (List ChgM)} (h:∀ cs ∈ H,∀ c ∈ cs,c.key.size≤1000) (n:Nat):kSz (rowsN H n):=by
 unfold rowsN
 refine changeR_sz (fun c hc=>?_) (by simp [kSz])
 obtain ⟨cs,h1,h2⟩:=List.mem_flatten.1 hc
 exact h cs (List.mem_of_mem_take h1) c h2
set_option maxHeartbeats 16000000 in
theorem rDo_spec {g:World} {p b:Nat} {s:RefV} (n:UInt32) (x:OpM) (hs:RefOk s b) (hb1:b≤1000000) (hxk:x.key.size≤9223372036854775807) (hxt:x.to.size≤9223372036854775807):Spec Tryz.prog g 18 [.pointer (some ⟨p,0,none⟩),.int .u32 n.toNat,x.v] [Rf p s] fun K R=>match rDo s n x with
   | .err e=>K (.tuple #[.agg #[.slice none 0 0],.int .i64 e]) (Rf p s::R)
   | .put t c=>∀ sv,K (.tuple #[.agg #[.slice none 0 0],.int .i64 0]) (Rf p (rPut s t c sv)::R)
   | .look t=>∀ kv sv a m c,K (.tuple #[.agg #[.slice a m c],.int .i64 0]) (Sl 142 2 RowM.c (.slice a m c) (scanR (changeR (rowsN s.H t.x.at_.toNat) t.x.own) (spanOf x) 256)::Rf p (rLook s t (spanOf x) kv sv)::R):=by
 have htl:=hs.tl
 have hrlb:=hs.rl
 have hhl:=hs.hl
 refine Spec.intro Tryz.func18 rfl Tryz.ntmps18 rfl fun R K hK=>?_
 refine WP.seq<|WP.reg ?_
 refine WL.h (h_box fun b1=>?_)
 refine WL.h (h_alloc z61 fun b2=>?_)
 refine WL.e e_assign<|WL.next<|WP.seq<|WP.seq<|WP.reg<|WL.e (e_loadN a51) ?_
 refine WL.h (h_call (rOp_spec x hxk hxt) k57 ?_)
 refine WL.e e_not<|WL.next ?_
 refine WP.cond rfl (fun h1=>?_) (fun h1=>?_)
 ·replace h1:opOk x=false:=by simpa using h1
  rw [show rDo s n x=.err 1 by simp [rDo,h1]] at hK
  refine WP.seq<|WP.reg<|WL.e (e_build z61 p61 (.z (.slice none 0 0)<|.n)) ?_
  refine WL.h' (h_store s61 ?_)
  refine WL.e e_assign<|WL.next<|WP.ret<|PO.past nofun ?_
  exact PO.fin Tryz.results18 (rv_cellN a61 (rv_tmp rv_nil)) hK
 ·replace h1:opOk x=true:=by simpa using h1
  have hsz:=opOk_sz h1
  refine WP.skip<|PO.next<|WP.seq<|WP.reg<|WL.e e_move<|WL.e e_move ?_
  refine WL.h (h_call (rFindT_spec (s:=s) n (by omega)) k40 ?_)
  refine WL.e e_assign<|WL.next<|WP.seq<|WP.seq<|WP.reg<|WL.e e_move<|WL.e (e_peq pt102)<|WL.next ?_
  refine WP.cond rfl (fun h2=>?_) (fun h2=>?_)
  ·have hf:findU s.txs n=none:=by cases e:findU s.txs n with
    | none=>rfl
    | some t=>rw [e] at h2;cases h2
   rw [show rDo s n x=.err 6 by simp [rDo,h1,hf]] at hK
   refine WP.seq<|WP.reg<|WL.e (e_build z61 p61 (.z (.slice none 0 0)<|.n)) ?_
   refine WL.h' (h_store s61 ?_)
   refine WL.e e_assign<|WL.next<|WP.ret<|PO.past nofun ?_
   exact PO.fin Tryz.results18 (rv_cellN a61 (rv_tmp rv_nil)) hK
  ·obtain ⟨t,hf⟩:∃ t,findU s.txs n=some t:=by cases e:findU s.txs n with
    | none=>rw [e] at h2;cases h2
    | some t=>exact ⟨t,rfl⟩
   rw [hf,Option.map_some]
   have ht:=findU_mem hf
   have hol:=hs.ol t ht
   have hlk:=hs.lk t ht
   have hown:∀ c ∈ t.x.own,c.key.size≤1000:=fun c hc=>keyOk_sz (chgOk_key (hs.ko t ht c hc))
   obtain ⟨hid,X,Y,e,_,_⟩:=findU_mid hf
   refine WP.opn (Rf_op (p:=p) (s:=s)) fun x=>?_
   obtain ⟨pb,lv⟩:=x
   dsimp only
   refine WP.opn (Pas_op (pb:=pb) (H:=s.H)) fun x=>?_
   obtain ⟨A,rv,cv,rl,cl_,hrl,hr,hcl,hc⟩:=x
   dsimp only
   refine WP.opn (TxsU_out (TP:=RtP 106 110 127) e) fun _=>?_
   have hats:=hs.ats t ht
   obtain ⟨v,hv⟩:∃ v,rl[t.x.at_.toNat]?=some v:=⟨_,List.getElem?_eq_getElem (by omega)⟩
   have hrv:=hr t.x.at_.toNat v hv
   have hrn:=rowsN_len s.H t.x.at_.toNat
   refine WP.skip<|PO.next<|WP.seq<|WP.seq<|WP.reg<|WL.e (e_loadN a51) ?_
   refine WL.h (h_call (rWrites_spec x) k58 ?_)
   refine WL.e e_not<|WL.next ?_
   refine WP.cond rfl (fun k3=>?_) (fun k3=>?_)
   ·replace k3:writes x=false:=by simpa using k3
    rw [show rDo s n x=.look t by simp [rDo,h1,hf,k3]] at hK
    refine WP.draws mixedOk 12<|RW.e 0 rfl e_move<|RW.e 1 rfl e_move<|RW.e 2 rfl e_nil<|RW.e 3 rfl (e_fa f106_2)<|RW.e 4 rfl (e_load a104)<|RW.e 5 rfl (e_loadN a51) ?_
    refine RW.any (is:=[6]) rfl ⟨?_,trivial⟩
    refine RWat.h rfl rfl rfl ?_
    refine (h_call (rOf_spec x) k59 ?_)
    refine ⟨⟨⟨_,rfl,.inl ⟨rfl,(e_load a104)⟩⟩,⟨_,rfl,.inl ⟨rfl,(e_fa f106_2)⟩⟩,⟨_,rfl,.inl ⟨rfl,e_nil⟩⟩,⟨_,rfl,.inl ⟨rfl,e_move⟩⟩,⟨_,rfl,.inl ⟨rfl,e_move⟩⟩,trivial⟩,?_⟩
    refine RW.any (is:=[7]) rfl ⟨?_,trivial⟩
    refine RWat.h rfl rfl rfl ?_
    refine (h_bs sl104 z110 (.a2 (.tmp 30) rfl<|.n) fun b3=>?_)
    refine ⟨⟨⟨_,rfl,.inl ⟨rfl,(e_load a104)⟩⟩,⟨_,rfl,.inl ⟨rfl,(e_fa f106_2)⟩⟩,⟨_,rfl,.inl ⟨rfl,e_nil⟩⟩,⟨_,rfl,.inl ⟨rfl,e_move⟩⟩,⟨_,rfl,.inl ⟨rfl,e_move⟩⟩,trivial⟩,?_⟩
    refine RW.any (is:=[8]) rfl ⟨?_,trivial⟩
    refine RWat.h rfl rfl rfl ?_
    refine (hl_append (xs:=t.x.looked) sl104 spanE z110 (lit_rl spanE [spanOf x] rfl) (by simp;omega) fun a4 m4 c4=>?_)
    refine ⟨⟨⟨_,rfl,.inl ⟨rfl,e_move⟩⟩,trivial⟩,?_⟩
    refine RW.e 9 rfl e_nil<|RW.e 10 rfl (e_fa f106_2) ?_
    refine RW.any (is:=[11]) rfl ⟨?_,trivial⟩
    refine RWat.h' rfl rfl rfl ?_
    refine (h_store s104 ?_)
    refine ⟨trivial,?_⟩
    refine RW.done<|PO.next<|WP.seq<|WP.draws mixedOk 22<|RW.e 0 rfl e_move<|RW.e 1 rfl e_nil<|RW.e 2 rfl (e_fa f99_0)<|RW.e 3 rfl (e_load a95)<|RW.e 4 rfl e_move<|RW.e 5 rfl e_nil<|RW.e 6 rfl (e_fa f106_1)<|RW.e 7 rfl (e_load a48)<|RW.e 9 rfl e_move<|RW.e 10 rfl e_nil<|RW.e 11 rfl (e_fa f106_3)<|RW.e 12 rfl (e_load a91)<|RW.e 14 rfl (e_loadN a51) ?_
    refine RW.any (is:=[8,19]) rfl ⟨?_,?_,trivial⟩
    ·skip
     refine RWat.h rfl rfl rfl ?_
     refine (h_call (pAt_spec (rl:=rl) (cl_:=cl_) (v:=v) t.x.at_ hv (by rw [hcl];exact hs.ats t ht) (by omega)) k62 ?_)
     refine ⟨⟨⟨_,rfl,.inl ⟨rfl,(e_loadN a51)⟩⟩,⟨_,rfl,.inl ⟨rfl,(e_load a91)⟩⟩,⟨_,rfl,.inl ⟨rfl,(e_fa f106_3)⟩⟩,⟨_,rfl,.inl ⟨rfl,e_nil⟩⟩,⟨_,rfl,.inl ⟨rfl,e_move⟩⟩,trivial⟩,?_⟩
     refine RW.any (is:=[13,19]) rfl ⟨?_,?_,trivial⟩
     ·skip
      refine RWat.h rfl rfl rfl ?_
      refine (h_call (rOwn_spec (u:=v) hrv (sl_rl (E:=127) (xs:=t.x.own)) (by omega)) k61 ?_)
      intro a1 m1 c1 B1 hG1 hR1
      obtain ⟨hrr,_⟩:=changeR_rising t.x.own (rowsN_rising s.H t.x.at_.toNat)
      refine ⟨⟨⟨_,rfl,.inl ⟨rfl,(e_loadN a51)⟩⟩,trivial⟩,?_⟩
      refine RW.any (is:=[15,19]) rfl ⟨?_,?_,trivial⟩
      ·skip
       refine RWat.h rfl rfl rfl ?_
       refine (h_call (rDoes_spec x hR1 (by have:=changeR_len t.x.own (rowsN s.H t.x.at_.toNat);omega) (changeR_sz hown (kSz_rows hs.kh _)) h1) k60 ?_)
       intro a5 m5 c5 a6 m6 c6 hz
       rw [rRes_r hrr h1 k3,show rChs x=[] by rw [rChs,if_neg (by simp [k3])]]
       refine ⟨trivial,?_⟩
       refine RW.e 16 rfl e_move<|RW.e 17 rfl e_extract<|RW.e 18 rfl e_extract ?_
       refine RW.any (is:=[19]) rfl ⟨?_,trivial⟩
       refine RWat.h rfl rfl rfl ?_
       refine (h_alloc z61 fun b4=>?_)
       refine ⟨⟨⟨_,rfl,.inl ⟨rfl,e_extract⟩⟩,⟨_,rfl,.inl ⟨rfl,e_extract⟩⟩,⟨_,rfl,.inl ⟨rfl,e_move⟩⟩,trivial⟩,?_⟩
       refine RW.any (is:=[20]) rfl ⟨?_,trivial⟩
       refine RWat.h' rfl rfl rfl ?_
       refine (h_store s61 ?_)
       refine ⟨⟨⟨_,rfl,.inl ⟨rfl,e_extract⟩⟩,trivial⟩,?_⟩
       refine RW.e 21 rfl e_assign<|RW.done<|PO.next<|WP.seq<|WP.reg<|WL.e e_move<|WL.e e_move<|WL.e e_nil<|WL.e (e_fa f106_3)<|WL.e (e_load a91)<|WL.e e_move ?_
       refine WL.h (hl_append (xs:=t.x.own) sl91 chgE z127 (sl_rl (E:=127) (xs:=([]:List ChgM))) (by simp;omega) fun a7 m7 c7=>?_)
       rw [List.append_nil]
       refine WL.e e_nil<|WL.e (e_fa f106_3) ?_
       refine WL.h' (h_store s91 ?_)
       refine WL.next<|WP.seq<|WP.reg<|WL.e (e_loadN a61) ?_
       refine WL.h' (h_store s61 ?_)
       refine WL.e e_assign<|WL.next<|WP.ret ?_
       have hset:setU s.txs t.id ⟨t.x.at_,t.x.looked++[spanOf x],t.x.own,⟨a4,m4,c4⟩,⟨a7,m7,c7⟩⟩=X++({ t with x:=⟨t.x.at_,t.x.looked++[spanOf x],t.x.own,⟨a4,m4,c4⟩,⟨a7,m7,c7⟩⟩ }:TxU UInt32 RtD)::Y:=by rw [e];exact setU_mid (e ▸ hs.ids.nodup) _
       have hpt:Sl 102 1 ptC (lv.v) (s.txs)=Sl 102 1 ptC (lv.v) (X++({ t with x:=⟨t.x.at_,t.x.looked++[spanOf x],t.x.own,⟨a4,m4,c4⟩,⟨a7,m7,c7⟩⟩ }:TxU UInt32 RtD)::Y):=by rw [e];simp [Sl,ptC]
       rw [hpt]
       refine PO.cls (A:=Rts 106 110 127 (X++({ t with x:=⟨t.x.at_,t.x.looked++[spanOf x],t.x.own,⟨a4,m4,c4⟩,⟨a7,m7,c7⟩⟩ }:TxU UInt32 RtD)::Y)) (B:=[cl t.q 106 [.int .u32 t.id.toNat,.int .u32 t.x.at_.toNat,.slice a4 m4 c4,.slice a7 m7 c7],Sl 110 2 SpanM.c (.slice a4 m4 c4) (t.x.looked++[spanOf x]),Sl 127 3 ChgM.c (.slice a7 m7 c7) (t.x.own),Rts 106 110 127 (X++Y)]) (fun S h=>TxsU_in (t:=({ t with x:=⟨t.x.at_,t.x.looked++[spanOf x],t.x.own,⟨a4,m4,c4⟩,⟨a7,m7,c7⟩⟩ }:TxU UInt32 RtD)) S h) ?_
       have hK:=hK ⟨a4,m4,c4⟩ ⟨a7,m7,c7⟩ a5 m5 c5
       rw [rLook,hset] at hK
       refine PO.cls (A:=Pas pb (s.H)) (B:=[cl pb 167 [rv.v,cv.v,.int .u32 0],B1,Sl 59 1 hvC (rv.v) (rl),Sl 91 1 hvC (cv.v) (cl_)]) (fun S h=>⟨⟨B1,rv,cv,rl,cl_,hrl,fun i v hv=>(hr i v hv).ge hG1,hcl,fun i v cs h1 h2=>(hc i v cs h1 h2).ge hG1⟩,h⟩) ?_
       refine PO.cls (A:=Rf p ({ s with txs:=X++({ t with x:=⟨t.x.at_,t.x.looked++[spanOf x],t.x.own,⟨a4,m4,c4⟩,⟨a7,m7,c7⟩⟩ }:TxU UInt32 RtD)::Y })) (B:=[cl p 99 [.pointer (some ⟨pb,0,none⟩),lv.v],Pas pb s.H,Sl 102 1 ptC (lv.v) (X++({ t with x:=⟨t.x.at_,t.x.looked++[spanOf x],t.x.own,⟨a4,m4,c4⟩,⟨a7,m7,c7⟩⟩ }:TxU UInt32 RtD)::Y),Rts 106 110 127 (X++({ t with x:=⟨t.x.at_,t.x.looked++[spanOf x],t.x.own,⟨a4,m4,c4⟩,⟨a7,m7,c7⟩⟩ }:TxU UInt32 RtD)::Y)]) (fun S h=>⟨⟨pb,lv⟩,h⟩) ?_
       exact PO.fin Tryz.results18 (rv_cellN a61 (rv_tmp rv_nil)) hK
      ·skip
       refine RWat.h rfl rfl rfl ?_
       refine (h_alloc z61 fun b5=>?_)
       refine ⟨⟨⟨_,rfl,.inl ⟨rfl,(e_loadN a51)⟩⟩,trivial⟩,?_⟩
       refine RW.any (is:=[15]) rfl ⟨?_,trivial⟩
       refine RWat.h rfl rfl rfl ?_
       refine (h_call (rDoes_spec x hR1 (by have:=changeR_len t.x.own (rowsN s.H t.x.at_.toNat);omega) (changeR_sz hown (kSz_rows hs.kh _)) h1) k60 ?_)
       intro a5 m5 c5 a6 m6 c6 hz
       rw [rRes_r hrr h1 k3,show rChs x=[] by rw [rChs,if_neg (by simp [k3])]]
       refine ⟨trivial,?_⟩
       refine RW.e 16 rfl e_move<|RW.e 17 rfl e_extract<|RW.e 18 rfl e_extract ?_
       refine RW.any (is:=[20]) rfl ⟨?_,trivial⟩
       refine RWat.h' rfl rfl rfl ?_
       refine (h_store s61 ?_)
       refine ⟨⟨⟨_,rfl,.inl ⟨rfl,e_extract⟩⟩,trivial⟩,?_⟩
       refine RW.e 21 rfl e_assign<|RW.done<|PO.next<|WP.seq<|WP.reg<|WL.e e_move<|WL.e e_move<|WL.e e_nil<|WL.e (e_fa f106_3)<|WL.e (e_load a91)<|WL.e e_move ?_
       refine WL.h (hl_append (xs:=t.x.own) sl91 chgE z127 (sl_rl (E:=127) (xs:=([]:List ChgM))) (by simp;omega) fun a7 m7 c7=>?_)
       rw [List.append_nil]
       refine WL.e e_nil<|WL.e (e_fa f106_3) ?_
       refine WL.h' (h_store s91 ?_)
       refine WL.next<|WP.seq<|WP.reg<|WL.e (e_loadN a61) ?_
       refine WL.h' (h_store s61 ?_)
       refine WL.e e_assign<|WL.next<|WP.ret ?_
       have hset:setU s.txs t.id ⟨t.x.at_,t.x.looked++[spanOf x],t.x.own,⟨a4,m4,c4⟩,⟨a7,m7,c7⟩⟩=X++({ t with x:=⟨t.x.at_,t.x.looked++[spanOf x],t.x.own,⟨a4,m4,c4⟩,⟨a7,m7,c7⟩⟩ }:TxU UInt32 RtD)::Y:=by rw [e];exact setU_mid (e ▸ hs.ids.nodup) _
       have hpt:Sl 102 1 ptC (lv.v) (s.txs)=Sl 102 1 ptC (lv.v) (X++({ t with x:=⟨t.x.at_,t.x.looked++[spanOf x],t.x.own,⟨a4,m4,c4⟩,⟨a7,m7,c7⟩⟩ }:TxU UInt32 RtD)::Y):=by rw [e];simp [Sl,ptC]
       rw [hpt]
       refine PO.cls (A:=Rts 106 110 127 (X++({ t with x:=⟨t.x.at_,t.x.looked++[spanOf x],t.x.own,⟨a4,m4,c4⟩,⟨a7,m7,c7⟩⟩ }:TxU UInt32 RtD)::Y)) (B:=[cl t.q 106 [.int .u32 t.id.toNat,.int .u32 t.x.at_.toNat,.slice a4 m4 c4,.slice a7 m7 c7],Sl 110 2 SpanM.c (.slice a4 m4 c4) (t.x.looked++[spanOf x]),Sl 127 3 ChgM.c (.slice a7 m7 c7) (t.x.own),Rts 106 110 127 (X++Y)]) (fun S h=>TxsU_in (t:=({ t with x:=⟨t.x.at_,t.x.looked++[spanOf x],t.x.own,⟨a4,m4,c4⟩,⟨a7,m7,c7⟩⟩ }:TxU UInt32 RtD)) S h) ?_
       have hK:=hK ⟨a4,m4,c4⟩ ⟨a7,m7,c7⟩ a5 m5 c5
       rw [rLook,hset] at hK
       refine PO.cls (A:=Pas pb (s.H)) (B:=[cl pb 167 [rv.v,cv.v,.int .u32 0],B1,Sl 59 1 hvC (rv.v) (rl),Sl 91 1 hvC (cv.v) (cl_)]) (fun S h=>⟨⟨B1,rv,cv,rl,cl_,hrl,fun i v hv=>(hr i v hv).ge hG1,hcl,fun i v cs h1 h2=>(hc i v cs h1 h2).ge hG1⟩,h⟩) ?_
       refine PO.cls (A:=Rf p ({ s with txs:=X++({ t with x:=⟨t.x.at_,t.x.looked++[spanOf x],t.x.own,⟨a4,m4,c4⟩,⟨a7,m7,c7⟩⟩ }:TxU UInt32 RtD)::Y })) (B:=[cl p 99 [.pointer (some ⟨pb,0,none⟩),lv.v],Pas pb s.H,Sl 102 1 ptC (lv.v) (X++({ t with x:=⟨t.x.at_,t.x.looked++[spanOf x],t.x.own,⟨a4,m4,c4⟩,⟨a7,m7,c7⟩⟩ }:TxU UInt32 RtD)::Y),Rts 106 110 127 (X++({ t with x:=⟨t.x.at_,t.x.looked++[spanOf x],t.x.own,⟨a4,m4,c4⟩,⟨a7,m7,c7⟩⟩ }:TxU UInt32 RtD)::Y)]) (fun S h=>⟨⟨pb,lv⟩,h⟩) ?_
       exact PO.fin Tryz.results18 (rv_cellN a61 (rv_tmp rv_nil)) hK
     ·skip
      refine RWat.h rfl rfl rfl ?_
      refine (h_alloc z61 fun b6=>?_)
      refine ⟨⟨⟨_,rfl,.inl ⟨rfl,(e_loadN a51)⟩⟩,⟨_,rfl,.inl ⟨rfl,(e_load a91)⟩⟩,⟨_,rfl,.inl ⟨rfl,(e_fa f106_3)⟩⟩,⟨_,rfl,.inl ⟨rfl,e_nil⟩⟩,⟨_,rfl,.inl ⟨rfl,e_move⟩⟩,trivial⟩,?_⟩
      refine RW.any (is:=[13]) rfl ⟨?_,trivial⟩
      refine RWat.h rfl rfl rfl ?_
      refine (h_call (rOwn_spec (u:=v) hrv (sl_rl (E:=127) (xs:=t.x.own)) (by omega)) k61 ?_)
      intro a1 m1 c1 B1 hG1 hR1
      obtain ⟨hrr,_⟩:=changeR_rising t.x.own (rowsN_rising s.H t.x.at_.toNat)
      refine ⟨⟨⟨_,rfl,.inl ⟨rfl,(e_loadN a51)⟩⟩,trivial⟩,?_⟩
      refine RW.any (is:=[15]) rfl ⟨?_,trivial⟩
      refine RWat.h rfl rfl rfl ?_
      refine (h_call (rDoes_spec x hR1 (by have:=changeR_len t.x.own (rowsN s.H t.x.at_.toNat);omega) (changeR_sz hown (kSz_rows hs.kh _)) h1) k60 ?_)
      intro a5 m5 c5 a6 m6 c6 hz
      rw [rRes_r hrr h1 k3,show rChs x=[] by rw [rChs,if_neg (by simp [k3])]]
      refine ⟨trivial,?_⟩
      refine RW.e 16 rfl e_move<|RW.e 17 rfl e_extract<|RW.e 18 rfl e_extract ?_
      refine RW.any (is:=[20]) rfl ⟨?_,trivial⟩
      refine RWat.h' rfl rfl rfl ?_
      refine (h_store s61 ?_)
      refine ⟨⟨⟨_,rfl,.inl ⟨rfl,e_extract⟩⟩,trivial⟩,?_⟩
      refine RW.e 21 rfl e_assign<|RW.done<|PO.next<|WP.seq<|WP.reg<|WL.e e_move<|WL.e e_move<|WL.e e_nil<|WL.e (e_fa f106_3)<|WL.e (e_load a91)<|WL.e e_move ?_
      refine WL.h (hl_append (xs:=t.x.own) sl91 chgE z127 (sl_rl (E:=127) (xs:=([]:List ChgM))) (by simp;omega) fun a7 m7 c7=>?_)
      rw [List.append_nil]
      refine WL.e e_nil<|WL.e (e_fa f106_3) ?_
      refine WL.h' (h_store s91 ?_)
      refine WL.next<|WP.seq<|WP.reg<|WL.e (e_loadN a61) ?_
      refine WL.h' (h_store s61 ?_)
      refine WL.e e_assign<|WL.next<|WP.ret ?_
      have hset:setU s.txs t.id ⟨t.x.at_,t.x.looked++[spanOf x],t.x.own,⟨a4,m4,c4⟩,⟨a7,m7,c7⟩⟩=X++({ t with x:=⟨t.x.at_,t.x.looked++[spanOf x],t.x.own,⟨a4,m4,c4⟩,⟨a7,m7,c7⟩⟩ }:TxU UInt32 RtD)::Y:=by rw [e];exact setU_mid (e ▸ hs.ids.nodup) _
      have hpt:Sl 102 1 ptC (lv.v) (s.txs)=Sl 102 1 ptC (lv.v) (X++({ t with x:=⟨t.x.at_,t.x.looked++[spanOf x],t.x.own,⟨a4,m4,c4⟩,⟨a7,m7,c7⟩⟩ }:TxU UInt32 RtD)::Y):=by rw [e];simp [Sl,ptC]
      rw [hpt]
      refine PO.cls (A:=Rts 106 110 127 (X++({ t with x:=⟨t.x.at_,t.x.looked++[spanOf x],t.x.own,⟨a4,m4,c4⟩,⟨a7,m7,c7⟩⟩ }:TxU UInt32 RtD)::Y)) (B:=[cl t.q 106 [.int .u32 t.id.toNat,.int .u32 t.x.at_.toNat,.slice a4 m4 c4,.slice a7 m7 c7],Sl 110 2 SpanM.c (.slice a4 m4 c4) (t.x.looked++[spanOf x]),Sl 127 3 ChgM.c (.slice a7 m7 c7) (t.x.own),Rts 106 110 127 (X++Y)]) (fun S h=>TxsU_in (t:=({ t with x:=⟨t.x.at_,t.x.looked++[spanOf x],t.x.own,⟨a4,m4,c4⟩,⟨a7,m7,c7⟩⟩ }:TxU UInt32 RtD)) S h) ?_
      have hK:=hK ⟨a4,m4,c4⟩ ⟨a7,m7,c7⟩ a5 m5 c5
      rw [rLook,hset] at hK
      refine PO.cls (A:=Pas pb (s.H)) (B:=[cl pb 167 [rv.v,cv.v,.int .u32 0],B1,Sl 59 1 hvC (rv.v) (rl),Sl 91 1 hvC (cv.v) (cl_)]) (fun S h=>⟨⟨B1,rv,cv,rl,cl_,hrl,fun i v hv=>(hr i v hv).ge hG1,hcl,fun i v cs h1 h2=>(hc i v cs h1 h2).ge hG1⟩,h⟩) ?_
      refine PO.cls (A:=Rf p ({ s with txs:=X++({ t with x:=⟨t.x.at_,t.x.looked++[spanOf x],t.x.own,⟨a4,m4,c4⟩,⟨a7,m7,c7⟩⟩ }:TxU UInt32 RtD)::Y })) (B:=[cl p 99 [.pointer (some ⟨pb,0,none⟩),lv.v],Pas pb s.H,Sl 102 1 ptC (lv.v) (X++({ t with x:=⟨t.x.at_,t.x.looked++[spanOf x],t.x.own,⟨a4,m4,c4⟩,⟨a7,m7,c7⟩⟩ }:TxU UInt32 RtD)::Y),Rts 106 110 127 (X++({ t with x:=⟨t.x.at_,t.x.looked++[spanOf x],t.x.own,⟨a4,m4,c4⟩,⟨a7,m7,c7⟩⟩ }:TxU UInt32 RtD)::Y)]) (fun S h=>⟨⟨pb,lv⟩,h⟩) ?_
      exact PO.fin Tryz.results18 (rv_cellN a61 (rv_tmp rv_nil)) hK
    ·skip
     refine RWat.h rfl rfl rfl ?_
     refine (h_alloc z61 fun b7=>?_)
     refine ⟨⟨⟨_,rfl,.inl ⟨rfl,(e_loadN a51)⟩⟩,⟨_,rfl,.inl ⟨rfl,(e_load a91)⟩⟩,⟨_,rfl,.inl ⟨rfl,(e_fa f106_3)⟩⟩,⟨_,rfl,.inl ⟨rfl,e_nil⟩⟩,⟨_,rfl,.inl ⟨rfl,e_move⟩⟩,⟨_,rfl,.inl ⟨rfl,(e_load a48)⟩⟩,⟨_,rfl,.inl ⟨rfl,(e_fa f106_1)⟩⟩,⟨_,rfl,.inl ⟨rfl,e_nil⟩⟩,⟨_,rfl,.inl ⟨rfl,e_move⟩⟩,⟨_,rfl,.inl ⟨rfl,(e_load a95)⟩⟩,⟨_,rfl,.inl ⟨rfl,(e_fa f99_0)⟩⟩,⟨_,rfl,.inl ⟨rfl,e_nil⟩⟩,⟨_,rfl,.inl ⟨rfl,e_move⟩⟩,trivial⟩,?_⟩
     refine RW.any (is:=[8]) rfl ⟨?_,trivial⟩
     refine RWat.h rfl rfl rfl ?_
     refine (h_call (pAt_spec (rl:=rl) (cl_:=cl_) (v:=v) t.x.at_ hv (by rw [hcl];exact hs.ats t ht) (by omega)) k62 ?_)
     refine ⟨⟨⟨_,rfl,.inl ⟨rfl,(e_loadN a51)⟩⟩,⟨_,rfl,.inl ⟨rfl,(e_load a91)⟩⟩,⟨_,rfl,.inl ⟨rfl,(e_fa f106_3)⟩⟩,⟨_,rfl,.inl ⟨rfl,e_nil⟩⟩,⟨_,rfl,.inl ⟨rfl,e_move⟩⟩,trivial⟩,?_⟩
     refine RW.any (is:=[13]) rfl ⟨?_,trivial⟩
     refine RWat.h rfl rfl rfl ?_
     refine (h_call (rOwn_spec (u:=v) hrv (sl_rl (E:=127) (xs:=t.x.own)) (by omega)) k61 ?_)
     intro a1 m1 c1 B1 hG1 hR1
     obtain ⟨hrr,_⟩:=changeR_rising t.x.own (rowsN_rising s.H t.x.at_.toNat)
     refine ⟨⟨⟨_,rfl,.inl ⟨rfl,(e_loadN a51)⟩⟩,trivial⟩,?_⟩
     refine RW.any (is:=[15]) rfl ⟨?_,trivial⟩
     refine RWat.h rfl rfl rfl ?_
     refine (h_call (rDoes_spec x hR1 (by have:=changeR_len t.x.own (rowsN s.H t.x.at_.toNat);omega) (changeR_sz hown (kSz_rows hs.kh _)) h1) k60 ?_)
     intro a5 m5 c5 a6 m6 c6 hz
     rw [rRes_r hrr h1 k3,show rChs x=[] by rw [rChs,if_neg (by simp [k3])]]
     refine ⟨trivial,?_⟩
     refine RW.e 16 rfl e_move<|RW.e 17 rfl e_extract<|RW.e 18 rfl e_extract ?_
     refine RW.any (is:=[20]) rfl ⟨?_,trivial⟩
     refine RWat.h' rfl rfl rfl ?_
     refine (h_store s61 ?_)
     refine ⟨⟨⟨_,rfl,.inl ⟨rfl,e_extract⟩⟩,trivial⟩,?_⟩
     refine RW.e 21 rfl e_assign<|RW.done<|PO.next<|WP.seq<|WP.reg<|WL.e e_move<|WL.e e_move<|WL.e e_nil<|WL.e (e_fa f106_3)<|WL.e (e_load a91)<|WL.e e_move ?_
     refine WL.h (hl_append (xs:=t.x.own) sl91 chgE z127 (sl_rl (E:=127) (xs:=([]:List ChgM))) (by simp;omega) fun a7 m7 c7=>?_)
     rw [List.append_nil]
     refine WL.e e_nil<|WL.e (e_fa f106_3) ?_
     refine WL.h' (h_store s91 ?_)
     refine WL.next<|WP.seq<|WP.reg<|WL.e (e_loadN a61) ?_
     refine WL.h' (h_store s61 ?_)
     refine WL.e e_assign<|WL.next<|WP.ret ?_
     have hset:setU s.txs t.id ⟨t.x.at_,t.x.looked++[spanOf x],t.x.own,⟨a4,m4,c4⟩,⟨a7,m7,c7⟩⟩=X++({ t with x:=⟨t.x.at_,t.x.looked++[spanOf x],t.x.own,⟨a4,m4,c4⟩,⟨a7,m7,c7⟩⟩ }:TxU UInt32 RtD)::Y:=by rw [e];exact setU_mid (e ▸ hs.ids.nodup) _
     have hpt:Sl 102 1 ptC (lv.v) (s.txs)=Sl 102 1 ptC (lv.v) (X++({ t with x:=⟨t.x.at_,t.x.looked++[spanOf x],t.x.own,⟨a4,m4,c4⟩,⟨a7,m7,c7⟩⟩ }:TxU UInt32 RtD)::Y):=by rw [e];simp [Sl,ptC]
     rw [hpt]
     refine PO.cls (A:=Rts 106 110 127 (X++({ t with x:=⟨t.x.at_,t.x.looked++[spanOf x],t.x.own,⟨a4,m4,c4⟩,⟨a7,m7,c7⟩⟩ }:TxU UInt32 RtD)::Y)) (B:=[cl t.q 106 [.int .u32 t.id.toNat,.int .u32 t.x.at_.toNat,.slice a4 m4 c4,.slice a7 m7 c7],Sl 110 2 SpanM.c (.slice a4 m4 c4) (t.x.looked++[spanOf x]),Sl 127 3 ChgM.c (.slice a7 m7 c7) (t.x.own),Rts 106 110 127 (X++Y)]) (fun S h=>TxsU_in (t:=({ t with x:=⟨t.x.at_,t.x.looked++[spanOf x],t.x.own,⟨a4,m4,c4⟩,⟨a7,m7,c7⟩⟩ }:TxU UInt32 RtD)) S h) ?_
     have hK:=hK ⟨a4,m4,c4⟩ ⟨a7,m7,c7⟩ a5 m5 c5
     rw [rLook,hset] at hK
     refine PO.cls (A:=Pas pb (s.H)) (B:=[cl pb 167 [rv.v,cv.v,.int .u32 0],B1,Sl 59 1 hvC (rv.v) (rl),Sl 91 1 hvC (cv.v) (cl_)]) (fun S h=>⟨⟨B1,rv,cv,rl,cl_,hrl,fun i v hv=>(hr i v hv).ge hG1,hcl,fun i v cs h1 h2=>(hc i v cs h1 h2).ge hG1⟩,h⟩) ?_
     refine PO.cls (A:=Rf p ({ s with txs:=X++({ t with x:=⟨t.x.at_,t.x.looked++[spanOf x],t.x.own,⟨a4,m4,c4⟩,⟨a7,m7,c7⟩⟩ }:TxU UInt32 RtD)::Y })) (B:=[cl p 99 [.pointer (some ⟨pb,0,none⟩),lv.v],Pas pb s.H,Sl 102 1 ptC (lv.v) (X++({ t with x:=⟨t.x.at_,t.x.looked++[spanOf x],t.x.own,⟨a4,m4,c4⟩,⟨a7,m7,c7⟩⟩ }:TxU UInt32 RtD)::Y),Rts 106 110 127 (X++({ t with x:=⟨t.x.at_,t.x.looked++[spanOf x],t.x.own,⟨a4,m4,c4⟩,⟨a7,m7,c7⟩⟩ }:TxU UInt32 RtD)::Y)]) (fun S h=>⟨⟨pb,lv⟩,h⟩) ?_
     exact PO.fin Tryz.results18 (rv_cellN a61 (rv_tmp rv_nil)) hK
   ·replace k3:writes x=true:=by simpa using k3
    rw [show rDo s n x=.put t (chgOf x) by simp [rDo,h1,hf,k3]] at hK
    refine WP.skip<|PO.next<|WP.seq<|WP.draws mixedOk 22<|RW.e 0 rfl e_move<|RW.e 1 rfl e_nil<|RW.e 2 rfl (e_fa f99_0)<|RW.e 3 rfl (e_load a95)<|RW.e 4 rfl e_move<|RW.e 5 rfl e_nil<|RW.e 6 rfl (e_fa f106_1)<|RW.e 7 rfl (e_load a48)<|RW.e 9 rfl e_move<|RW.e 10 rfl e_nil<|RW.e 11 rfl (e_fa f106_3)<|RW.e 12 rfl (e_load a91)<|RW.e 14 rfl (e_loadN a51) ?_
    refine RW.any (is:=[8,19]) rfl ⟨?_,?_,trivial⟩
    ·skip
     refine RWat.h rfl rfl rfl ?_
     refine (h_call (pAt_spec (rl:=rl) (cl_:=cl_) (v:=v) t.x.at_ hv (by rw [hcl];exact hs.ats t ht) (by omega)) k62 ?_)
     refine ⟨⟨⟨_,rfl,.inl ⟨rfl,(e_loadN a51)⟩⟩,⟨_,rfl,.inl ⟨rfl,(e_load a91)⟩⟩,⟨_,rfl,.inl ⟨rfl,(e_fa f106_3)⟩⟩,⟨_,rfl,.inl ⟨rfl,e_nil⟩⟩,⟨_,rfl,.inl ⟨rfl,e_move⟩⟩,trivial⟩,?_⟩
     refine RW.any (is:=[13,19]) rfl ⟨?_,?_,trivial⟩
     ·skip
      refine RWat.h rfl rfl rfl ?_
      refine (h_call (rOwn_spec (u:=v) hrv (sl_rl (E:=127) (xs:=t.x.own)) (by omega)) k61 ?_)
      intro a1 m1 c1 B1 hG1 hR1
      obtain ⟨hrr,_⟩:=changeR_rising t.x.own (rowsN_rising s.H t.x.at_.toNat)
      refine ⟨⟨⟨_,rfl,.inl ⟨rfl,(e_loadN a51)⟩⟩,trivial⟩,?_⟩
      refine RW.any (is:=[15,19]) rfl ⟨?_,?_,trivial⟩
      ·skip
       refine RWat.h rfl rfl rfl ?_
       refine (h_call (rDoes_spec x hR1 (by have:=changeR_len t.x.own (rowsN s.H t.x.at_.toNat);omega) (changeR_sz hown (kSz_rows hs.kh _)) h1) k60 ?_)
       intro a5 m5 c5 a6 m6 c6 hz
       obtain ⟨rfl,rfl,rfl⟩:=hz k3
       rw [rRes_w k3,show rChs x=[chgOf x] by rw [rChs,if_pos k3]]
       refine ⟨trivial,?_⟩
       refine RW.e 16 rfl e_move<|RW.e 17 rfl e_extract<|RW.e 18 rfl e_extract ?_
       refine RW.any (is:=[19]) rfl ⟨?_,trivial⟩
       refine RWat.h rfl rfl rfl ?_
       refine (h_alloc z61 fun b8=>?_)
       refine ⟨⟨⟨_,rfl,.inl ⟨rfl,e_extract⟩⟩,⟨_,rfl,.inl ⟨rfl,e_extract⟩⟩,⟨_,rfl,.inl ⟨rfl,e_move⟩⟩,trivial⟩,?_⟩
       refine RW.any (is:=[20]) rfl ⟨?_,trivial⟩
       refine RWat.h' rfl rfl rfl ?_
       refine (h_store s61 ?_)
       refine ⟨⟨⟨_,rfl,.inl ⟨rfl,e_extract⟩⟩,trivial⟩,?_⟩
       refine RW.e 21 rfl e_assign<|RW.done<|PO.next<|WP.seq<|WP.reg<|WL.e e_move<|WL.e e_move<|WL.e e_nil<|WL.e (e_fa f106_3)<|WL.e (e_load a91)<|WL.e e_move ?_
       refine WL.h (hl_append (xs:=t.x.own) sl91 chgE z127 (sl_rl (E:=127) (xs:=[chgOf x])) (by simp;omega) fun a7 m7 c7=>?_)
       refine WL.e e_nil<|WL.e (e_fa f106_3) ?_
       refine WL.h' (h_store s91 ?_)
       refine WL.next<|WP.seq<|WP.reg<|WL.e (e_loadN a61) ?_
       refine WL.h' (h_store s61 ?_)
       refine WL.e e_assign<|WL.next<|WP.ret ?_
       have hset:setU s.txs t.id ⟨t.x.at_,t.x.looked,t.x.own++[chgOf x],t.x.kv,⟨a7,m7,c7⟩⟩=X++({ t with x:=⟨t.x.at_,t.x.looked,t.x.own++[chgOf x],t.x.kv,⟨a7,m7,c7⟩⟩ }:TxU UInt32 RtD)::Y:=by rw [e];exact setU_mid (e ▸ hs.ids.nodup) _
       have hpt:Sl 102 1 ptC (lv.v) (s.txs)=Sl 102 1 ptC (lv.v) (X++({ t with x:=⟨t.x.at_,t.x.looked,t.x.own++[chgOf x],t.x.kv,⟨a7,m7,c7⟩⟩ }:TxU UInt32 RtD)::Y):=by rw [e];simp [Sl,ptC]
       rw [hpt]
       refine PO.cls (A:=Rts 106 110 127 (X++({ t with x:=⟨t.x.at_,t.x.looked,t.x.own++[chgOf x],t.x.kv,⟨a7,m7,c7⟩⟩ }:TxU UInt32 RtD)::Y)) (B:=[cl t.q 106 [.int .u32 t.id.toNat,.int .u32 t.x.at_.toNat,t.x.kv.v,.slice a7 m7 c7],Sl 110 2 SpanM.c (t.x.kv.v) (t.x.looked),Sl 127 3 ChgM.c (.slice a7 m7 c7) (t.x.own++[chgOf x]),Rts 106 110 127 (X++Y)]) (fun S h=>TxsU_in (t:=({ t with x:=⟨t.x.at_,t.x.looked,t.x.own++[chgOf x],t.x.kv,⟨a7,m7,c7⟩⟩ }:TxU UInt32 RtD)) S h) ?_
       have hK:=hK ⟨a7,m7,c7⟩
       rw [rPut,hset] at hK
       refine PO.cls (A:=Pas pb (s.H)) (B:=[cl pb 167 [rv.v,cv.v,.int .u32 0],B1,Sl 59 1 hvC (rv.v) (rl),Sl 91 1 hvC (cv.v) (cl_)]) (fun S h=>⟨⟨B1,rv,cv,rl,cl_,hrl,fun i v hv=>(hr i v hv).ge hG1,hcl,fun i v cs h1 h2=>(hc i v cs h1 h2).ge hG1⟩,h⟩) ?_
       refine PO.cls (A:=Rf p ({ s with txs:=X++({ t with x:=⟨t.x.at_,t.x.looked,t.x.own++[chgOf x],t.x.kv,⟨a7,m7,c7⟩⟩ }:TxU UInt32 RtD)::Y })) (B:=[cl p 99 [.pointer (some ⟨pb,0,none⟩),lv.v],Pas pb s.H,Sl 102 1 ptC (lv.v) (X++({ t with x:=⟨t.x.at_,t.x.looked,t.x.own++[chgOf x],t.x.kv,⟨a7,m7,c7⟩⟩ }:TxU UInt32 RtD)::Y),Rts 106 110 127 (X++({ t with x:=⟨t.x.at_,t.x.looked,t.x.own++[chgOf x],t.x.kv,⟨a7,m7,c7⟩⟩ }:TxU UInt32 RtD)::Y)]) (fun S h=>⟨⟨pb,lv⟩,h⟩) ?_
       exact PO.fin Tryz.results18 (rv_cellN a61 (rv_tmp rv_nil)) hK
      ·skip
       refine RWat.h rfl rfl rfl ?_
       refine (h_alloc z61 fun b9=>?_)
       refine ⟨⟨⟨_,rfl,.inl ⟨rfl,(e_loadN a51)⟩⟩,trivial⟩,?_⟩
       refine RW.any (is:=[15]) rfl ⟨?_,trivial⟩
       refine RWat.h rfl rfl rfl ?_
       refine (h_call (rDoes_spec x hR1 (by have:=changeR_len t.x.own (rowsN s.H t.x.at_.toNat);omega) (changeR_sz hown (kSz_rows hs.kh _)) h1) k60 ?_)
       intro a5 m5 c5 a6 m6 c6 hz
       obtain ⟨rfl,rfl,rfl⟩:=hz k3
       rw [rRes_w k3,show rChs x=[chgOf x] by rw [rChs,if_pos k3]]
       refine ⟨trivial,?_⟩
       refine RW.e 16 rfl e_move<|RW.e 17 rfl e_extract<|RW.e 18 rfl e_extract ?_
       refine RW.any (is:=[20]) rfl ⟨?_,trivial⟩
       refine RWat.h' rfl rfl rfl ?_
       refine (h_store s61 ?_)
       refine ⟨⟨⟨_,rfl,.inl ⟨rfl,e_extract⟩⟩,trivial⟩,?_⟩
       refine RW.e 21 rfl e_assign<|RW.done<|PO.next<|WP.seq<|WP.reg<|WL.e e_move<|WL.e e_move<|WL.e e_nil<|WL.e (e_fa f106_3)<|WL.e (e_load a91)<|WL.e e_move ?_
       refine WL.h (hl_append (xs:=t.x.own) sl91 chgE z127 (sl_rl (E:=127) (xs:=[chgOf x])) (by simp;omega) fun a7 m7 c7=>?_)
       refine WL.e e_nil<|WL.e (e_fa f106_3) ?_
       refine WL.h' (h_store s91 ?_)
       refine WL.next<|WP.seq<|WP.reg<|WL.e (e_loadN a61) ?_
       refine WL.h' (h_store s61 ?_)
       refine WL.e e_assign<|WL.next<|WP.ret ?_
       have hset:setU s.txs t.id ⟨t.x.at_,t.x.looked,t.x.own++[chgOf x],t.x.kv,⟨a7,m7,c7⟩⟩=X++({ t with x:=⟨t.x.at_,t.x.looked,t.x.own++[chgOf x],t.x.kv,⟨a7,m7,c7⟩⟩ }:TxU UInt32 RtD)::Y:=by rw [e];exact setU_mid (e ▸ hs.ids.nodup) _
       have hpt:Sl 102 1 ptC (lv.v) (s.txs)=Sl 102 1 ptC (lv.v) (X++({ t with x:=⟨t.x.at_,t.x.looked,t.x.own++[chgOf x],t.x.kv,⟨a7,m7,c7⟩⟩ }:TxU UInt32 RtD)::Y):=by rw [e];simp [Sl,ptC]
       rw [hpt]
       refine PO.cls (A:=Rts 106 110 127 (X++({ t with x:=⟨t.x.at_,t.x.looked,t.x.own++[chgOf x],t.x.kv,⟨a7,m7,c7⟩⟩ }:TxU UInt32 RtD)::Y)) (B:=[cl t.q 106 [.int .u32 t.id.toNat,.int .u32 t.x.at_.toNat,t.x.kv.v,.slice a7 m7 c7],Sl 110 2 SpanM.c (t.x.kv.v) (t.x.looked),Sl 127 3 ChgM.c (.slice a7 m7 c7) (t.x.own++[chgOf x]),Rts 106 110 127 (X++Y)]) (fun S h=>TxsU_in (t:=({ t with x:=⟨t.x.at_,t.x.looked,t.x.own++[chgOf x],t.x.kv,⟨a7,m7,c7⟩⟩ }:TxU UInt32 RtD)) S h) ?_
       have hK:=hK ⟨a7,m7,c7⟩
       rw [rPut,hset] at hK
       refine PO.cls (A:=Pas pb (s.H)) (B:=[cl pb 167 [rv.v,cv.v,.int .u32 0],B1,Sl 59 1 hvC (rv.v) (rl),Sl 91 1 hvC (cv.v) (cl_)]) (fun S h=>⟨⟨B1,rv,cv,rl,cl_,hrl,fun i v hv=>(hr i v hv).ge hG1,hcl,fun i v cs h1 h2=>(hc i v cs h1 h2).ge hG1⟩,h⟩) ?_
       refine PO.cls (A:=Rf p ({ s with txs:=X++({ t with x:=⟨t.x.at_,t.x.looked,t.x.own++[chgOf x],t.x.kv,⟨a7,m7,c7⟩⟩ }:TxU UInt32 RtD)::Y })) (B:=[cl p 99 [.pointer (some ⟨pb,0,none⟩),lv.v],Pas pb s.H,Sl 102 1 ptC (lv.v) (X++({ t with x:=⟨t.x.at_,t.x.looked,t.x.own++[chgOf x],t.x.kv,⟨a7,m7,c7⟩⟩ }:TxU UInt32 RtD)::Y),Rts 106 110 127 (X++({ t with x:=⟨t.x.at_,t.x.looked,t.x.own++[chgOf x],t.x.kv,⟨a7,m7,c7⟩⟩ }:TxU UInt32 RtD)::Y)]) (fun S h=>⟨⟨pb,lv⟩,h⟩) ?_
       exact PO.fin Tryz.results18 (rv_cellN a61 (rv_tmp rv_nil)) hK
     ·skip
      refine RWat.h rfl rfl rfl ?_
      refine (h_alloc z61 fun b10=>?_)
      refine ⟨⟨⟨_,rfl,.inl ⟨rfl,(e_loadN a51)⟩⟩,⟨_,rfl,.inl ⟨rfl,(e_load a91)⟩⟩,⟨_,rfl,.inl ⟨rfl,(e_fa f106_3)⟩⟩,⟨_,rfl,.inl ⟨rfl,e_nil⟩⟩,⟨_,rfl,.inl ⟨rfl,e_move⟩⟩,trivial⟩,?_⟩
      refine RW.any (is:=[13]) rfl ⟨?_,trivial⟩
      refine RWat.h rfl rfl rfl ?_
      refine (h_call (rOwn_spec (u:=v) hrv (sl_rl (E:=127) (xs:=t.x.own)) (by omega)) k61 ?_)
      intro a1 m1 c1 B1 hG1 hR1
      obtain ⟨hrr,_⟩:=changeR_rising t.x.own (rowsN_rising s.H t.x.at_.toNat)
      refine ⟨⟨⟨_,rfl,.inl ⟨rfl,(e_loadN a51)⟩⟩,trivial⟩,?_⟩
      refine RW.any (is:=[15]) rfl ⟨?_,trivial⟩
      refine RWat.h rfl rfl rfl ?_
      refine (h_call (rDoes_spec x hR1 (by have:=changeR_len t.x.own (rowsN s.H t.x.at_.toNat);omega) (changeR_sz hown (kSz_rows hs.kh _)) h1) k60 ?_)
      intro a5 m5 c5 a6 m6 c6 hz
      obtain ⟨rfl,rfl,rfl⟩:=hz k3
      rw [rRes_w k3,show rChs x=[chgOf x] by rw [rChs,if_pos k3]]
      refine ⟨trivial,?_⟩
      refine RW.e 16 rfl e_move<|RW.e 17 rfl e_extract<|RW.e 18 rfl e_extract ?_
      refine RW.any (is:=[20]) rfl ⟨?_,trivial⟩
      refine RWat.h' rfl rfl rfl ?_
      refine (h_store s61 ?_)
      refine ⟨⟨⟨_,rfl,.inl ⟨rfl,e_extract⟩⟩,trivial⟩,?_⟩
      refine RW.e 21 rfl e_assign<|RW.done<|PO.next<|WP.seq<|WP.reg<|WL.e e_move<|WL.e e_move<|WL.e e_nil<|WL.e (e_fa f106_3)<|WL.e (e_load a91)<|WL.e e_move ?_
      refine WL.h (hl_append (xs:=t.x.own) sl91 chgE z127 (sl_rl (E:=127) (xs:=[chgOf x])) (by simp;omega) fun a7 m7 c7=>?_)
      refine WL.e e_nil<|WL.e (e_fa f106_3) ?_
      refine WL.h' (h_store s91 ?_)
      refine WL.next<|WP.seq<|WP.reg<|WL.e (e_loadN a61) ?_
      refine WL.h' (h_store s61 ?_)
      refine WL.e e_assign<|WL.next<|WP.ret ?_
      have hset:setU s.txs t.id ⟨t.x.at_,t.x.looked,t.x.own++[chgOf x],t.x.kv,⟨a7,m7,c7⟩⟩=X++({ t with x:=⟨t.x.at_,t.x.looked,t.x.own++[chgOf x],t.x.kv,⟨a7,m7,c7⟩⟩ }:TxU UInt32 RtD)::Y:=by rw [e];exact setU_mid (e ▸ hs.ids.nodup) _
      have hpt:Sl 102 1 ptC (lv.v) (s.txs)=Sl 102 1 ptC (lv.v) (X++({ t with x:=⟨t.x.at_,t.x.looked,t.x.own++[chgOf x],t.x.kv,⟨a7,m7,c7⟩⟩ }:TxU UInt32 RtD)::Y):=by rw [e];simp [Sl,ptC]
      rw [hpt]
      refine PO.cls (A:=Rts 106 110 127 (X++({ t with x:=⟨t.x.at_,t.x.looked,t.x.own++[chgOf x],t.x.kv,⟨a7,m7,c7⟩⟩ }:TxU UInt32 RtD)::Y)) (B:=[cl t.q 106 [.int .u32 t.id.toNat,.int .u32 t.x.at_.toNat,t.x.kv.v,.slice a7 m7 c7],Sl 110 2 SpanM.c (t.x.kv.v) (t.x.looked),Sl 127 3 ChgM.c (.slice a7 m7 c7) (t.x.own++[chgOf x]),Rts 106 110 127 (X++Y)]) (fun S h=>TxsU_in (t:=({ t with x:=⟨t.x.at_,t.x.looked,t.x.own++[chgOf x],t.x.kv,⟨a7,m7,c7⟩⟩ }:TxU UInt32 RtD)) S h) ?_
      have hK:=hK ⟨a7,m7,c7⟩
      rw [rPut,hset] at hK
      refine PO.cls (A:=Pas pb (s.H)) (B:=[cl pb 167 [rv.v,cv.v,.int .u32 0],B1,Sl 59 1 hvC (rv.v) (rl),Sl 91 1 hvC (cv.v) (cl_)]) (fun S h=>⟨⟨B1,rv,cv,rl,cl_,hrl,fun i v hv=>(hr i v hv).ge hG1,hcl,fun i v cs h1 h2=>(hc i v cs h1 h2).ge hG1⟩,h⟩) ?_
      refine PO.cls (A:=Rf p ({ s with txs:=X++({ t with x:=⟨t.x.at_,t.x.looked,t.x.own++[chgOf x],t.x.kv,⟨a7,m7,c7⟩⟩ }:TxU UInt32 RtD)::Y })) (B:=[cl p 99 [.pointer (some ⟨pb,0,none⟩),lv.v],Pas pb s.H,Sl 102 1 ptC (lv.v) (X++({ t with x:=⟨t.x.at_,t.x.looked,t.x.own++[chgOf x],t.x.kv,⟨a7,m7,c7⟩⟩ }:TxU UInt32 RtD)::Y),Rts 106 110 127 (X++({ t with x:=⟨t.x.at_,t.x.looked,t.x.own++[chgOf x],t.x.kv,⟨a7,m7,c7⟩⟩ }:TxU UInt32 RtD)::Y)]) (fun S h=>⟨⟨pb,lv⟩,h⟩) ?_
      exact PO.fin Tryz.results18 (rv_cellN a61 (rv_tmp rv_nil)) hK
    ·skip
     refine RWat.h rfl rfl rfl ?_
     refine (h_alloc z61 fun b11=>?_)
     refine ⟨⟨⟨_,rfl,.inl ⟨rfl,(e_loadN a51)⟩⟩,⟨_,rfl,.inl ⟨rfl,(e_load a91)⟩⟩,⟨_,rfl,.inl ⟨rfl,(e_fa f106_3)⟩⟩,⟨_,rfl,.inl ⟨rfl,e_nil⟩⟩,⟨_,rfl,.inl ⟨rfl,e_move⟩⟩,⟨_,rfl,.inl ⟨rfl,(e_load a48)⟩⟩,⟨_,rfl,.inl ⟨rfl,(e_fa f106_1)⟩⟩,⟨_,rfl,.inl ⟨rfl,e_nil⟩⟩,⟨_,rfl,.inl ⟨rfl,e_move⟩⟩,⟨_,rfl,.inl ⟨rfl,(e_load a95)⟩⟩,⟨_,rfl,.inl ⟨rfl,(e_fa f99_0)⟩⟩,⟨_,rfl,.inl ⟨rfl,e_nil⟩⟩,⟨_,rfl,.inl ⟨rfl,e_move⟩⟩,trivial⟩,?_⟩
     refine RW.any (is:=[8]) rfl ⟨?_,trivial⟩
     refine RWat.h rfl rfl rfl ?_
     refine (h_call (pAt_spec (rl:=rl) (cl_:=cl_) (v:=v) t.x.at_ hv (by rw [hcl];exact hs.ats t ht) (by omega)) k62 ?_)
     refine ⟨⟨⟨_,rfl,.inl ⟨rfl,(e_loadN a51)⟩⟩,⟨_,rfl,.inl ⟨rfl,(e_load a91)⟩⟩,⟨_,rfl,.inl ⟨rfl,(e_fa f106_3)⟩⟩,⟨_,rfl,.inl ⟨rfl,e_nil⟩⟩,⟨_,rfl,.inl ⟨rfl,e_move⟩⟩,trivial⟩,?_⟩
     refine RW.any (is:=[13]) rfl ⟨?_,trivial⟩
     refine RWat.h rfl rfl rfl ?_
     refine (h_call (rOwn_spec (u:=v) hrv (sl_rl (E:=127) (xs:=t.x.own)) (by omega)) k61 ?_)
     intro a1 m1 c1 B1 hG1 hR1
     obtain ⟨hrr,_⟩:=changeR_rising t.x.own (rowsN_rising s.H t.x.at_.toNat)
     refine ⟨⟨⟨_,rfl,.inl ⟨rfl,(e_loadN a51)⟩⟩,trivial⟩,?_⟩
     refine RW.any (is:=[15]) rfl ⟨?_,trivial⟩
     refine RWat.h rfl rfl rfl ?_
     refine (h_call (rDoes_spec x hR1 (by have:=changeR_len t.x.own (rowsN s.H t.x.at_.toNat);omega) (changeR_sz hown (kSz_rows hs.kh _)) h1) k60 ?_)
     intro a5 m5 c5 a6 m6 c6 hz
     obtain ⟨rfl,rfl,rfl⟩:=hz k3
     rw [rRes_w k3,show rChs x=[chgOf x] by rw [rChs,if_pos k3]]
     refine ⟨trivial,?_⟩
     refine RW.e 16 rfl e_move<|RW.e 17 rfl e_extract<|RW.e 18 rfl e_extract ?_
     refine RW.any (is:=[20]) rfl ⟨?_,trivial⟩
     refine RWat.h' rfl rfl rfl ?_
     refine (h_store s61 ?_)
     refine ⟨⟨⟨_,rfl,.inl ⟨rfl,e_extract⟩⟩,trivial⟩,?_⟩
     refine RW.e 21 rfl e_assign<|RW.done<|PO.next<|WP.seq<|WP.reg<|WL.e e_move<|WL.e e_move<|WL.e e_nil<|WL.e (e_fa f106_3)<|WL.e (e_load a91)<|WL.e e_move ?_
     refine WL.h (hl_append (xs:=t.x.own) sl91 chgE z127 (sl_rl (E:=127) (xs:=[chgOf x])) (by simp;omega) fun a7 m7 c7=>?_)
     refine WL.e e_nil<|WL.e (e_fa f106_3) ?_
     refine WL.h' (h_store s91 ?_)
     refine WL.next<|WP.seq<|WP.reg<|WL.e (e_loadN a61) ?_
     refine WL.h' (h_store s61 ?_)
     refine WL.e e_assign<|WL.next<|WP.ret ?_
     have hset:setU s.txs t.id ⟨t.x.at_,t.x.looked,t.x.own++[chgOf x],t.x.kv,⟨a7,m7,c7⟩⟩=X++({ t with x:=⟨t.x.at_,t.x.looked,t.x.own++[chgOf x],t.x.kv,⟨a7,m7,c7⟩⟩ }:TxU UInt32 RtD)::Y:=by rw [e];exact setU_mid (e ▸ hs.ids.nodup) _
     have hpt:Sl 102 1 ptC (lv.v) (s.txs)=Sl 102 1 ptC (lv.v) (X++({ t with x:=⟨t.x.at_,t.x.looked,t.x.own++[chgOf x],t.x.kv,⟨a7,m7,c7⟩⟩ }:TxU UInt32 RtD)::Y):=by rw [e];simp [Sl,ptC]
     rw [hpt]
     refine PO.cls (A:=Rts 106 110 127 (X++({ t with x:=⟨t.x.at_,t.x.looked,t.x.own++[chgOf x],t.x.kv,⟨a7,m7,c7⟩⟩ }:TxU UInt32 RtD)::Y)) (B:=[cl t.q 106 [.int .u32 t.id.toNat,.int .u32 t.x.at_.toNat,t.x.kv.v,.slice a7 m7 c7],Sl 110 2 SpanM.c (t.x.kv.v) (t.x.looked),Sl 127 3 ChgM.c (.slice a7 m7 c7) (t.x.own++[chgOf x]),Rts 106 110 127 (X++Y)]) (fun S h=>TxsU_in (t:=({ t with x:=⟨t.x.at_,t.x.looked,t.x.own++[chgOf x],t.x.kv,⟨a7,m7,c7⟩⟩ }:TxU UInt32 RtD)) S h) ?_
     have hK:=hK ⟨a7,m7,c7⟩
     rw [rPut,hset] at hK
     refine PO.cls (A:=Pas pb (s.H)) (B:=[cl pb 167 [rv.v,cv.v,.int .u32 0],B1,Sl 59 1 hvC (rv.v) (rl),Sl 91 1 hvC (cv.v) (cl_)]) (fun S h=>⟨⟨B1,rv,cv,rl,cl_,hrl,fun i v hv=>(hr i v hv).ge hG1,hcl,fun i v cs h1 h2=>(hc i v cs h1 h2).ge hG1⟩,h⟩) ?_
     refine PO.cls (A:=Rf p ({ s with txs:=X++({ t with x:=⟨t.x.at_,t.x.looked,t.x.own++[chgOf x],t.x.kv,⟨a7,m7,c7⟩⟩ }:TxU UInt32 RtD)::Y })) (B:=[cl p 99 [.pointer (some ⟨pb,0,none⟩),lv.v],Pas pb s.H,Sl 102 1 ptC (lv.v) (X++({ t with x:=⟨t.x.at_,t.x.looked,t.x.own++[chgOf x],t.x.kv,⟨a7,m7,c7⟩⟩ }:TxU UInt32 RtD)::Y),Rts 106 110 127 (X++({ t with x:=⟨t.x.at_,t.x.looked,t.x.own++[chgOf x],t.x.kv,⟨a7,m7,c7⟩⟩ }:TxU UInt32 RtD)::Y)]) (fun S h=>⟨⟨pb,lv⟩,h⟩) ?_
     exact PO.fin Tryz.results18 (rv_cellN a61 (rv_tmp rv_nil)) hK
end Go.SL
