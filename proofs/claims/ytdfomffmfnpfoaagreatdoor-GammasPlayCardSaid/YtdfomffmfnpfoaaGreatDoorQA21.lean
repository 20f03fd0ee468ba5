import Derived.Test.YtdfomffmfnpfoaaGreatDoorQA20
set_option linter.unusedSimpArgs false
set_option linter.unusedVariables false
namespace Go.SL.Fc
open Go Go.Proofs Go.SL
theorem a102:aggOf Tryz.prog 102=some none:=by kernel_rfl
theorem a107:aggOf Tryz.prog 107=some none:=by kernel_rfl
theorem f104_0:fldOf Tryz.prog 104 0=some 0:=by kernel_rfl
theorem f104_1:fldOf Tryz.prog 104 1=some 1:=by kernel_rfl
theorem f104_2:fldOf Tryz.prog 104 2=some 2:=by kernel_rfl
theorem f104_3:fldOf Tryz.prog 104 3=some 3:=by kernel_rfl
theorem f104_5:fldOf Tryz.prog 104 5=some 5:=by kernel_rfl
theorem f110_0:fldOf Tryz.prog 110 0=some 0:=by kernel_rfl
theorem f110_1:fldOf Tryz.prog 110 1=some 1:=by kernel_rfl
theorem f110_2:fldOf Tryz.prog 110 2=some 2:=by kernel_rfl
theorem k143:callable Tryz.prog 143=true:=by kernel_rfl
theorem k40:callable Tryz.prog 40=true:=by kernel_rfl
theorem k46:callable Tryz.prog 46=true:=by kernel_rfl
theorem k48:callable Tryz.prog 48=true:=by kernel_rfl
theorem k62:callable Tryz.prog 62=true:=by kernel_rfl
theorem p104:placesOf Tryz.prog 104=some [(0,1),(1,1),(2,1),(3,1),(4,1),(5,1)]:=by kernel_rfl
theorem p110:placesOf Tryz.prog 110=some [(0,1),(1,1),(2,1)]:=by kernel_rfl
theorem pt107:isPtr Tryz.prog 107=true:=by kernel_rfl
theorem s102:szOf Tryz.prog 102=some 1:=by kernel_rfl
theorem sl102:slOf Tryz.prog 102=some (107,1,8):=by kernel_rfl
theorem z104:zeroOf Tryz.prog 104=some [.slice none 0 0,.slice none 0 0,.int .u32 0,.int .u32 0,.slice none 0 0,.slice none 0 0]:=by kernel_rfl
theorem z107:zeroOf Tryz.prog 107=some [.pointer none]:=by kernel_rfl
theorem z110:zeroOf Tryz.prog 110=some [.int .u32 0,.int .u32 0,.slice none 0 0]:=by kernel_rfl
end Go.SL.Fc
namespace Go.SL
open Go Go.Proofs Fc
structure RfI (s:RefV) where
 A:HP
 u:SV
 w:SV
 lk:SV
 lv:SV
 hu:RL A 2 RowM.c u.v s.rows
 hw:RL A 2 RowM.c w.v s.nums
def Rf (p:Nat) (s:RefV):HP:=fun S=>∃ x:RfI s,stars [cl p 104 [x.u.v,x.w.v,.int .u32 s.last.toNat,.int .u32 s.kept.toNat,x.lk.v,x.lv.v],x.A,Sl 143 3 lokC (x.lk.v) (s.looks),Sl 107 1 ptC (x.lv.v) (s.txs),Rts 110 123 s.txs] S
theorem Rf_op {p:Nat} {s:RefV}:∀ S,Rf p s S→∃ x:RfI s,stars [cl p 104 [x.u.v,x.w.v,.int .u32 s.last.toNat,.int .u32 s.kept.toNat,x.lk.v,x.lv.v],x.A,Sl 143 3 lokC (x.lk.v) (s.looks),Sl 107 1 ptC (x.lv.v) (s.txs),Rts 110 123 s.txs] S:=fun S h=>h
theorem rNew_spec {g:World}:Spec Tryz.prog g 8 [] [] fun K R=>∀ p,K (.pointer (some ⟨p,0,none⟩)) (Rf p ref0::R):=by
 refine Spec.intro Tryz.func8 rfl Tryz.ntmps8 rfl fun R K hK=>?_
 refine WP.seq<|WP.reg<|WL.e e_assign<|WL.next<|WP.seq<|WP.reg<|WL.e (e_build z104 p104 (.z (.slice none 0 0)<|.z (.slice none 0 0)<|.z (.int .u32 0)<|.z (.int .u32 0)<|.z (.slice none 0 0)<|.z (.slice none 0 0)<|.n)) ?_
 refine WL.h (h_box fun b1=>?_)
 refine WL.e e_assign<|WL.next<|WP.ret<|PO.nils 143 3 lokC none ?_
 refine PO.nils 107 1 ptC none ?_
 refine PO.conv (M:=Rts 110 123 []::_) (fun S h=>TxsU_nil h) ?_
 refine PO.conv (M:=pu True::_) (fun S h=>pu_stars trivial h) ?_
 refine PO.cls (A:=Rf b1 ref0) (B:=[cl b1 104 [.slice none 0 0,.slice none 0 0,.int .u32 0,.int .u32 0,.slice none 0 0,.slice none 0 0],pu True,Sl 143 3 lokC (.slice none 0 0) [],Sl 107 1 ptC (.slice none 0 0) [],Rts 110 123 []]) (fun S h=>⟨⟨pu True,⟨none,0,0⟩,⟨none,0,0⟩,⟨none,0,0⟩,⟨none,0,0⟩,nil_rl,nil_rl⟩,h⟩) ?_
 exact PO.fin Tryz.results8 (rv_tmp rv_nil) (hK b1)
theorem rFindT_spec {g:World} {p:Nat} {s:RefV} (n:UInt32) (hn:s.txs.length≤1000):Spec Tryz.prog g 40 [.pointer (some ⟨p,0,none⟩),.int .u32 n.toNat] [Rf p s] fun K R=>K (.pointer ((findU s.txs n).map fun t=>⟨t.q,0,none⟩)) (Rf p s::R):=by
 refine Spec.intro Tryz.func40 rfl Tryz.ntmps40 rfl fun R K hK=>?_
 refine WP.seq<|WP.reg<|WL.e e_assign<|WL.next<|WP.seq<|WP.seq<|WP.reg<|WL.e e_assign<|WL.next<|WP.block<|WP.opn (Rf_op (p:=p) (s:=s)) fun x=>?_
 obtain ⟨A,u,w,lk,lv,hu,hw⟩:=x
 dsimp only
 refine WP.loopK (fun (i:Nat)=>[(5,.int .i64 i)]) (fun (i:Nat)=>cl p 104 [u.v,w.v,.int .u32 (s.last).toNat,.int .u32 (s.kept).toNat,lk.v,lv.v]::A::Sl 143 3 lokC (lk.v) (s.looks)::Sl 107 1 ptC (lv.v) (s.txs)::Rts 110 123 s.txs::R) [(0,_),(1,_)] (fun (i:Nat)=>i≤s.txs.length∧∀ t ∈ s.txs.take i,t.id≠n) (fun (i:Nat)=>s.txs.length - i) 0 (⟨Nat.zero_le _,by simp⟩) ?_
 rintro i ⟨hi,hb⟩
 refine WP.seq<|WP.seq<|WP.reg<|WL.e e_move<|WL.e e_move<|WL.e e_nil<|WL.e (e_fa f104_5)<|WL.e (e_load a102)<|WL.e (el_len (xs:=s.txs) sl102 sl_rl)<|WL.e e_lss<|WL.next ?_
 refine WP.cond rfl (fun h1=>?_) (fun h1=>?_)
 ·have hlt:i < s.txs.length:=by simp at h1;omega
  obtain ⟨t,hx⟩:∃ x,s.txs[i]?=some x:=⟨_,List.getElem?_eq_getElem hlt⟩
  refine WP.skip<|PO.next<|WP.seq<|WP.block<|WP.seq<|WP.reg<|WL.e e_move<|WL.e e_nil<|WL.e (e_fa f104_5)<|WL.e (e_load a102)<|WL.e e_move<|WL.e (el_ia (j:=i) (xs:=s.txs) sl102 sl_rl hlt)<|WL.e (el_load0 (j:=i) (xs:=s.txs) (a:=t) a107 ptE sl_rl hx)<|WL.e e_nil<|WL.e (e_fa f110_0)<|WL.e (e_load_rd (k:=0) a48 rfl (rt_rd (List.mem_of_getElem? hx)) rfl)<|WL.e e_move<|WL.e (e_eql32)<|WL.next ?_
  refine WP.cond rfl (fun h3=>?_) (fun h3=>?_)
  ·replace h3:t.id=n:=by simpa using h3
   refine WP.seq<|WP.reg<|WL.e e_move<|WL.e e_nil<|WL.e (e_fa f104_5)<|WL.e (e_load a102)<|WL.e e_move<|WL.e (el_ia (j:=i) (xs:=s.txs) sl102 sl_rl hlt)<|WL.e (el_load0 (j:=i) (xs:=s.txs) (a:=t) a107 ptE sl_rl hx)<|WL.e e_assign<|WL.next<|WP.ret<|PO.blockR<|PO.past nofun<|PO.round nofun<|PO.blockR<|PO.past nofun<|PO.cls (A:=Rf p (s)) (B:=[cl p 104 [u.v,w.v,.int .u32 (s.last).toNat,.int .u32 (s.kept).toNat,lk.v,lv.v],A,Sl 143 3 lokC (lk.v) (s.looks),Sl 107 1 ptC (lv.v) (s.txs),Rts 110 123 s.txs]) (fun S h=>⟨⟨A,u,w,lk,lv,hu,hw⟩,h⟩) ?_
   exact PO.finE Tryz.results40 (rv_tmp rv_nil) (by rw [find_at hb hx h3];rfl) hK
  ·replace h3:t.id≠n:=by simpa using h3
   refine WP.skip<|PO.blockN<|PO.next<|WP.reg<|WL.e e_move<|WL.e (e_add (c:=((i+1:Nat):Int)) rfl rfl (by rw [w_i64 (by omega) (by omega)];omega))<|WL.e e_assign<|WL.nil ?_
   exact PO.againK (i+1) ⟨by omega,ne_step hb hx h3⟩ (by omega)
 ·rw [List.take_of_length_le (show s.txs.length≤i by simp at h1;omega)] at hb
  refine WP.exit<|PO.past nofun<|PO.round nofun<|PO.blockX<|PO.next<|WP.seq<|WP.reg<|WL.e e_assign<|WL.next<|WP.ret<|PO.cls (A:=Rf p (s)) (B:=[cl p 104 [u.v,w.v,.int .u32 (s.last).toNat,.int .u32 (s.kept).toNat,lk.v,lv.v],A,Sl 143 3 lokC (lk.v) (s.looks),Sl 107 1 ptC (lv.v) (s.txs),Rts 110 123 s.txs]) (fun S h=>⟨⟨A,u,w,lk,lv,hu,hw⟩,h⟩) ?_
  exact PO.finE Tryz.results40 (rv_tmp rv_nil) (by rw [findR_no hb];rfl) hK
theorem rEnds_spec {g:World} {p:Nat} {s:RefV} {t0:TxU UInt32 RtD} (n:UInt32) (hf:findU s.txs n=some t0) (hnd:(s.txs.map (·.id)).Nodup) (hn:s.txs.length≤1000):Spec Tryz.prog g 48 [.pointer (some ⟨p,0,none⟩),.int .u32 n.toNat] [Rf p s] fun K R=>K (.tuple #[]) (Rf p (rEnds s n)::cl t0.q 110 [.int .u32 t0.id.toNat,.int .u32 t0.x.num.toNat,t0.x.sv.v]::R):=by
 refine Spec.intro Tryz.func48 rfl Tryz.ntmps48 rfl fun R K hK=>?_
 refine WP.seq<|WP.reg<|WL.e e_assign<|WL.next<|WP.seq<|WP.seq<|WP.reg<|WL.e e_assign<|WL.next<|WP.block<|WP.opn (Rf_op (p:=p) (s:=s)) fun x=>?_
 obtain ⟨A,u,w,lk,lv,hu,hw⟩:=x
 dsimp only
 refine WP.nils 107 1 ptC none ?_
 rw [show ([]:List (TxU UInt32 RtD))=((s.txs.take 0).filter fun o=>!decide (o.id=n)) from rfl]
 refine WP.loopK (fun (x:Nat × Value)=>[(5,.int .i64 x.1),(4,x.2)]) (fun (x:Nat × Value)=>Sl 107 1 ptC (x.2) ((s.txs.take x.1).filter fun o=>!decide (o.id=n))::cl p 104 [u.v,w.v,.int .u32 (s.last).toNat,.int .u32 (s.kept).toNat,lk.v,lv.v]::A::Sl 143 3 lokC (lk.v) (s.looks)::Sl 107 1 ptC (lv.v) (s.txs)::Rts 110 123 s.txs::R) [(0,_),(1,_)] (fun (x:Nat × Value)=>x.1≤s.txs.length) (fun (x:Nat × Value)=>s.txs.length - x.1) (0,.slice none 0 0) (Nat.zero_le _) ?_
 rintro ⟨i,v⟩ hi
 simp only at hi
 dsimp only
 have hfl:=List.length_filter_le (fun o:TxU UInt32 RtD=>!decide (o.id=n)) (s.txs.take i)
 rw [List.length_take] at hfl
 refine WP.seq<|WP.seq<|WP.reg<|WL.e e_move<|WL.e e_move<|WL.e e_nil<|WL.e (e_fa f104_5)<|WL.e (e_load a102)<|WL.e (el_len (xs:=s.txs) sl102 sl_rl)<|WL.e e_lss<|WL.next ?_
 refine WP.cond rfl (fun h1=>?_) (fun h1=>?_)
 ·have hlt:i < s.txs.length:=by simp at h1;omega
  obtain ⟨t,hx⟩:∃ x,s.txs[i]?=some x:=⟨_,List.getElem?_eq_getElem hlt⟩
  refine WP.skip<|PO.next<|WP.seq<|WP.block<|WP.seq<|WP.reg<|WL.e e_move<|WL.e e_nil<|WL.e (e_fa f104_5)<|WL.e (e_load a102)<|WL.e e_move<|WL.e (el_ia (j:=i) (xs:=s.txs) sl102 sl_rl hlt)<|WL.e (el_load0 (j:=i) (xs:=s.txs) (a:=t) a107 ptE sl_rl hx)<|WL.e e_nil<|WL.e (e_fa f110_0)<|WL.e (e_load_rd (k:=0) a48 rfl (rt_rd (List.mem_of_getElem? hx)) rfl)<|WL.e e_move<|WL.e (e_neq32)<|WL.next ?_
  refine WP.cond rfl (fun h3=>?_) (fun h3=>?_)
  ·replace h3:t.id≠n:=by simpa using h3
   refine WP.reg<|WL.e e_move<|WL.e e_move<|WL.e e_nil<|WL.e (e_fa f104_5)<|WL.e (e_load a102)<|WL.e e_move<|WL.e (el_ia (j:=i) (xs:=s.txs) sl102 sl_rl hlt)<|WL.e (el_load0 (j:=i) (xs:=s.txs) (a:=t) a107 ptE sl_rl hx) ?_
   refine WL.h (h_bs sl102 z107 (.o (.tmp 34) rfl<|.n) fun b1=>?_)
   refine WL.h (hl_append (xs:=(s.txs.take i).filter fun o=>!decide (o.id=n)) sl102 ptE z107 (lit_rl ptE [t] rfl) (by simp;omega) fun a9 m9 c9=>?_)
   refine WL.e e_assign<|WL.nil<|PO.blockN<|PO.next<|WP.reg<|WL.e e_move<|WL.e (e_add (c:=((i+1:Nat):Int)) rfl rfl (by rw [w_i64 (by omega) (by omega)];omega))<|WL.e e_assign<|WL.nil ?_
   rw [← filt_in hx h3]
   exact PO.againK (i+1,.slice a9 m9 c9) (by simp only;omega) (by simp only;omega)
  ·replace h3:t.id=n:=by simpa using h3
   refine WP.skip<|PO.blockN<|PO.next<|WP.reg<|WL.e e_move<|WL.e (e_add (c:=((i+1:Nat):Int)) rfl rfl (by rw [w_i64 (by omega) (by omega)];omega))<|WL.e e_assign<|WL.nil ?_
   rw [← filt_out hx h3]
   exact PO.againK (i+1,v) (by simp only;omega) (by simp only;omega)
 ·rw [List.take_of_length_le (show s.txs.length≤i by simp at h1;omega)]
  refine WP.sh (u:=v) ?_
  rintro a8 m8 c8 rfl
  refine WP.exit<|PO.past nofun<|PO.round nofun<|PO.blockX<|PO.next<|WP.reg<|WL.e e_move<|WL.e e_move<|WL.e e_nil<|WL.e (e_fa f104_5) ?_
  refine WL.h' (h_store s102 ?_)
  refine WL.nil ?_
  obtain ⟨hid,X,Y,e,_,_⟩:=findU_mid hf
  have hfil:s.txs.filter (fun o=>!decide (o.id=n))=X++Y:=by rw [e,← hid];exact filt_mid (e ▸ hnd)
  refine PO.opn (TxsU_out (TP:=RtP 110 123) e) fun _=>?_
  unfold rEnds at hK
  rw [hfil] at hK ⊢
  refine PO.cls (A:=Rf p ({ s with txs:=X++Y })) (B:=[cl p 104 [u.v,w.v,.int .u32 (s.last).toNat,.int .u32 (s.kept).toNat,lk.v,.slice a8 m8 c8],A,Sl 143 3 lokC (lk.v) (s.looks),Sl 107 1 ptC (.slice a8 m8 c8) (X++Y),Rts 110 123 (X++Y)]) (fun S h=>⟨⟨A,u,w,lk,⟨a8,m8,c8⟩,hu,hw⟩,h⟩) ?_
  exact PO.fin Tryz.results48 rv_nil hK
theorem rAgain_spec {g:World} {p:Nat} {s:RefV}:Spec Tryz.prog g 16 [.pointer (some ⟨p,0,none⟩)] [Rf p s] fun K R=>∀ p,K (.pointer (some ⟨p,0,none⟩)) (Rf p (rAgain s)::R):=by
 refine Spec.intro Tryz.func16 rfl Tryz.ntmps16 rfl fun R K hK=>?_
 refine WP.opn (Rf_op (p:=p) (s:=s)) fun x=>?_
 obtain ⟨A,u,w,lk,lv,hu,hw⟩:=x
 dsimp only
 refine WP.seq<|WP.reg<|WL.e e_assign<|WL.next<|WP.seq<|WP.draws mixedOk 19<|RW.e 0 rfl e_move<|RW.e 1 rfl e_nil<|RW.e 2 rfl (e_fa f104_0)<|RW.e 3 rfl (e_load a59)<|RW.e 4 rfl e_move<|RW.e 5 rfl e_nil<|RW.e 6 rfl (e_fa f104_1)<|RW.e 7 rfl (e_load a59)<|RW.e 8 rfl e_move<|RW.e 9 rfl e_nil<|RW.e 10 rfl (e_fa f104_3)<|RW.e 11 rfl (e_load a48)<|RW.e 12 rfl e_move<|RW.e 13 rfl e_nil<|RW.e 14 rfl (e_fa f104_3)<|RW.e 15 rfl (e_load a48)<|RW.e 16 rfl (e_build z104 p104 (.o (.tmp 6) rfl<|.o (.tmp 10) rfl<|.o (.tmp 14) rfl<|.o (.tmp 18) rfl<|.z (.slice none 0 0)<|.z (.slice none 0 0)<|.n)) ?_
 refine RW.any (is:=[17]) rfl ⟨?_,trivial⟩
 refine RWat.h rfl rfl rfl ?_
 refine (h_box fun b1=>?_)
 refine ⟨trivial,?_⟩
 refine RW.e 18 rfl e_assign<|RW.done<|PO.next<|WP.ret<|PO.nils 143 3 lokC none ?_
 refine PO.nils 107 1 ptC none ?_
 refine PO.conv (M:=Rts 110 123 []::_) (fun S h=>TxsU_nil h) ?_
 refine PO.cls (A:=Rf b1 (rAgain s)) (B:=[cl b1 104 [u.v,w.v,.int .u32 s.kept.toNat,.int .u32 s.kept.toNat,.slice none 0 0,.slice none 0 0],A,Sl 143 3 lokC (.slice none 0 0) [],Sl 107 1 ptC (.slice none 0 0) [],Rts 110 123 []]) (fun S h=>⟨⟨A,u,w,⟨none,0,0⟩,⟨none,0,0⟩,hu,hw⟩,h⟩) ?_
 exact PO.fin Tryz.results16 (rv_tmp rv_nil) (hK b1)
theorem rRows_spec {g:World} {p b:Nat} {s:RefV} (hs:RefOk s b):Spec Tryz.prog g 24 [.pointer (some ⟨p,0,none⟩)] [Rf p s] fun K R=>∀ a m c,K (.slice a m c) (Sl 78 2 RowM.c (.slice a m c) s.rows::Rf p s::R):=by
 have hbb:=hs.bb
 have htl:=hs.tl
 have hsum:=hs.sum
 have hnsum:=hs.nsum
 have hlk:=hs.looks
 refine Spec.intro Tryz.func24 rfl Tryz.ntmps24 rfl fun R K hK=>?_
 refine WP.opn (Rf_op (p:=p) (s:=s)) fun x=>?_
 obtain ⟨A,u,w,lk,lv,hu,hw⟩:=x
 dsimp only
 refine WP.seq<|WP.reg<|WL.e e_assign<|WL.next<|WP.seq<|WP.reg<|WL.e e_move<|WL.e e_nil<|WL.e (e_fa f104_0)<|WL.e (e_load a59)<|WL.nils 78 2 RowM.c none ?_
 refine WL.h (hl_append (xs:=([]:List RowM)) sl59 rowE z78 hu (by simp;omega) fun a9 m9 c9=>?_)
 rw [List.nil_append]
 refine WL.e e_assign<|WL.next<|WP.ret<|PO.cls (A:=Rf p (s)) (B:=[cl p 104 [u.v,w.v,.int .u32 (s.last).toNat,.int .u32 (s.kept).toNat,lk.v,lv.v],A,Sl 143 3 lokC (lk.v) (s.looks),Sl 107 1 ptC (lv.v) (s.txs),Rts 110 123 s.txs]) (fun S h=>⟨⟨A,u,w,lk,lv,hu,hw⟩,h⟩) ?_
 exact PO.fin Tryz.results24 (rv_tmp rv_nil) (hK a9 m9 c9)
theorem rOpen_spec {g:World} {p b:Nat} {s:RefV} (hs:RefOk s b):Spec Tryz.prog g 26 [.pointer (some ⟨p,0,none⟩)] [Rf p s] fun K R=>∀ a m c,K (.slice a m c) (Sl 48 1 u32C (.slice a m c) ((s.txs).map (·.id))::Rf p s::R):=by
 have hbb:=hs.bb
 have htl:=hs.tl
 have hsum:=hs.sum
 have hnsum:=hs.nsum
 have hlk:=hs.looks
 refine Spec.intro Tryz.func26 rfl Tryz.ntmps26 rfl fun R K hK=>?_
 refine WP.seq<|WP.reg<|WL.e e_assign<|WL.next<|WP.seq<|WP.reg<|WL.e e_assign<|WL.next<|WP.seq<|WP.seq<|WP.reg<|WL.e e_assign<|WL.next<|WP.block<|WP.opn (Rf_op (p:=p) (s:=s)) fun x=>?_
 obtain ⟨A,u,w,lk,lv,hu,hw⟩:=x
 dsimp only
 refine WP.nils 48 1 u32C none ?_
 rw [show ([]:List UInt32)=(s.txs.take 0).map (·.id) from rfl]
 refine WP.loopK (fun (x:Nat × Value)=>[(4,.int .i64 x.1),(3,x.2)]) (fun (x:Nat × Value)=>Sl 48 1 u32C (x.2) ((s.txs.take x.1).map (·.id))::cl p 104 [u.v,w.v,.int .u32 (s.last).toNat,.int .u32 (s.kept).toNat,lk.v,lv.v]::A::Sl 143 3 lokC (lk.v) (s.looks)::Sl 107 1 ptC (lv.v) (s.txs)::Rts 110 123 s.txs::R) [(0,_),(2,_)] (fun (x:Nat × Value)=>x.1≤s.txs.length) (fun (x:Nat × Value)=>s.txs.length - x.1) (0,.slice none 0 0) (Nat.zero_le _) ?_
 rintro ⟨i,v⟩ hi
 simp only at hi
 dsimp only
 refine WP.seq<|WP.seq<|WP.reg<|WL.e e_move<|WL.e e_move<|WL.e e_nil<|WL.e (e_fa f104_5)<|WL.e (e_load a102)<|WL.e (el_len (xs:=s.txs) sl102 sl_rl)<|WL.e e_lss<|WL.next ?_
 refine WP.cond rfl (fun h1=>?_) (fun h1=>?_)
 ·have hlt:i < s.txs.length:=by simp at h1;omega
  obtain ⟨t,hx⟩:∃ x,s.txs[i]?=some x:=⟨_,List.getElem?_eq_getElem hlt⟩
  refine WP.skip<|PO.next<|WP.seq<|WP.block<|WP.reg<|WL.e e_move<|WL.e e_move<|WL.e e_nil<|WL.e (e_fa f104_5)<|WL.e (e_load a102)<|WL.e e_move<|WL.e (el_ia (j:=i) (xs:=s.txs) sl102 sl_rl hlt)<|WL.e (el_load0 (j:=i) (xs:=s.txs) (a:=t) a107 ptE sl_rl hx)<|WL.e e_nil<|WL.e (e_fa f110_0)<|WL.e (e_load_rd (k:=0) a48 rfl (rt_rd (List.mem_of_getElem? hx)) rfl) ?_
  refine WL.h (h_bs sl67 z48 (.o (.tmp 24) rfl<|.n) fun b1=>?_)
  refine WL.h (hl_append (xs:=(s.txs.take i).map (·.id)) sl67 u32E z48 (lit_rl u32E [t.id] rfl) (by simp;omega) fun a9 m9 c9=>?_)
  refine WL.e e_assign<|WL.nil<|PO.blockN<|PO.next<|WP.reg<|WL.e e_move<|WL.e (e_add (c:=((i+1:Nat):Int)) rfl rfl (by rw [w_i64 (by omega) (by omega)];omega))<|WL.e e_assign<|WL.nil ?_
  rw [show (s.txs.take i).map (·.id)++[t.id]=(s.txs.take (i+1)).map (·.id) by rw [take_snoc hx];simp]
  exact PO.againK (i+1,.slice a9 m9 c9) (by simp only;omega) (by simp only;omega)
 ·rw [List.take_of_length_le (show s.txs.length≤i by simp at h1;omega)]
  refine WP.sh (u:=v) ?_
  rintro a8 m8 c8 rfl
  refine WP.exit<|PO.past nofun<|PO.round nofun<|PO.blockX<|PO.next<|WP.seq<|WP.reg<|WL.e e_move<|WL.e e_assign<|WL.next<|WP.ret<|PO.cls (A:=Rf p (s)) (B:=[cl p 104 [u.v,w.v,.int .u32 (s.last).toNat,.int .u32 (s.kept).toNat,lk.v,lv.v],A,Sl 143 3 lokC (lk.v) (s.looks),Sl 107 1 ptC (lv.v) (s.txs),Rts 110 123 s.txs]) (fun S h=>⟨⟨A,u,w,lk,lv,hu,hw⟩,h⟩) ?_
  exact PO.fin Tryz.results26 (rv_tmp rv_nil) (hK a8 m8 c8)
set_option maxHeartbeats 4000000 in
theorem rBegin_spec {g:World} {p b:Nat} {s:RefV} (n:UInt32) (hs:RefOk s b):Spec Tryz.prog g 10 [.pointer (some ⟨p,0,none⟩),.int .u32 n.toNat] [Rf p s] fun K R=>∀ q,K (.int .i64 (rBegE s n)) (Rf p (rBeg s n q)::R):=by
 have hbb:=hs.bb
 have htl:=hs.tl
 have hsum:=hs.sum
 have hnsum:=hs.nsum
 have hlk:=hs.looks
 refine Spec.intro Tryz.func10 rfl Tryz.ntmps10 rfl fun R K hK=>?_
 refine WP.seq<|WP.reg<|WL.e e_assign<|WL.next<|WP.seq<|WP.seq<|WP.reg<|WL.e e_move<|WL.e (e_eql32 (b:=0))<|WL.next ?_
 refine WP.cond rfl (fun c0=>?_) (fun c0=>?_)
 ·replace c0:n=0:=by simpa using c0
  have he:rBegE s n=1:=by rw [rBegE,if_pos c0]
  have hb:rBeg s n 0=s:=by rw [rBeg,he];rfl
  have hK:=hK 0
  rw [he,hb] at hK
  refine WP.seq<|WP.reg<|WL.e e_assign<|WL.next<|WP.ret<|PO.past nofun ?_
  exact PO.fin Tryz.results10 (rv_tmp rv_nil) hK
 ·replace c0:n≠0:=by simpa using c0
  refine WP.skip<|PO.next<|WP.seq<|WP.seq<|WP.reg<|WL.e e_move<|WL.e e_move ?_
  refine WL.h (h_call (rFindT_spec (s:=s) n (by omega)) k40 ?_)
  refine WL.e (e_pne pt107)<|WL.next ?_
  refine WP.cond rfl (fun c1=>?_) (fun c1=>?_)
  ·replace c1:(findU s.txs n).isSome=true:=by cases e:findU s.txs n with
    | none=>rw [e] at c1;cases c1
    | some t=>rfl
   have he:rBegE s n=7:=by rw [rBegE,if_neg c0,if_pos c1]
   have hb:rBeg s n 0=s:=by rw [rBeg,he];rfl
   have hK:=hK 0
   rw [he,hb] at hK
   refine WP.seq<|WP.reg<|WL.e e_assign<|WL.next<|WP.ret<|PO.past nofun ?_
   exact PO.fin Tryz.results10 (rv_tmp rv_nil) hK
  ·replace c1:¬ (findU s.txs n).isSome=true:=by cases e:findU s.txs n with
    | none=>simp
    | some t=>rw [e] at c1;cases c1
   refine WP.opn (Rf_op (p:=p) (s:=s)) fun x=>?_
   obtain ⟨A,u,w,lk,lv,hu,hw⟩:=x
   dsimp only
   refine WP.skip<|PO.next<|WP.seq<|WP.seq<|WP.reg<|WL.e e_move<|WL.e e_nil<|WL.e (e_fa f104_5)<|WL.e (e_load a102)<|WL.e (el_len (xs:=s.txs) sl102 sl_rl)<|WL.e e_geq<|WL.next ?_
   refine WP.cond rfl (fun c2=>?_) (fun c2=>?_)
   ·replace c2:32≤s.txs.length:=by simp at c2;omega
    have he:rBegE s n=5:=by rw [rBegE,if_neg c0,if_neg c1,if_pos c2]
    have hb:rBeg s n 0=s:=by rw [rBeg,he];rfl
    have hK:=hK 0
    rw [he,hb] at hK
    refine WP.seq<|WP.reg<|WL.e e_assign<|WL.next<|WP.ret<|PO.past nofun<|PO.cls (A:=Rf p (s)) (B:=[cl p 104 [u.v,w.v,.int .u32 (s.last).toNat,.int .u32 (s.kept).toNat,lk.v,lv.v],A,Sl 143 3 lokC (lk.v) (s.looks),Sl 107 1 ptC (lv.v) (s.txs),Rts 110 123 s.txs]) (fun S h=>⟨⟨A,u,w,lk,lv,hu,hw⟩,h⟩) ?_
    exact PO.fin Tryz.results10 (rv_tmp rv_nil) hK
   ·replace c2:¬ 32≤s.txs.length:=by simp at c2;omega
    have he:rBegE s n=0:=by rw [rBegE,if_neg c0,if_neg c1,if_neg c2]
    refine WP.skip<|PO.next<|WP.seq<|WP.reg<|WL.e e_assign<|WL.next<|WP.seq<|WP.block<|WP.loopK (fun (i:Nat)=>[(5,.int .i64 i)]) (fun (i:Nat)=>cl p 104 [u.v,w.v,.int .u32 (s.last).toNat,.int .u32 (s.kept).toNat,lk.v,lv.v]::A::Sl 143 3 lokC (lk.v) (s.looks)::Sl 107 1 ptC (lv.v) (s.txs)::Rts 110 123 s.txs::R) [(0,_),(1,_),(4,_)] (fun (i:Nat)=>i≤s.txs.length∧∀ t ∈ s.txs.take i,t.id < n) (fun (i:Nat)=>s.txs.length - i) 0 (⟨Nat.zero_le _,by simp⟩) ?_
    rintro i ⟨hi,hb⟩
    refine WP.seq<|WP.seq<|WP.reg<|WL.e e_move<|WL.e e_move<|WL.e e_nil<|WL.e (e_fa f104_5)<|WL.e (e_load a102)<|WL.e (el_len (xs:=s.txs) sl102 sl_rl)<|WL.e e_lss<|WL.e e_move ?_
    refine WL.join 38 (.bool (ltAt s.txs i n)) (.c (.c (.c (.c (.c (.c (.c (.c (.c (.c (.c (.c (.c .n))))))))))))) ?_ ?_
    ·refine WL.bool 25 rfl (fun hg=>?_) (fun hg=>?_)
     ·skip
      refine WL.e e_move<|WL.e e_nil<|WL.e (e_fa f104_5)<|WL.e (e_load a102)<|WL.e e_move<|WL.e (el_ia (j:=i) (xs:=s.txs) sl102 sl_rl (by simpa using hg)) ?_
      refine WL.e (el_load0 (j:=i) (xs:=s.txs) (a:=s.txs[i]'(by simpa using hg)) a107 ptE sl_rl (List.getElem?_eq_getElem _))<|WL.e e_nil<|WL.e (e_fa f110_0)<|WL.e (e_load_rd (k:=0) a48 rfl (rt_rd (List.getElem_mem _)) rfl)<|WL.e e_move<|WL.e (e_lss32)<|WL.e e_pick_t ?_
      exact WL.nil (PO.joined rfl (by rw [ltAt_lt (by simpa using hg)]))
     ·skip
      refine WL.skip<|WL.skip<|WL.skip<|WL.skip<|WL.skip<|WL.skip<|WL.skip<|WL.skip<|WL.skip<|WL.skip<|WL.skip<|WL.skip<|WL.e e_pick_f ?_
      exact WL.nil (PO.joined rfl (by rw [ltAt_ge (by simpa using hg)]))
    refine WL.next ?_
    refine WP.cond rfl (fun h4=>?_) (fun h4=>?_)
    ·obtain ⟨t,hx,hlt⟩:=ltAt_some h4
     refine WP.skip<|PO.next<|WP.block<|WP.reg<|WL.e e_move<|WL.e (e_add (c:=((i+1:Nat):Int)) rfl rfl (by have:=idx_lt hx;rw [w_i64 (by omega) (by omega)];omega))<|WL.e e_assign<|WL.nil<|PO.blockN ?_
     exact PO.againK (i+1) ⟨by have:=idx_lt hx;omega,ne_step (p:=fun t=>t.id < n) hb hx hlt⟩ (by have:=idx_lt hx;omega)
    ·obtain ⟨ht1,ht2⟩:=tw_at hb h4
     refine WP.nils 107 1 ptC none ?_
     refine WP.exit<|PO.past nofun<|PO.round nofun<|PO.blockX<|PO.next<|WP.seq<|WP.reg<|WL.e e_move<|WL.e e_nil<|WL.e (e_fa f104_2)<|WL.e (e_load a48)<|WL.e (e_add32 (b:=1))<|WL.e e_nil<|WL.e (e_fa f104_2) ?_
     refine WL.h' (h_store s48 ?_)
     refine WL.next<|WP.seq<|WP.draws mixedOk 27<|RW.e 0 rfl e_move<|RW.e 1 rfl e_move<|RW.e 2 rfl e_nil<|RW.e 3 rfl (e_fa f104_5)<|RW.e 4 rfl (e_load a102)<|RW.e 5 rfl e_move<|RW.e 6 rfl (el_to (hi:=i) (xs:=s.txs) sl102 sl_rl hi)<|RW.e 8 rfl e_move<|RW.e 9 rfl e_move<|RW.e 10 rfl e_nil<|RW.e 11 rfl (e_fa f104_2)<|RW.e 12 rfl (e_load a48)<|RW.e 13 rfl (e_build z110 p110 (.o (.tmp 56) rfl<|.o (.tmp 60) rfl<|.z (.slice none 0 0)<|.n))<|RW.e 17 rfl e_move<|RW.e 18 rfl e_nil<|RW.e 19 rfl (e_fa f104_5)<|RW.e 20 rfl (e_load a102)<|RW.e 21 rfl e_move<|RW.e 22 rfl (el_from (lo:=i) (xs:=s.txs) sl102 sl_rl hi) ?_
     refine RW.any (is:=[7,14]) rfl ⟨?_,?_,trivial⟩
     ·skip
      refine RWat.h rfl rfl rfl ?_
      refine (hl_append (xs:=([]:List (TxU UInt32 RtD))) sl102 ptE z107 (RL.to_ (xs:=s.txs) (hi:=i) ptE (sl_rl (E:=107)) hi) (by simp;omega) fun a1 m1 c1=>?_)
      rw [List.nil_append]
      refine ⟨⟨⟨_,rfl,.inl ⟨rfl,(el_from (lo:=i) (xs:=s.txs) sl102 sl_rl hi)⟩⟩,⟨_,rfl,.inl ⟨rfl,e_move⟩⟩,⟨_,rfl,.inl ⟨rfl,(e_load a102)⟩⟩,⟨_,rfl,.inl ⟨rfl,(e_fa f104_5)⟩⟩,⟨_,rfl,.inl ⟨rfl,e_nil⟩⟩,⟨_,rfl,.inl ⟨rfl,e_move⟩⟩,⟨_,rfl,.inl ⟨rfl,(e_build z110 p110 (.o (.tmp 56) rfl<|.o (.tmp 60) rfl<|.z (.slice none 0 0)<|.n))⟩⟩,⟨_,rfl,.inl ⟨rfl,(e_load a48)⟩⟩,⟨_,rfl,.inl ⟨rfl,(e_fa f104_2)⟩⟩,⟨_,rfl,.inl ⟨rfl,e_nil⟩⟩,⟨_,rfl,.inl ⟨rfl,e_move⟩⟩,⟨_,rfl,.inl ⟨rfl,e_move⟩⟩,⟨_,rfl,.inl ⟨rfl,e_move⟩⟩,trivial⟩,?_⟩
      refine RW.any (is:=[14]) rfl ⟨?_,trivial⟩
      refine RWat.h rfl rfl rfl ?_
      refine (h_box fun b1=>?_)
      refine ⟨⟨⟨_,rfl,.inl ⟨rfl,(el_from (lo:=i) (xs:=s.txs) sl102 sl_rl hi)⟩⟩,⟨_,rfl,.inl ⟨rfl,e_move⟩⟩,⟨_,rfl,.inl ⟨rfl,(e_load a102)⟩⟩,⟨_,rfl,.inl ⟨rfl,(e_fa f104_5)⟩⟩,⟨_,rfl,.inl ⟨rfl,e_nil⟩⟩,⟨_,rfl,.inl ⟨rfl,e_move⟩⟩,⟨_,rfl,.inl ⟨rfl,e_move⟩⟩,trivial⟩,?_⟩
      refine RW.any (is:=[15]) rfl ⟨?_,trivial⟩
      refine RWat.h rfl rfl rfl ?_
      refine (h_bs sl102 z107 (.o (.tmp 62) rfl<|.n) fun b2=>?_)
      refine ⟨⟨⟨_,rfl,.inl ⟨rfl,(el_from (lo:=i) (xs:=s.txs) sl102 sl_rl hi)⟩⟩,⟨_,rfl,.inl ⟨rfl,e_move⟩⟩,⟨_,rfl,.inl ⟨rfl,(e_load a102)⟩⟩,⟨_,rfl,.inl ⟨rfl,(e_fa f104_5)⟩⟩,⟨_,rfl,.inl ⟨rfl,e_nil⟩⟩,⟨_,rfl,.inl ⟨rfl,e_move⟩⟩,⟨_,rfl,.inl ⟨rfl,e_move⟩⟩,trivial⟩,?_⟩
      refine RW.any (is:=[16]) rfl ⟨?_,trivial⟩
      refine RWat.h rfl rfl rfl ?_
      refine (hl_append (xs:=s.txs.take i) sl102 ptE z107 (lit_rl ptE [(⟨n,b1,⟨s.last+1,[],⟨none,0,0⟩⟩⟩:TxU UInt32 RtD)] rfl) (by simp;omega) fun a2 m2 c2=>?_)
      refine ⟨⟨⟨_,rfl,.inl ⟨rfl,(el_from (lo:=i) (xs:=s.txs) sl102 sl_rl hi)⟩⟩,⟨_,rfl,.inl ⟨rfl,e_move⟩⟩,⟨_,rfl,.inl ⟨rfl,(e_load a102)⟩⟩,⟨_,rfl,.inl ⟨rfl,(e_fa f104_5)⟩⟩,⟨_,rfl,.inl ⟨rfl,e_nil⟩⟩,⟨_,rfl,.inl ⟨rfl,e_move⟩⟩,⟨_,rfl,.inl ⟨rfl,e_move⟩⟩,trivial⟩,?_⟩
      refine RW.any (is:=[23]) rfl ⟨?_,trivial⟩
      refine RWat.h rfl rfl rfl ?_
      refine (hl_append (xs:=s.txs.take i++[(⟨n,b1,⟨s.last+1,[],⟨none,0,0⟩⟩⟩:TxU UInt32 RtD)]) sl102 ptE z107 (RL.from_ (xs:=s.txs) (lo:=i) ptE (sl_rl (E:=107)) hi) (by simp;omega) fun a3 m3 c3=>?_)
      refine ⟨⟨⟨_,rfl,.inl ⟨rfl,e_move⟩⟩,trivial⟩,?_⟩
      refine RW.e 24 rfl e_nil<|RW.e 25 rfl (e_fa f104_5) ?_
      refine RW.any (is:=[26]) rfl ⟨?_,trivial⟩
      refine RWat.h' rfl rfl rfl ?_
      refine (h_store s102 ?_)
      refine ⟨trivial,?_⟩
      refine RW.done<|PO.next<|WP.seq<|WP.reg<|WL.e e_assign<|WL.next<|WP.ret ?_
      have hbeg:rBeg s n b1={ s with last:=s.last+1,txs:=s.txs.take i++[(⟨n,b1,⟨s.last+1,[],⟨none,0,0⟩⟩⟩:TxU UInt32 RtD)]++s.txs.drop i }:=by rw [rBeg,if_pos he];simp only [rIns,ht1,ht2]
      have hK:=hK b1
      rw [he,hbeg] at hK
      refine PO.nils 123 3 ChgM.c none ?_
      refine PO.cls (A:=Rts 110 123 (s.txs.take i++[(⟨n,b1,⟨s.last+1,[],⟨none,0,0⟩⟩⟩:TxU UInt32 RtD)]++s.txs.drop i)) (B:=[cl b1 110 [.int .u32 n.toNat,.int .u32 (s.last+1).toNat,.slice none 0 0],Sl 123 3 ChgM.c (.slice none 0 0) [],Rts 110 123 s.txs]) (fun S h=>Rts_add (t:=(⟨n,b1,⟨s.last+1,[],⟨none,0,0⟩⟩⟩:TxU UInt32 RtD)) S (by rw [List.take_append_drop];exact h)) ?_
      refine PO.cls (A:=Rf p ({ s with last:=s.last+1,txs:=s.txs.take i++[(⟨n,b1,⟨s.last+1,[],⟨none,0,0⟩⟩⟩:TxU UInt32 RtD)]++s.txs.drop i })) (B:=[cl p 104 [u.v,w.v,.int .u32 (s.last+1).toNat,.int .u32 (s.kept).toNat,lk.v,.slice a3 m3 c3],A,Sl 143 3 lokC (lk.v) (s.looks),Sl 107 1 ptC (.slice a3 m3 c3) (s.txs.take i++[(⟨n,b1,⟨s.last+1,[],⟨none,0,0⟩⟩⟩:TxU UInt32 RtD)]++s.txs.drop i),Rts 110 123 (s.txs.take i++[(⟨n,b1,⟨s.last+1,[],⟨none,0,0⟩⟩⟩:TxU UInt32 RtD)]++s.txs.drop i)]) (fun S h=>⟨⟨A,u,w,lk,⟨a3,m3,c3⟩,hu,hw⟩,h⟩) ?_
      exact PO.fin Tryz.results10 (rv_tmp rv_nil) hK
     ·skip
      refine RWat.h rfl rfl rfl ?_
      refine (h_box fun b3=>?_)
      refine ⟨⟨⟨_,rfl,.inl ⟨rfl,(el_from (lo:=i) (xs:=s.txs) sl102 sl_rl hi)⟩⟩,⟨_,rfl,.inl ⟨rfl,e_move⟩⟩,⟨_,rfl,.inl ⟨rfl,(e_load a102)⟩⟩,⟨_,rfl,.inl ⟨rfl,(e_fa f104_5)⟩⟩,⟨_,rfl,.inl ⟨rfl,e_nil⟩⟩,⟨_,rfl,.inl ⟨rfl,e_move⟩⟩,⟨_,rfl,.inl ⟨rfl,(el_to (hi:=i) (xs:=s.txs) sl102 sl_rl hi)⟩⟩,⟨_,rfl,.inl ⟨rfl,e_move⟩⟩,⟨_,rfl,.inl ⟨rfl,(e_load a102)⟩⟩,⟨_,rfl,.inl ⟨rfl,(e_fa f104_5)⟩⟩,⟨_,rfl,.inl ⟨rfl,e_nil⟩⟩,⟨_,rfl,.inl ⟨rfl,e_move⟩⟩,⟨_,rfl,.inl ⟨rfl,e_move⟩⟩,trivial⟩,?_⟩
      refine RW.any (is:=[7,15]) rfl ⟨?_,?_,trivial⟩
      ·skip
       refine RWat.h rfl rfl rfl ?_
       refine (hl_append (xs:=([]:List (TxU UInt32 RtD))) sl102 ptE z107 (RL.to_ (xs:=s.txs) (hi:=i) ptE (sl_rl (E:=107)) hi) (by simp;omega) fun a1 m1 c1=>?_)
       rw [List.nil_append]
       refine ⟨⟨⟨_,rfl,.inl ⟨rfl,(el_from (lo:=i) (xs:=s.txs) sl102 sl_rl hi)⟩⟩,⟨_,rfl,.inl ⟨rfl,e_move⟩⟩,⟨_,rfl,.inl ⟨rfl,(e_load a102)⟩⟩,⟨_,rfl,.inl ⟨rfl,(e_fa f104_5)⟩⟩,⟨_,rfl,.inl ⟨rfl,e_nil⟩⟩,⟨_,rfl,.inl ⟨rfl,e_move⟩⟩,⟨_,rfl,.inl ⟨rfl,e_move⟩⟩,trivial⟩,?_⟩
       refine RW.any (is:=[15]) rfl ⟨?_,trivial⟩
       refine RWat.h rfl rfl rfl ?_
       refine (h_bs sl102 z107 (.o (.tmp 62) rfl<|.n) fun b4=>?_)
       refine ⟨⟨⟨_,rfl,.inl ⟨rfl,(el_from (lo:=i) (xs:=s.txs) sl102 sl_rl hi)⟩⟩,⟨_,rfl,.inl ⟨rfl,e_move⟩⟩,⟨_,rfl,.inl ⟨rfl,(e_load a102)⟩⟩,⟨_,rfl,.inl ⟨rfl,(e_fa f104_5)⟩⟩,⟨_,rfl,.inl ⟨rfl,e_nil⟩⟩,⟨_,rfl,.inl ⟨rfl,e_move⟩⟩,⟨_,rfl,.inl ⟨rfl,e_move⟩⟩,trivial⟩,?_⟩
       refine RW.any (is:=[16]) rfl ⟨?_,trivial⟩
       refine RWat.h rfl rfl rfl ?_
       refine (hl_append (xs:=s.txs.take i) sl102 ptE z107 (lit_rl ptE [(⟨n,b3,⟨s.last+1,[],⟨none,0,0⟩⟩⟩:TxU UInt32 RtD)] rfl) (by simp;omega) fun a2 m2 c2=>?_)
       refine ⟨⟨⟨_,rfl,.inl ⟨rfl,(el_from (lo:=i) (xs:=s.txs) sl102 sl_rl hi)⟩⟩,⟨_,rfl,.inl ⟨rfl,e_move⟩⟩,⟨_,rfl,.inl ⟨rfl,(e_load a102)⟩⟩,⟨_,rfl,.inl ⟨rfl,(e_fa f104_5)⟩⟩,⟨_,rfl,.inl ⟨rfl,e_nil⟩⟩,⟨_,rfl,.inl ⟨rfl,e_move⟩⟩,⟨_,rfl,.inl ⟨rfl,e_move⟩⟩,trivial⟩,?_⟩
       refine RW.any (is:=[23]) rfl ⟨?_,trivial⟩
       refine RWat.h rfl rfl rfl ?_
       refine (hl_append (xs:=s.txs.take i++[(⟨n,b3,⟨s.last+1,[],⟨none,0,0⟩⟩⟩:TxU UInt32 RtD)]) sl102 ptE z107 (RL.from_ (xs:=s.txs) (lo:=i) ptE (sl_rl (E:=107)) hi) (by simp;omega) fun a3 m3 c3=>?_)
       refine ⟨⟨⟨_,rfl,.inl ⟨rfl,e_move⟩⟩,trivial⟩,?_⟩
       refine RW.e 24 rfl e_nil<|RW.e 25 rfl (e_fa f104_5) ?_
       refine RW.any (is:=[26]) rfl ⟨?_,trivial⟩
       refine RWat.h' rfl rfl rfl ?_
       refine (h_store s102 ?_)
       refine ⟨trivial,?_⟩
       refine RW.done<|PO.next<|WP.seq<|WP.reg<|WL.e e_assign<|WL.next<|WP.ret ?_
       have hbeg:rBeg s n b3={ s with last:=s.last+1,txs:=s.txs.take i++[(⟨n,b3,⟨s.last+1,[],⟨none,0,0⟩⟩⟩:TxU UInt32 RtD)]++s.txs.drop i }:=by rw [rBeg,if_pos he];simp only [rIns,ht1,ht2]
       have hK:=hK b3
       rw [he,hbeg] at hK
       refine PO.nils 123 3 ChgM.c none ?_
       refine PO.cls (A:=Rts 110 123 (s.txs.take i++[(⟨n,b3,⟨s.last+1,[],⟨none,0,0⟩⟩⟩:TxU UInt32 RtD)]++s.txs.drop i)) (B:=[cl b3 110 [.int .u32 n.toNat,.int .u32 (s.last+1).toNat,.slice none 0 0],Sl 123 3 ChgM.c (.slice none 0 0) [],Rts 110 123 s.txs]) (fun S h=>Rts_add (t:=(⟨n,b3,⟨s.last+1,[],⟨none,0,0⟩⟩⟩:TxU UInt32 RtD)) S (by rw [List.take_append_drop];exact h)) ?_
       refine PO.cls (A:=Rf p ({ s with last:=s.last+1,txs:=s.txs.take i++[(⟨n,b3,⟨s.last+1,[],⟨none,0,0⟩⟩⟩:TxU UInt32 RtD)]++s.txs.drop i })) (B:=[cl p 104 [u.v,w.v,.int .u32 (s.last+1).toNat,.int .u32 (s.kept).toNat,lk.v,.slice a3 m3 c3],A,Sl 143 3 lokC (lk.v) (s.looks),Sl 107 1 ptC (.slice a3 m3 c3) (s.txs.take i++[(⟨n,b3,⟨s.last+1,[],⟨none,0,0⟩⟩⟩:TxU UInt32 RtD)]++s.txs.drop i),Rts 110 123 (s.txs.take i++[(⟨n,b3,⟨s.last+1,[],⟨none,0,0⟩⟩⟩:TxU UInt32 RtD)]++s.txs.drop i)]) (fun S h=>⟨⟨A,u,w,lk,⟨a3,m3,c3⟩,hu,hw⟩,h⟩) ?_
       exact PO.fin Tryz.results10 (rv_tmp rv_nil) hK
      ·skip
       refine RWat.h rfl rfl rfl ?_
       refine (h_bs sl102 z107 (.o (.tmp 62) rfl<|.n) fun b5=>?_)
       refine ⟨⟨⟨_,rfl,.inl ⟨rfl,(el_from (lo:=i) (xs:=s.txs) sl102 sl_rl hi)⟩⟩,⟨_,rfl,.inl ⟨rfl,e_move⟩⟩,⟨_,rfl,.inl ⟨rfl,(e_load a102)⟩⟩,⟨_,rfl,.inl ⟨rfl,(e_fa f104_5)⟩⟩,⟨_,rfl,.inl ⟨rfl,e_nil⟩⟩,⟨_,rfl,.inl ⟨rfl,e_move⟩⟩,⟨_,rfl,.inl ⟨rfl,(el_to (hi:=i) (xs:=s.txs) sl102 sl_rl hi)⟩⟩,⟨_,rfl,.inl ⟨rfl,e_move⟩⟩,⟨_,rfl,.inl ⟨rfl,(e_load a102)⟩⟩,⟨_,rfl,.inl ⟨rfl,(e_fa f104_5)⟩⟩,⟨_,rfl,.inl ⟨rfl,e_nil⟩⟩,⟨_,rfl,.inl ⟨rfl,e_move⟩⟩,⟨_,rfl,.inl ⟨rfl,e_move⟩⟩,trivial⟩,?_⟩
       refine RW.any (is:=[7]) rfl ⟨?_,trivial⟩
       refine RWat.h rfl rfl rfl ?_
       refine (hl_append (xs:=([]:List (TxU UInt32 RtD))) sl102 ptE z107 (RL.to_ (xs:=s.txs) (hi:=i) ptE (sl_rl (E:=107)) hi) (by simp;omega) fun a1 m1 c1=>?_)
       rw [List.nil_append]
       refine ⟨⟨⟨_,rfl,.inl ⟨rfl,(el_from (lo:=i) (xs:=s.txs) sl102 sl_rl hi)⟩⟩,⟨_,rfl,.inl ⟨rfl,e_move⟩⟩,⟨_,rfl,.inl ⟨rfl,(e_load a102)⟩⟩,⟨_,rfl,.inl ⟨rfl,(e_fa f104_5)⟩⟩,⟨_,rfl,.inl ⟨rfl,e_nil⟩⟩,⟨_,rfl,.inl ⟨rfl,e_move⟩⟩,⟨_,rfl,.inl ⟨rfl,e_move⟩⟩,trivial⟩,?_⟩
       refine RW.any (is:=[16]) rfl ⟨?_,trivial⟩
       refine RWat.h rfl rfl rfl ?_
       refine (hl_append (xs:=s.txs.take i) sl102 ptE z107 (lit_rl ptE [(⟨n,b3,⟨s.last+1,[],⟨none,0,0⟩⟩⟩:TxU UInt32 RtD)] rfl) (by simp;omega) fun a2 m2 c2=>?_)
       refine ⟨⟨⟨_,rfl,.inl ⟨rfl,(el_from (lo:=i) (xs:=s.txs) sl102 sl_rl hi)⟩⟩,⟨_,rfl,.inl ⟨rfl,e_move⟩⟩,⟨_,rfl,.inl ⟨rfl,(e_load a102)⟩⟩,⟨_,rfl,.inl ⟨rfl,(e_fa f104_5)⟩⟩,⟨_,rfl,.inl ⟨rfl,e_nil⟩⟩,⟨_,rfl,.inl ⟨rfl,e_move⟩⟩,⟨_,rfl,.inl ⟨rfl,e_move⟩⟩,trivial⟩,?_⟩
       refine RW.any (is:=[23]) rfl ⟨?_,trivial⟩
       refine RWat.h rfl rfl rfl ?_
       refine (hl_append (xs:=s.txs.take i++[(⟨n,b3,⟨s.last+1,[],⟨none,0,0⟩⟩⟩:TxU UInt32 RtD)]) sl102 ptE z107 (RL.from_ (xs:=s.txs) (lo:=i) ptE (sl_rl (E:=107)) hi) (by simp;omega) fun a3 m3 c3=>?_)
       refine ⟨⟨⟨_,rfl,.inl ⟨rfl,e_move⟩⟩,trivial⟩,?_⟩
       refine RW.e 24 rfl e_nil<|RW.e 25 rfl (e_fa f104_5) ?_
       refine RW.any (is:=[26]) rfl ⟨?_,trivial⟩
       refine RWat.h' rfl rfl rfl ?_
       refine (h_store s102 ?_)
       refine ⟨trivial,?_⟩
       refine RW.done<|PO.next<|WP.seq<|WP.reg<|WL.e e_assign<|WL.next<|WP.ret ?_
       have hbeg:rBeg s n b3={ s with last:=s.last+1,txs:=s.txs.take i++[(⟨n,b3,⟨s.last+1,[],⟨none,0,0⟩⟩⟩:TxU UInt32 RtD)]++s.txs.drop i }:=by rw [rBeg,if_pos he];simp only [rIns,ht1,ht2]
       have hK:=hK b3
       rw [he,hbeg] at hK
       refine PO.nils 123 3 ChgM.c none ?_
       refine PO.cls (A:=Rts 110 123 (s.txs.take i++[(⟨n,b3,⟨s.last+1,[],⟨none,0,0⟩⟩⟩:TxU UInt32 RtD)]++s.txs.drop i)) (B:=[cl b3 110 [.int .u32 n.toNat,.int .u32 (s.last+1).toNat,.slice none 0 0],Sl 123 3 ChgM.c (.slice none 0 0) [],Rts 110 123 s.txs]) (fun S h=>Rts_add (t:=(⟨n,b3,⟨s.last+1,[],⟨none,0,0⟩⟩⟩:TxU UInt32 RtD)) S (by rw [List.take_append_drop];exact h)) ?_
       refine PO.cls (A:=Rf p ({ s with last:=s.last+1,txs:=s.txs.take i++[(⟨n,b3,⟨s.last+1,[],⟨none,0,0⟩⟩⟩:TxU UInt32 RtD)]++s.txs.drop i })) (B:=[cl p 104 [u.v,w.v,.int .u32 (s.last+1).toNat,.int .u32 (s.kept).toNat,lk.v,.slice a3 m3 c3],A,Sl 143 3 lokC (lk.v) (s.looks),Sl 107 1 ptC (.slice a3 m3 c3) (s.txs.take i++[(⟨n,b3,⟨s.last+1,[],⟨none,0,0⟩⟩⟩:TxU UInt32 RtD)]++s.txs.drop i),Rts 110 123 (s.txs.take i++[(⟨n,b3,⟨s.last+1,[],⟨none,0,0⟩⟩⟩:TxU UInt32 RtD)]++s.txs.drop i)]) (fun S h=>⟨⟨A,u,w,lk,⟨a3,m3,c3⟩,hu,hw⟩,h⟩) ?_
       exact PO.fin Tryz.results10 (rv_tmp rv_nil) hK
theorem rAbort_spec {g:World} {p b:Nat} {s:RefV} (n:UInt32) (hs:RefOk s b):Spec Tryz.prog g 14 [.pointer (some ⟨p,0,none⟩),.int .u32 n.toNat] [Rf p s] fun K R=>K (.int .i64 (if (findU s.txs n).isSome then 0 else 6)) (Rf p (rAbo s n)::R):=by
 have hbb:=hs.bb
 have htl:=hs.tl
 have hsum:=hs.sum
 have hnsum:=hs.nsum
 have hlk:=hs.looks
 refine Spec.intro Tryz.func14 rfl Tryz.ntmps14 rfl fun R K hK=>?_
 refine WP.seq<|WP.reg<|WL.e e_assign<|WL.next<|WP.seq<|WP.seq<|WP.reg<|WL.e e_move<|WL.e e_move ?_
 refine WL.h (h_call (rFindT_spec (s:=s) n (by omega)) k40 ?_)
 refine WL.e (e_peq pt107)<|WL.next ?_
 refine WP.cond rfl (fun h2=>?_) (fun h2=>?_)
 ·have hf:findU s.txs n=none:=by cases e:findU s.txs n with
   | none=>rfl
   | some t=>rw [e] at h2;cases h2
  rw [rAbo,hf] at hK
  refine WP.seq<|WP.reg<|WL.e e_assign<|WL.next<|WP.ret<|PO.past nofun ?_
  exact PO.fin Tryz.results14 (rv_tmp rv_nil) hK
 ·obtain ⟨t,hf⟩:∃ t,findU s.txs n=some t:=by cases e:findU s.txs n with
   | none=>rw [e] at h2;cases h2
   | some t=>exact ⟨t,rfl⟩
  rw [hf,Option.map_some]
  have ht:=findU_mem hf
  have hol:=hs.own_le ht
  rw [rAbo,hf] at hK
  refine WP.skip<|PO.next<|WP.seq<|WP.reg<|WL.e e_move<|WL.e e_move ?_
  refine WL.h (h_call (rEnds_spec (s:=s) n hf hs.ids.nodup (by omega)) k48 ?_)
  refine WL.next<|WP.seq<|WP.reg<|WL.e e_assign<|WL.next<|WP.ret ?_
  exact PO.fin Tryz.results14 (rv_tmp rv_nil) hK
theorem rLate_spec {g:World} {p b:Nat} {s:RefV} (num:UInt32) (sp:SpanM) (hs:RefOk s b) (hb:sp.b.size≤1000):Spec Tryz.prog g 61 [.pointer (some ⟨p,0,none⟩),.int .u32 num.toNat,sp.v] [Rf p s] fun K R=>K (.bool (rLate s num sp)) (Rf p s::R):=by
 have hbb:=hs.bb
 have htl:=hs.tl
 have hsum:=hs.sum
 have hnsum:=hs.nsum
 have hlk:=hs.looks
 refine Spec.intro Tryz.func61 rfl Tryz.ntmps61 rfl fun R K hK=>?_
 refine WP.opn (Rf_op (p:=p) (s:=s)) fun x=>?_
 obtain ⟨A,u,w,lk,lv,hu,hw⟩:=x
 dsimp only
 refine WP.seq<|WP.reg ?_
 refine WL.h (h_box fun b1=>?_)
 refine WL.e e_assign<|WL.next<|WP.seq<|WP.draws mixedOk 12<|RW.e 0 rfl e_move<|RW.e 1 rfl e_nil<|RW.e 2 rfl (e_fa f104_1)<|RW.e 3 rfl (e_load a59)<|RW.e 4 rfl (e_loadN a132)<|RW.e 5 rfl e_move<|RW.e 6 rfl e_nil<|RW.e 7 rfl (e_fa f104_1)<|RW.e 8 rfl (e_load a59)<|RW.e 9 rfl (el_len (xs:=s.nums) sl59 hw) ?_
 refine RW.any (is:=[10]) rfl ⟨?_,trivial⟩
 refine RWat.h rfl rfl rfl ?_
 refine (h_call (rScan_spec sp s.nums.length hw (by omega) hs.knums hb) k143 ?_)
 intro a1 m1 c1
 have hsl:=scan_len (l:=s.nums) (s:=sp) (most:=s.nums.length)
 generalize hl:scanR s.nums sp s.nums.length=l at hsl ⊢
 refine ⟨trivial,?_⟩
 refine RW.e 11 rfl e_assign<|RW.done<|PO.next<|WP.seq<|WP.seq<|WP.reg<|WL.e e_assign<|WL.next<|WP.block<|WP.loopK (fun (i:Nat)=>[(8,.int .i64 i)]) (fun (i:Nat)=>Sl 78 2 RowM.c (.slice a1 m1 c1) l::cl p 104 [u.v,w.v,.int .u32 (s.last).toNat,.int .u32 (s.kept).toNat,lk.v,lv.v]::A::Sl 143 3 lokC (lk.v) (s.looks)::Sl 107 1 ptC (lv.v) (s.txs)::Rts 110 123 s.txs::R) [(1,_),(7,_)] (fun (i:Nat)=>i≤l.length∧(l.take i).any (fun r=>decide (num < r.val))=false) (fun (i:Nat)=>l.length - i) 0 (⟨Nat.zero_le _,rfl⟩) ?_
 rintro i ⟨hi,hb2⟩
 refine WP.seq<|WP.seq<|WP.reg<|WL.e e_move<|WL.e e_move<|WL.e (el_len (xs:=l) sl59 sl_rl)<|WL.e e_lss<|WL.next ?_
 refine WP.cond rfl (fun h1=>?_) (fun h1=>?_)
 ·have hlt:i < l.length:=by simp at h1;omega
  obtain ⟨x,hx⟩:∃ x,l[i]?=some x:=⟨_,List.getElem?_eq_getElem hlt⟩
  refine WP.skip<|PO.next<|WP.seq<|WP.block<|WP.seq<|WP.reg<|WL.e e_move<|WL.e e_move<|WL.e (el_ia (j:=i) (xs:=l) sl59 sl_rl hlt)<|WL.e (el_fa (z:=2) (j:=i) (xs:=l) f78_1 sl_rl hlt)<|WL.e (el_load (f:=1) (j:=i) (xs:=l) (a:=x) a48 rowE sl_rl hx)<|WL.e e_move<|WL.e (e_gtr32)<|WL.next ?_
  refine WP.cond rfl (fun h3=>?_) (fun h3=>?_)
  ·skip
   refine WP.seq<|WP.reg<|WL.e e_assign<|WL.next<|WP.ret<|PO.blockR<|PO.past nofun<|PO.round nofun<|PO.blockR<|PO.past nofun<|PO.cls (A:=Rf p (s)) (B:=[cl p 104 [u.v,w.v,.int .u32 (s.last).toNat,.int .u32 (s.kept).toNat,lk.v,lv.v],A,Sl 143 3 lokC (lk.v) (s.looks),Sl 107 1 ptC (lv.v) (s.txs),Rts 110 123 s.txs]) (fun S h=>⟨⟨A,u,w,lk,lv,hu,hw⟩,h⟩) ?_
   exact PO.finE Tryz.results61 (rv_tmp rv_nil) (by rw [rLate,hl,List.any_eq_true.2 ⟨x,List.mem_of_getElem? hx,h3⟩];rfl) hK
  ·skip
   refine WP.skip<|PO.blockN<|PO.next<|WP.reg<|WL.e e_move<|WL.e (e_add (c:=((i+1:Nat):Int)) rfl rfl (by rw [w_i64 (by omega) (by omega)];omega))<|WL.e e_assign<|WL.nil ?_
   exact PO.againK (i+1) ⟨by omega,by rw [take_snoc hx,List.any_append,hb2];simpa using h3⟩ (by omega)
 ·rw [List.take_of_length_le (show l.length≤i by simp at h1;omega)] at hb2
  refine WP.exit<|PO.past nofun<|PO.round nofun<|PO.blockX<|PO.next<|WP.seq<|WP.reg<|WL.e e_assign<|WL.next<|WP.ret<|PO.cls (A:=Rf p (s)) (B:=[cl p 104 [u.v,w.v,.int .u32 (s.last).toNat,.int .u32 (s.kept).toNat,lk.v,lv.v],A,Sl 143 3 lokC (lk.v) (s.looks),Sl 107 1 ptC (lv.v) (s.txs),Rts 110 123 s.txs]) (fun S h=>⟨⟨A,u,w,lk,lv,hu,hw⟩,h⟩) ?_
  exact PO.finE Tryz.results61 (rv_tmp rv_nil) (by rw [rLate,hl,hb2];rfl) hK
theorem rUnder_spec {g:World} {ts:List (TxU UInt32 RtD)} {t:TxU UInt32 RtD} (ht:t ∈ ts) (sp:SpanM) (hn:t.x.own.length≤1000000000) (hk:∀ c ∈ t.x.own,c.key.size≤1000) (hsp:sp.a.size≤1000∧sp.b.size≤1000):Spec Tryz.prog g 63 [.pointer (some ⟨t.q,0,none⟩),sp.v] [Rts 110 123 ts] fun K R=>K (.bool (rUnder t sp)) (Rts 110 123 ts::R):=by
 refine Spec.intro Tryz.func63 rfl Tryz.ntmps63 rfl fun R K hK=>?_
 refine WP.seq<|WP.reg ?_
 refine WL.h (h_box fun b1=>?_)
 refine WL.e e_assign<|WL.next<|WP.seq<|WP.seq<|WP.reg<|WL.e e_assign<|WL.next<|WP.block<|WP.loopK (fun (i:Nat)=>[(5,.int .i64 i)]) (fun (i:Nat)=>Rts 110 123 ts::cl b1 132 (SpanM.c sp)::R) [(0,_),(3,_)] (fun (i:Nat)=>i≤t.x.own.length∧(t.x.own.take i).any (fun c=>meet (one c.key) sp)=false) (fun (i:Nat)=>t.x.own.length - i) 0 (⟨Nat.zero_le _,rfl⟩) ?_
 rintro i ⟨hi,hb2⟩
 refine WP.seq<|WP.seq<|WP.reg<|WL.e e_move<|WL.e e_move<|WL.e e_nil<|WL.e (e_fa f110_2)<|WL.e (e_load_rd (k:=2) a96 rfl (rt_rd (T:=110) (E:=123) ht) rfl)<|WL.e (el_len (xs:=t.x.own) sl96 (own_rl (T:=110) (E:=123) ht))<|WL.e e_lss<|WL.next ?_
 refine WP.cond rfl (fun h1=>?_) (fun h1=>?_)
 ·have hlt:i < t.x.own.length:=by simp at h1;omega
  obtain ⟨x,hx⟩:∃ x,t.x.own[i]?=some x:=⟨_,List.getElem?_eq_getElem hlt⟩
  have hkx:=hk x (List.mem_of_getElem? hx)
  refine WP.skip<|PO.next<|WP.seq<|WP.block<|WP.seq<|WP.draws mixedOk 19<|RW.e 0 rfl e_move<|RW.e 1 rfl e_nil<|RW.e 2 rfl (e_fa f110_2)<|RW.e 3 rfl (e_load_rd (k:=2) a96 rfl (rt_rd (T:=110) (E:=123) ht) rfl)<|RW.e 4 rfl e_move<|RW.e 5 rfl (el_ia (j:=i) (xs:=t.x.own) sl96 (own_rl (T:=110) (E:=123) ht) hlt)<|RW.e 6 rfl (el_fa (j:=i) (xs:=t.x.own) f123_0 (own_rl (T:=110) (E:=123) ht) hlt)<|RW.e 7 rfl (el_load0 (j:=i) (xs:=t.x.own) (a:=x) a9 chgE (own_rl (T:=110) (E:=123) ht) hx)<|RW.e 8 rfl e_move<|RW.e 9 rfl e_nil<|RW.e 10 rfl (e_fa f110_2)<|RW.e 11 rfl (e_load_rd (k:=2) a96 rfl (rt_rd (T:=110) (E:=123) ht) rfl)<|RW.e 12 rfl e_move<|RW.e 13 rfl (el_ia (j:=i) (xs:=t.x.own) sl96 (own_rl (T:=110) (E:=123) ht) hlt)<|RW.e 14 rfl (el_fa (j:=i) (xs:=t.x.own) f123_0 (own_rl (T:=110) (E:=123) ht) hlt)<|RW.e 15 rfl (el_load0 (j:=i) (xs:=t.x.own) (a:=x) a9 chgE (own_rl (T:=110) (E:=123) ht) hx)<|RW.e 16 rfl (e_build z132 p132 (.o (.tmp 22) rfl<|.o (.tmp 30) rfl<|.n))<|RW.e 17 rfl (e_loadN a132) ?_
  refine RW.any (is:=[18]) rfl ⟨?_,trivial⟩
  refine RWat.h rfl rfl rfl ?_
  refine (h_call (rMeet_spec (one x.key) sp ⟨hkx,hkx⟩ hsp) k62 ?_)
  refine ⟨trivial,?_⟩
  refine RW.done<|PO.next ?_
  refine WP.cond rfl (fun h3=>?_) (fun h3=>?_)
  ·skip
   refine WP.seq<|WP.reg<|WL.e e_assign<|WL.next<|WP.ret<|PO.blockR<|PO.past nofun<|PO.round nofun<|PO.blockR<|PO.past nofun ?_
   exact PO.finE Tryz.results63 (rv_tmp rv_nil) (by rw [rUnder,List.any_eq_true.2 ⟨x,List.mem_of_getElem? hx,h3⟩];rfl) hK
  ·skip
   refine WP.skip<|PO.blockN<|PO.next<|WP.reg<|WL.e e_move<|WL.e (e_add (c:=((i+1:Nat):Int)) rfl rfl (by rw [w_i64 (by omega) (by omega)];omega))<|WL.e e_assign<|WL.nil ?_
   exact PO.againK (i+1) ⟨by omega,by rw [take_snoc hx,List.any_append,hb2];simpa using h3⟩ (by omega)
 ·rw [List.take_of_length_le (show t.x.own.length≤i by simp at h1;omega)] at hb2
  refine WP.exit<|PO.past nofun<|PO.round nofun<|PO.blockX<|PO.next<|WP.seq<|WP.reg<|WL.e e_assign<|WL.next<|WP.ret ?_
  exact PO.finE Tryz.results63 (rv_tmp rv_nil) (by rw [rUnder,hb2];rfl) hK
set_option maxHeartbeats 1000000 in
theorem rCommit_spec {g:World} {p b:Nat} {s:RefV} (n:UInt32) (hs:RefOk s b):Spec Tryz.prog g 12 [.pointer (some ⟨p,0,none⟩),.int .u32 n.toNat] [Rf p s] fun K R=>K (.tuple #[.int .u32 (rComN s n).toNat,.int .i64 (rComE s n)]) (Rf p (rCom s n)::R):=by
 have hbb:=hs.bb
 have htl:=hs.tl
 have hsum:=hs.sum
 have hnsum:=hs.nsum
 have hlk:=hs.looks
 refine Spec.intro Tryz.func12 rfl Tryz.ntmps12 rfl fun R K hK=>?_
 refine WP.seq<|WP.reg<|WL.e e_assign<|WL.e e_assign<|WL.next<|WP.seq<|WP.reg<|WL.e e_move<|WL.e e_move ?_
 refine WL.h (h_call (rFindT_spec (s:=s) n (by omega)) k40 ?_)
 refine WL.e e_assign<|WL.next<|WP.seq<|WP.seq<|WP.reg<|WL.e e_move<|WL.e (e_peq pt107)<|WL.next ?_
 refine WP.cond rfl (fun h2=>?_) (fun h2=>?_)
 ·have hf:findU s.txs n=none:=by cases e:findU s.txs n with
   | none=>rfl
   | some t=>rw [e] at h2;cases h2
  rw [rCom,rComN,rComE,hf] at hK
  refine WP.seq<|WP.reg<|WL.e e_assign<|WL.e e_assign<|WL.next<|WP.ret<|PO.past nofun ?_
  exact PO.fin Tryz.results12 (rv_tmp (rv_tmp rv_nil)) hK
 ·obtain ⟨t,hf⟩:∃ t,findU s.txs n=some t:=by cases e:findU s.txs n with
   | none=>rw [e] at h2;cases h2
   | some t=>exact ⟨t,rfl⟩
  rw [hf,Option.map_some]
  have ht:=findU_mem hf
  have hol:=hs.own_le ht
  rw [rCom,rComN,rComE,hf] at hK
  dsimp only at hK
  rw [Option.isSome_some,if_pos rfl] at hK
  refine WP.opn (Rf_op (p:=p) (s:=s)) fun x=>?_
  obtain ⟨A,u,w,lk,lv,hu,hw⟩:=x
  dsimp only
  refine WP.skip<|PO.next<|WP.seq<|WP.draws mixedOk 13<|RW.e 0 rfl e_move<|RW.e 1 rfl e_move<|RW.e 2 rfl e_nil<|RW.e 3 rfl (e_fa f104_0)<|RW.e 4 rfl (e_load a59)<|RW.e 5 rfl e_move<|RW.e 6 rfl e_nil<|RW.e 7 rfl (e_fa f110_2)<|RW.e 8 rfl (e_load_rd (k:=2) a96 rfl (rt_rd (T:=110) (E:=123) ht) rfl) ?_
  refine RW.any (is:=[9]) rfl ⟨?_,trivial⟩
  refine RWat.h rfl rfl rfl ?_
  refine (h_call (rOwn_spec hu (own_rl (T:=110) (E:=123) ht) (by omega)) k46 ?_)
  intro a1 m1 c1 B1 hG1 hR1
  refine ⟨⟨⟨_,rfl,.inl ⟨rfl,e_move⟩⟩,trivial⟩,?_⟩
  refine RW.e 10 rfl e_nil<|RW.e 11 rfl (e_fa f104_0) ?_
  refine RW.any (is:=[12]) rfl ⟨?_,trivial⟩
  refine RWat.h' rfl rfl rfl ?_
  refine (h_store s59 ?_)
  refine ⟨trivial,?_⟩
  refine RW.done<|PO.next<|WP.seq<|WP.seq<|WP.reg<|WL.e e_assign<|WL.next<|WP.block<|WP.loopK (fun (x:HP × SV × Nat)=>[(7,.int .i64 x.2.2)]) (fun (x:HP × SV × Nat)=>cl p 104 [.slice a1 m1 c1,x.2.1.v,.int .u32 (s.last).toNat,.int .u32 (s.kept).toNat,lk.v,lv.v]::x.1::Sl 143 3 lokC (lk.v) (s.looks)::Sl 107 1 ptC (lv.v) (s.txs)::Rts 110 123 s.txs::R) [(0,_),(1,_),(4,_),(5,_),(6,_)] (fun (x:HP × SV × Nat)=>Ge B1 x.1∧RL x.1 2 RowM.c x.2.1.v (rKept s.nums t.x.num (t.x.own.take x.2.2))∧x.2.2≤t.x.own.length) (fun (x:HP × SV × Nat)=>t.x.own.length - x.2.2) (B1,w,0) (⟨Ge.refl B1,hw.ge hG1,Nat.zero_le _⟩) ?_
  rintro ⟨B2,w2,i⟩ ⟨hG2,hR2,hi⟩
  simp only at hG2 hR2 hi
  dsimp only
  have hl2:=rKept_len t.x.num (t.x.own.take i) s.nums
  rw [List.length_take] at hl2
  refine WP.seq<|WP.seq<|WP.reg<|WL.e e_move<|WL.e e_move<|WL.e e_nil<|WL.e (e_fa f110_2)<|WL.e (e_load_rd (k:=2) a96 rfl (rt_rd (T:=110) (E:=123) ht) rfl)<|WL.e (el_len (xs:=t.x.own) sl96 (own_rl (T:=110) (E:=123) ht))<|WL.e e_lss<|WL.next ?_
  refine WP.cond rfl (fun h1=>?_) (fun h1=>?_)
  ·have hlt:i < t.x.own.length:=by simp at h1;omega
   obtain ⟨x,hx⟩:∃ x,t.x.own[i]?=some x:=⟨_,List.getElem?_eq_getElem hlt⟩
   refine WP.skip<|PO.next<|WP.seq<|WP.block<|WP.draws mixedOk 21<|RW.e 0 rfl e_move<|RW.e 1 rfl e_move<|RW.e 2 rfl e_nil<|RW.e 3 rfl (e_fa f104_1)<|RW.e 4 rfl (e_load a59)<|RW.e 5 rfl e_move<|RW.e 6 rfl e_nil<|RW.e 7 rfl (e_fa f110_2)<|RW.e 8 rfl (e_load_rd (k:=2) a96 rfl (rt_rd (T:=110) (E:=123) ht) rfl)<|RW.e 9 rfl e_move<|RW.e 10 rfl (el_ia (j:=i) (xs:=t.x.own) sl96 (own_rl (T:=110) (E:=123) ht) hlt)<|RW.e 11 rfl (el_fa (j:=i) (xs:=t.x.own) f123_0 (own_rl (T:=110) (E:=123) ht) hlt)<|RW.e 12 rfl (el_load0 (j:=i) (xs:=t.x.own) (a:=x) a9 chgE (own_rl (T:=110) (E:=123) ht) hx)<|RW.e 13 rfl e_move<|RW.e 14 rfl e_nil<|RW.e 15 rfl (e_fa f110_1)<|RW.e 16 rfl (e_load_rd (k:=1) a48 rfl (rt_rd (T:=110) (E:=123) ht) rfl) ?_
   refine RW.any (is:=[17]) rfl ⟨?_,trivial⟩
   refine RWat.h rfl rfl rfl ?_
   refine (h_call (rPut_spec x.key t.x.num hR2 (by omega)) k47 ?_)
   intro a3 m3 c3 B3 hG3 hR3
   refine ⟨⟨⟨_,rfl,.inl ⟨rfl,e_move⟩⟩,trivial⟩,?_⟩
   refine RW.e 18 rfl e_nil<|RW.e 19 rfl (e_fa f104_1) ?_
   refine RW.any (is:=[20]) rfl ⟨?_,trivial⟩
   refine RWat.h' rfl rfl rfl ?_
   refine (h_store s59 ?_)
   refine ⟨trivial,?_⟩
   refine RW.done<|PO.blockN<|PO.next<|WP.reg<|WL.e e_move<|WL.e (e_add (c:=((i+1:Nat):Int)) rfl rfl (by rw [w_i64 (by omega) (by omega)];omega))<|WL.e e_assign<|WL.nil ?_
   exact PO.againK (B3,⟨a3,m3,c3⟩,i+1) ⟨hG2.trans hG3,by simp only;rw [take_snoc hx,rKept_snoc];exact hR3,by simp only;omega⟩ (by simp only;omega)
  ·rw [List.take_of_length_le (show t.x.own.length≤i by simp at h1;omega)] at hR2
   refine WP.exit<|PO.past nofun<|PO.round nofun<|PO.blockX<|PO.next<|WP.seq<|WP.draws mixedOk 13<|RW.e 0 rfl e_move<|RW.e 1 rfl e_move<|RW.e 2 rfl e_nil<|RW.e 3 rfl (e_fa f104_3)<|RW.e 4 rfl (e_load a48)<|RW.e 5 rfl e_move<|RW.e 6 rfl e_nil<|RW.e 7 rfl (e_fa f110_1)<|RW.e 8 rfl (e_load_rd (k:=1) a48 rfl (rt_rd (T:=110) (E:=123) ht) rfl)<|RW.e 9 rfl e_max32<|RW.e 10 rfl e_nil<|RW.e 11 rfl (e_fa f104_3) ?_
   refine RW.any (is:=[12]) rfl ⟨?_,trivial⟩
   refine RWat.h' rfl rfl rfl ?_
   refine (h_store s48 ?_)
   refine ⟨trivial,?_⟩
   refine RW.done<|PO.next<|WP.seq<|WP.reg<|WL.e e_move<|WL.e e_move<|WL.cls (A:=Rf p ({ s with rows:=changeR s.rows t.x.own,nums:=rKept s.nums t.x.num t.x.own,kept:=if s.kept < t.x.num then t.x.num else s.kept })) (B:=[cl p 104 [.slice a1 m1 c1,w2.v,.int .u32 (s.last).toNat,.int .u32 ((if s.kept < t.x.num then t.x.num else s.kept)).toNat,lk.v,lv.v],B2,Sl 143 3 lokC (lk.v) (s.looks),Sl 107 1 ptC (lv.v) (s.txs),Rts 110 123 s.txs]) (fun S h=>⟨⟨B2,⟨a1,m1,c1⟩,w2,lk,lv,hR1.ge hG2,hR2⟩,h⟩) ?_
   refine WL.h (h_call (rEnds_spec (s:={ s with rows:=changeR s.rows t.x.own,nums:=rKept s.nums t.x.num t.x.own,kept:=if s.kept < t.x.num then t.x.num else s.kept }) n (t0:=t) hf hs.ids.nodup (by show s.txs.length≤1000;omega)) k48 ?_)
   refine WL.next<|WP.seq<|WP.reg<|WL.e e_move<|WL.e e_nil<|WL.e (e_fa f110_1)<|WL.e (e_load a48)<|WL.e e_assign<|WL.e e_assign<|WL.next<|WP.ret ?_
   exact PO.fin Tryz.results12 (rv_tmp (rv_tmp rv_nil)) hK
def rRes (l:List RowM) (x:OpM):List RowM:=if x.kind=1 then scanR l (one x.key) 1 else if x.kind=4 then scanR l (spanOf x) 256 else []
def rChs (x:OpM):List ChgM:=if writes x then [chgOf x] else []
theorem rDoes_spec {g:World} {A:HP} {u:Value} {l:List RowM} (x:OpM) (hA:RL A 2 RowM.c u l) (hn:l.length≤2000000000) (hk:kSz l) (hx:opOk x=true):Spec Tryz.prog g 64 [u,x.v] [A] fun K R=>∀ a m c a2 m2 c2,(writes x=true→a=none∧m=0∧c=0)→K (.tuple #[.agg #[.slice a m c],.slice a2 m2 c2]) (Sl 78 2 RowM.c (.slice a m c) (rRes l x)::Sl 123 3 ChgM.c (.slice a2 m2 c2) (rChs x)::A::R):=by
 refine Spec.intro Tryz.func64 rfl Tryz.ntmps64 rfl fun R K hK=>?_
 refine WP.seq<|WP.reg ?_
 refine WL.h (h_box fun b1=>?_)
 refine WL.h (h_alloc z61 fun b2=>?_)
 refine WL.e e_assign<|WL.next<|WP.seq<|WP.seq<|WP.reg<|WL.e (e_fa f51_0)<|WL.e (e_load a49)<|WL.next<|WP.block<|WP.seq<|WP.reg<|WL.e (e_eql8 (b:=1))<|WL.e e_assign<|WL.next ?_
 refine WP.cond rfl (fun h1=>?_) (fun h1=>?_)
 ·replace h1:x.kind=1:=by simpa using h1
  have e1:rRes l x=scanR l (one x.key) 1:=by rw [rRes,if_pos h1]
  have e2:rChs x=[]:=by rw [rChs,if_neg (by simp [writes,h1])]
  rw [e1,e2] at hK
  refine WP.seq<|WP.reg<|WL.e e_move<|WL.e (e_fa f51_1)<|WL.e (e_load a9)<|WL.e (e_fa f51_1)<|WL.e (e_load a9)<|WL.e (e_build z132 p132 (.o (.tmp 12) rfl<|.o (.tmp 14) rfl<|.n)) ?_
  refine WL.h (h_call (rScan_spec (one x.key) 1 hA (by omega) hk (opOk_sz hx).1) k143 ?_)
  intro a9 m9 c9
  refine WL.e (e_build z61 p61 (.o (.tmp 16) rfl<|.n)) ?_
  refine WL.h' (h_store s61 ?_)
  refine WL.e e_assign<|WL.next<|WP.ret<|PO.blockR<|PO.past nofun<|PO.nils 123 3 ChgM.c none ?_
  exact PO.fin Tryz.results64 (rv_cellN a61 (rv_tmp rv_nil)) (hK a9 m9 c9 none 0 0 (fun h=>absurd h (by simp [writes,h1])))
 ·replace h1:x.kind≠1:=by simpa using h1
  refine WP.seq<|WP.reg<|WL.e (e_eql8 (b:=4))<|WL.e e_assign<|WL.next ?_
  refine WP.cond rfl (fun h4=>?_) (fun h4=>?_)
  ·replace h4:x.kind=4:=by simpa using h4
   have hsp:spanOf x=⟨x.key,x.to⟩:=by simp [spanOf,h4]
   have hsz:=opOk_sz hx
   rw [hsp] at hsz
   have e1:rRes l x=scanR l ⟨x.key,x.to⟩ 256:=by rw [rRes,if_neg h1,if_pos h4,hsp]
   have e2:rChs x=[]:=by rw [rChs,if_neg (by simp [writes,h4])]
   rw [e1,e2] at hK
   refine WP.seq<|WP.reg<|WL.e e_move<|WL.e (e_fa f51_1)<|WL.e (e_load a9)<|WL.e (e_fa f51_2)<|WL.e (e_load a9)<|WL.e (e_build z132 p132 (.o (.tmp 22) rfl<|.o (.tmp 24) rfl<|.n)) ?_
   refine WL.h (h_call (rScan_spec ⟨x.key,x.to⟩ 256 hA (by omega) hk hsz.2) k143 ?_)
   intro a9 m9 c9
   refine WL.e (e_build z61 p61 (.o (.tmp 26) rfl<|.n)) ?_
   refine WL.h' (h_store s61 ?_)
   refine WL.e e_assign<|WL.next<|WP.ret<|PO.blockR<|PO.past nofun<|PO.nils 123 3 ChgM.c none ?_
   exact PO.fin Tryz.results64 (rv_cellN a61 (rv_tmp rv_nil)) (hK a9 m9 c9 none 0 0 (fun h=>absurd h (by simp [writes,h4])))
  ·replace h4:x.kind≠4:=by simpa using h4
   have e1:rRes l x=[]:=by rw [rRes,if_neg h1,if_neg h4]
   rw [e1] at hK
   refine WP.seq<|WP.reg<|WL.e (e_eql8 (b:=2))<|WL.e e_assign<|WL.next ?_
   refine WP.cond rfl (fun h2=>?_) (fun h2=>?_)
   ·replace h2:x.kind=2:=by simpa using h2
    have e2:rChs x=[⟨x.key,x.val,false⟩]:=by rw [rChs,if_pos (by simp [writes,h2]),chgOf,if_pos h2]
    rw [e2] at hK
    refine WP.seq<|WP.draws mixedOk 9<|RW.e 0 rfl (e_build z61 p61 (.z (.slice none 0 0)<|.n))<|RW.e 1 rfl (e_fa f51_1)<|RW.e 2 rfl (e_load a9)<|RW.e 3 rfl (e_fa f51_3)<|RW.e 4 rfl (e_load a48)<|RW.e 5 rfl (e_build z123 p123 (.o (.tmp 32) rfl<|.o (.tmp 34) rfl<|.z (.bool false)<|.n)) ?_
    refine RW.any (is:=[6,7]) rfl ⟨?_,?_,trivial⟩
    ·skip
     refine RWat.h rfl rfl rfl ?_
     refine (h_bs sl96 z123 (.a3 (.tmp 35) rfl<|.n) fun b3=>?_)
     refine ⟨⟨⟨_,rfl,.inl ⟨rfl,(e_build z61 p61 (.z (.slice none 0 0)<|.n))⟩⟩,trivial⟩,?_⟩
     refine RW.any (is:=[7]) rfl ⟨?_,trivial⟩
     refine RWat.h' rfl rfl rfl ?_
     refine (h_store s61 ?_)
     refine ⟨trivial,?_⟩
     refine RW.e 8 rfl e_assign<|RW.done<|PO.next<|WP.ret<|PO.blockR<|PO.past nofun<|PO.nils 78 2 RowM.c none ?_
     refine PO.cls (A:=Sl 123 3 ChgM.c (.slice (some ⟨b3,0,none⟩) 1 1) ([(⟨x.key,x.val,false⟩:ChgM)])) (B:=[cl b3 123 (ChgM.c ((⟨x.key,x.val,false⟩:ChgM)))]) (fun S ⟨S1,_,_,l1,_,h,_⟩=>own_up (lit_own chgE [(⟨x.key,x.val,false⟩:ChgM)] rfl rfl (by simp) S1 h) l1) ?_
     exact PO.fin Tryz.results64 (rv_cellN a61 (rv_tmp rv_nil)) (hK none 0 0 _ 1 1 (fun _=>⟨rfl,rfl,rfl⟩))
    ·skip
     refine RWat.h' rfl rfl rfl ?_
     refine (h_store s61 ?_)
     refine ⟨⟨⟨_,rfl,.inl ⟨rfl,(e_build z123 p123 (.o (.tmp 32) rfl<|.o (.tmp 34) rfl<|.z (.bool false)<|.n))⟩⟩,⟨_,rfl,.inl ⟨rfl,(e_load a48)⟩⟩,⟨_,rfl,.inl ⟨rfl,(e_fa f51_3)⟩⟩,⟨_,rfl,.inl ⟨rfl,(e_load a9)⟩⟩,⟨_,rfl,.inl ⟨rfl,(e_fa f51_1)⟩⟩,trivial⟩,?_⟩
     refine RW.any (is:=[6]) rfl ⟨?_,trivial⟩
     refine RWat.h rfl rfl rfl ?_
     refine (h_bs sl96 z123 (.a3 (.tmp 35) rfl<|.n) fun b4=>?_)
     refine ⟨trivial,?_⟩
     refine RW.e 8 rfl e_assign<|RW.done<|PO.next<|WP.ret<|PO.blockR<|PO.past nofun<|PO.nils 78 2 RowM.c none ?_
     refine PO.cls (A:=Sl 123 3 ChgM.c (.slice (some ⟨b4,0,none⟩) 1 1) ([(⟨x.key,x.val,false⟩:ChgM)])) (B:=[cl b4 123 (ChgM.c ((⟨x.key,x.val,false⟩:ChgM)))]) (fun S ⟨S1,_,_,l1,_,h,_⟩=>own_up (lit_own chgE [(⟨x.key,x.val,false⟩:ChgM)] rfl rfl (by simp) S1 h) l1) ?_
     exact PO.fin Tryz.results64 (rv_cellN a61 (rv_tmp rv_nil)) (hK none 0 0 _ 1 1 (fun _=>⟨rfl,rfl,rfl⟩))
   ·replace h2:x.kind≠2:=by simpa using h2
    have h3:x.kind=3:=by
     have:=opOk_none (x:=x) h1 h2
     by_cases h3:x.kind=3
     ·exact h3
     ·rw [this h3 h4] at hx;cases hx
    have e2:rChs x=[⟨x.key,0,true⟩]:=by rw [rChs,if_pos (by simp [writes,h3]),chgOf,if_neg h2]
    rw [e2] at hK
    refine WP.skip<|PO.blockN<|PO.next<|WP.seq<|WP.draws mixedOk 7<|RW.e 0 rfl (e_build z61 p61 (.z (.slice none 0 0)<|.n))<|RW.e 1 rfl (e_fa f51_1)<|RW.e 2 rfl (e_load a9)<|RW.e 3 rfl (e_build z123 p123 (.o (.tmp 39) rfl<|.z (.int .u32 0)<|.o (.const (.bool true)) rfl<|.n)) ?_
    refine RW.any (is:=[4,5]) rfl ⟨?_,?_,trivial⟩
    ·skip
     refine RWat.h rfl rfl rfl ?_
     refine (h_bs sl96 z123 (.a3 (.tmp 40) rfl<|.n) fun b5=>?_)
     refine ⟨⟨⟨_,rfl,.inl ⟨rfl,(e_build z61 p61 (.z (.slice none 0 0)<|.n))⟩⟩,trivial⟩,?_⟩
     refine RW.any (is:=[5]) rfl ⟨?_,trivial⟩
     refine RWat.h' rfl rfl rfl ?_
     refine (h_store s61 ?_)
     refine ⟨trivial,?_⟩
     refine RW.e 6 rfl e_assign<|RW.done<|PO.next<|WP.ret<|PO.nils 78 2 RowM.c none ?_
     refine PO.cls (A:=Sl 123 3 ChgM.c (.slice (some ⟨b5,0,none⟩) 1 1) ([(⟨x.key,0,true⟩:ChgM)])) (B:=[cl b5 123 (ChgM.c ((⟨x.key,0,true⟩:ChgM)))]) (fun S ⟨S1,_,_,l1,_,h,_⟩=>own_up (lit_own chgE [(⟨x.key,0,true⟩:ChgM)] rfl rfl (by simp) S1 h) l1) ?_
     exact PO.fin Tryz.results64 (rv_cellN a61 (rv_tmp rv_nil)) (hK none 0 0 _ 1 1 (fun _=>⟨rfl,rfl,rfl⟩))
    ·skip
     refine RWat.h' rfl rfl rfl ?_
     refine (h_store s61 ?_)
     refine ⟨⟨⟨_,rfl,.inl ⟨rfl,(e_build z123 p123 (.o (.tmp 39) rfl<|.z (.int .u32 0)<|.o (.const (.bool true)) rfl<|.n))⟩⟩,⟨_,rfl,.inl ⟨rfl,(e_load a9)⟩⟩,⟨_,rfl,.inl ⟨rfl,(e_fa f51_1)⟩⟩,trivial⟩,?_⟩
     refine RW.any (is:=[4]) rfl ⟨?_,trivial⟩
     refine RWat.h rfl rfl rfl ?_
     refine (h_bs sl96 z123 (.a3 (.tmp 40) rfl<|.n) fun b6=>?_)
     refine ⟨trivial,?_⟩
     refine RW.e 6 rfl e_assign<|RW.done<|PO.next<|WP.ret<|PO.nils 78 2 RowM.c none ?_
     refine PO.cls (A:=Sl 123 3 ChgM.c (.slice (some ⟨b6,0,none⟩) 1 1) ([(⟨x.key,0,true⟩:ChgM)])) (B:=[cl b6 123 (ChgM.c ((⟨x.key,0,true⟩:ChgM)))]) (fun S ⟨S1,_,_,l1,_,h,_⟩=>own_up (lit_own chgE [(⟨x.key,0,true⟩:ChgM)] rfl rfl (by simp) S1 h) l1) ?_
     exact PO.fin Tryz.results64 (rv_cellN a61 (rv_tmp rv_nil)) (hK none 0 0 _ 1 1 (fun _=>⟨rfl,rfl,rfl⟩))
end Go.SL
