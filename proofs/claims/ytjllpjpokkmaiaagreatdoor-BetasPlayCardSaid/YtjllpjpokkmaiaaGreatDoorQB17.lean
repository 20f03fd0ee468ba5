import Derived.Test.YtjllpjpokkmaiaaGreatDoorQB16
set_option linter.unusedSimpArgs false
set_option linter.unusedVariables false
namespace Go.SL.Fc
open Go Go.Proofs Go.SL
theorem a199:aggOf Tryz.prog 199=some (some 3):=by kernel_rfl
theorem a201:aggOf Tryz.prog 201=some (some 3):=by kernel_rfl
theorem a35:aggOf Tryz.prog 35=some none:=by kernel_rfl
theorem a38:aggOf Tryz.prog 38=some none:=by kernel_rfl
theorem f199_0:fldOf Tryz.prog 199 0=some 0:=by kernel_rfl
theorem f199_1:fldOf Tryz.prog 199 1=some 1:=by kernel_rfl
theorem f199_2:fldOf Tryz.prog 199 2=some 2:=by kernel_rfl
theorem f201_0:fldOf Tryz.prog 201 0=some 0:=by kernel_rfl
theorem f201_1:fldOf Tryz.prog 201 1=some 1:=by kernel_rfl
theorem f201_2:fldOf Tryz.prog 201 2=some 2:=by kernel_rfl
theorem f47_2:fldOf Tryz.prog 47 2=some 2:=by kernel_rfl
theorem f47_5:fldOf Tryz.prog 47 5=some 5:=by kernel_rfl
theorem k150:callable Tryz.prog 150=true:=by kernel_rfl
theorem k153:callable Tryz.prog 153=true:=by kernel_rfl
theorem k162:callable Tryz.prog 162=true:=by kernel_rfl
theorem k165:callable Tryz.prog 165=true:=by kernel_rfl
theorem s199:szOf Tryz.prog 199=some 3:=by kernel_rfl
theorem s201:szOf Tryz.prog 201=some 3:=by kernel_rfl
theorem sl35:slOf Tryz.prog 35=some (201,3,56):=by kernel_rfl
theorem sl38:slOf Tryz.prog 38=some (199,3,56):=by kernel_rfl
theorem z199:zeroOf Tryz.prog 199=some [.slice none 0 0,.slice none 0 0,.int .i64 0]:=by kernel_rfl
theorem z201:zeroOf Tryz.prog 201=some [.slice none 0 0,.slice none 0 0,.int .i64 0]:=by kernel_rfl
end Go.SL.Fc
namespace Go.SL
open Go Go.Proofs Fc
set_option maxHeartbeats 1000000 in
theorem fillId_spec {g:World} {p:Nat} {n:Nat} {iv rv:SV} {hs:List (HeldV UInt32)} (hl:hs.length≤1000) (hk:∀ h ∈ hs,Kp h):Spec Tryz.prog g 71 [.pointer (some ⟨p,0,none⟩)] [cl p 47 [.int .i64 (n),.slice none 0 0,iv.v,.slice none 0 0,.slice none 0 0,rv.v,.slice none 0 0,.slice none 0 0,.slice none 0 0,.slice none 0 0,.slice none 0 0,.slice none 0 0,.slice none 0 0],Sl 201 3 hdC (iv.v) (hs),Mb (Hd0 48 1 u32C) (hs)] fun K R=>K (.tuple #[]) (cl p 47 [.int .i64 (n),.slice none 0 0,iv.v,.slice none 0 0,.slice none 0 0,rv.v,.slice none 0 0,.slice none 0 0,.slice none 0 0,.slice none 0 0,.slice none 0 0,.slice none 0 0,.slice none 0 0]::Sl 201 3 hdC (iv.v) (hs)::Mb (Hd0 48 1 u32C) (hs.map (fillH mkId))::R):=by
 refine Spec.intro Tryz.func71 rfl Tryz.ntmps71 rfl fun R K hK=>?_
 refine WP.seq<|WP.reg<|WL.e e_assign<|WL.next<|WP.block<|WP.conv (M:=Mb (Hd0 48 1 u32C) ([])::_) (fun _=>Mb_nil) ?_
 refine WP.loopK (fun (i:Nat)=>[(2,.int .i64 i)]) (fun (i:Nat)=>Mb (Hd0 48 1 u32C) ((hs.take i).map (fillH mkId))::Mb (Hd0 48 1 u32C) (hs.drop i)::cl p 47 [.int .i64 (n),.slice none 0 0,iv.v,.slice none 0 0,.slice none 0 0,rv.v,.slice none 0 0,.slice none 0 0,.slice none 0 0,.slice none 0 0,.slice none 0 0,.slice none 0 0,.slice none 0 0]::Sl 201 3 hdC (iv.v) (hs)::R) [(0,_)] (fun (i:Nat)=>i≤hs.length) (fun (i:Nat)=>hs.length - i) 0 (Nat.zero_le _) ?_
 intro i hi
 refine WP.seq<|WP.seq<|WP.reg<|WL.e e_move<|WL.e e_move<|WL.e e_nil<|WL.e (e_fa f47_2)<|WL.e (e_load a35)<|WL.e (el_len (xs:=hs) sl35 sl_rl)<|WL.e e_lss<|WL.next ?_
 refine WP.cond rfl (fun h1=>?_) (fun h1=>?_)
 ·have hlt:i < hs.length:=by simp at h1;omega
  obtain ⟨h,hx⟩:∃ h,hs[i]?=some h:=⟨_,List.getElem?_eq_getElem hlt⟩
  obtain ⟨hk1,hk2⟩:=hk h (List.mem_of_getElem? hx)
  refine WP.opn (Mb_head (drop_at hx)) fun _=>?_
  unfold Hd0
  refine WP.skip<|PO.next<|WP.seq<|WP.block<|WP.seq<|WP.reg<|WL.e e_move<|WL.e e_nil<|WL.e (e_fa f47_2)<|WL.e (e_load a35)<|WL.e e_move<|WL.e (el_ia (j:=i) (xs:=hs) sl35 sl_rl hlt)<|WL.e (el_loadN (j:=i) (xs:=hs) (a:=h) a201 hdE sl_rl hx) ?_
  refine WL.h (h_alloc z201 fun b1=>?_)
  refine WL.h' (h_store s201 ?_)
  refine WL.next<|WP.seq<|WP.reg<|WL.e e_assign<|WL.next<|WP.block<|WP.loopK (fun (j:Nat)=>[(4,.int .i64 j)]) (fun (j:Nat)=>Sl 48 1 u32C (h.l.v) (List.replicate j (mkId h.n)++h.ws.drop j)::Mb (Hd0 48 1 u32C) ((hs.take i).map (fillH mkId))::Mb (Hd0 48 1 u32C) (hs.drop (i+1))::cl b1 201 [h.l.v,h.long.v,.int .i64 h.n]::cl p 47 [.int .i64 (n),.slice none 0 0,iv.v,.slice none 0 0,.slice none 0 0,rv.v,.slice none 0 0,.slice none 0 0,.slice none 0 0,.slice none 0 0,.slice none 0 0,.slice none 0 0,.slice none 0 0]::Sl 201 3 hdC (iv.v) (hs)::R) [(0,_),(2,_),(3,_),(5,_),(6,_),(7,_),(8,_),(9,_),(10,_),(11,_),(14,_),(15,_),(16,_),(17,_),(18,_),(19,_),(20,_)] (fun (j:Nat)=>j≤h.ws.length) (fun (j:Nat)=>h.ws.length - j) 0 (Nat.zero_le _) ?_
  intro j hj
  refine WP.seq<|WP.seq<|WP.reg<|WL.e e_move<|WL.e (e_fa f201_0)<|WL.e (e_load a67)<|WL.e (el_len (xs:=List.replicate j (mkId h.n)++h.ws.drop j) sl67 sl_rl)<|WL.e e_lss<|WL.next ?_
  refine WP.cond rfl (fun h2=>?_) (fun h2=>?_)
  ·have hlj:j < h.ws.length:=by simp at h2;omega
   refine WP.skip<|PO.next<|WP.seq<|WP.block<|WP.draws mixedOk 8<|RW.e 0 rfl (e_fa f201_0)<|RW.e 1 rfl (e_load a67)<|RW.e 2 rfl e_move<|RW.e 3 rfl (e_fa f201_2)<|RW.e 4 rfl (e_load a3) ?_
   refine RW.any (is:=[5]) rfl ⟨?_,trivial⟩
   refine RWat.h rfl rfl rfl ?_
   refine (h_call (markId_spec h.n hk1) k150 ?_)
   refine ⟨⟨⟨_,rfl,.inl ⟨rfl,e_move⟩⟩,⟨_,rfl,.inl ⟨rfl,(e_load a67)⟩⟩,⟨_,rfl,.inl ⟨rfl,(e_fa f201_0)⟩⟩,trivial⟩,?_⟩
   refine RW.e 6 rfl (el_ia (j:=j) (xs:=List.replicate j (mkId h.n)++h.ws.drop j) sl67 sl_rl (by simp;omega)) ?_
   refine RW.any (is:=[7]) rfl ⟨?_,trivial⟩
   refine RWat.h' rfl rfl rfl ?_
   refine (hl_store (xs:=List.replicate j (mkId h.n)++h.ws.drop j) (j:=j) (mkId h.n) s48 u32E (by simp;omega) ?_)
   refine ⟨trivial,?_⟩
   refine RW.done<|PO.blockN<|PO.next<|WP.reg<|WL.e e_move<|WL.e (e_add (c:=((j+1:Nat):Int)) rfl rfl (by rw [w_i64 (by omega) (by omega)];omega))<|WL.e e_assign<|WL.nil ?_
   rw [rep_set hlj]
   exact PO.againK (j+1) (by omega) (by omega)
  ·rw [rep_all (show h.ws.length=j by simp at h2;omega)]
   refine WP.exit<|PO.past nofun<|PO.round nofun<|PO.blockX<|PO.blockN<|PO.next<|WP.reg<|WL.e e_move<|WL.e (e_add (c:=((i+1:Nat):Int)) rfl rfl (by rw [w_i64 (by omega) (by omega)];omega))<|WL.e e_assign<|WL.nil<|PO.cls (A:=Mb (Hd0 48 1 u32C) ((hs.take (i+1)).map (fillH mkId))) (B:=[Sl 48 1 u32C (h.l.v) (List.replicate h.ws.length (mkId h.n)),Mb (Hd0 48 1 u32C) ((hs.take i).map (fillH mkId))]) (fun S hS=>by rw [take_snoc hx,List.map_append];exact Mb_snoc (x:=fillH mkId h) S hS) ?_
   exact PO.againK (i+1) (by omega) (by omega)
 ·rw [List.take_of_length_le (show hs.length≤i by simp at h1;omega)]
  refine WP.exit<|PO.past nofun<|PO.round nofun<|PO.blockX ?_
  exact PO.fin Tryz.results71 rv_nil hK
set_option maxHeartbeats 1000000 in
theorem growId_spec {g:World} {p:Nat} {n:Nat} {iv rv:SV} {hs:List (HeldV UInt32)} (hl:hs.length≤1000) (hk:∀ h ∈ hs,Fil mkId h):Spec Tryz.prog g 83 [.pointer (some ⟨p,0,none⟩)] [cl p 47 [.int .i64 (n),.slice none 0 0,iv.v,.slice none 0 0,.slice none 0 0,rv.v,.slice none 0 0,.slice none 0 0,.slice none 0 0,.slice none 0 0,.slice none 0 0,.slice none 0 0,.slice none 0 0],Sl 201 3 hdC (iv.v) (hs),Mb (Hd0 48 1 u32C) (hs)] fun K R=>∀ ds,ds.length=hs.length→(∀ h ∈ ds,Grw mkId h)→K (.tuple #[]) (cl p 47 [.int .i64 (n),.slice none 0 0,iv.v,.slice none 0 0,.slice none 0 0,rv.v,.slice none 0 0,.slice none 0 0,.slice none 0 0,.slice none 0 0,.slice none 0 0,.slice none 0 0,.slice none 0 0]::Sl 201 3 hdC (iv.v) (ds)::Mb (Hd1 48 1 u32C) (ds)::R):=by
 refine Spec.intro Tryz.func83 rfl Tryz.ntmps83 rfl fun R K hK=>?_
 refine WP.seq<|WP.reg<|WL.e e_assign<|WL.next<|WP.block<|WP.conv (M:=Mb (Hd1 48 1 u32C) ([])::_) (fun _=>Mb_nil) ?_
 refine WP.loopK (fun (y:Nat × List (HeldV UInt32))=>[(2,.int .i64 y.1)]) (fun (y:Nat × List (HeldV UInt32))=>Mb (Hd1 48 1 u32C) (y.2)::Mb (Hd0 48 1 u32C) (hs.drop y.1)::cl p 47 [.int .i64 (n),.slice none 0 0,iv.v,.slice none 0 0,.slice none 0 0,rv.v,.slice none 0 0,.slice none 0 0,.slice none 0 0,.slice none 0 0,.slice none 0 0,.slice none 0 0,.slice none 0 0]::Sl 201 3 hdC (iv.v) (y.2++hs.drop y.1)::R) [(0,_)] (fun (y:Nat × List (HeldV UInt32))=>y.2.length=y.1∧y.1≤hs.length∧∀ h ∈ y.2,Grw mkId h) (fun (y:Nat × List (HeldV UInt32))=>hs.length - y.1) (0,[]) (⟨rfl,Nat.zero_le _,by simp⟩) ?_
 rintro ⟨i,ds⟩ ⟨hd,hi,hG⟩
 simp only at hd hi hG
 dsimp only
 refine WP.seq<|WP.seq<|WP.reg<|WL.e e_move<|WL.e e_move<|WL.e e_nil<|WL.e (e_fa f47_2)<|WL.e (e_load a35)<|WL.e (el_len (xs:=(ds++hs.drop i)) sl35 sl_rl)<|WL.e e_lss<|WL.next ?_
 refine WP.cond rfl (fun h1=>?_) (fun h1=>?_)
 ·have hlt:i < hs.length:=by simp at h1;omega
  obtain ⟨h,hx⟩:∃ h,hs[i]?=some h:=⟨_,List.getElem?_eq_getElem hlt⟩
  obtain ⟨⟨hk1,hk2⟩,hk3⟩:=hk h (List.mem_of_getElem? hx)
  have hdr:=drop_at hx
  have hxX:(ds++hs.drop i)[i]?=some h:=by rw [List.getElem?_append_right (by omega),hd,Nat.sub_self,hdr];rfl
  have hltX:i < (ds++hs.drop i).length:=idx_lt hxX
  refine WP.opn (Mb_head hdr) fun _=>?_
  refine WP.conv (conv1 (A:=Hd0 48 1 u32C h) (B:=Gr 48 1 u32C h.l.v h.ws (h.l.v) (h.ws)) (fun S hS=>Gr_in hS) (by repeat first | exact .z | apply Put.s)) ?_
  refine WP.skip<|PO.next<|WP.seq<|WP.block<|WP.seq<|WP.reg<|WL.e e_move<|WL.e e_nil<|WL.e (e_fa f47_2)<|WL.e (e_load a35)<|WL.e e_move<|WL.e (el_ia (j:=i) (xs:=(ds++hs.drop i)) sl35 sl_rl hltX)<|WL.e (el_loadN (j:=i) (xs:=(ds++hs.drop i)) (a:=h) a201 hdE sl_rl hxX) ?_
  refine WL.h (h_alloc z201 fun b1=>?_)
  refine WL.h' (h_store s201 ?_)
  refine WL.next<|WP.seq<|WP.reg<|WL.e (e_fa f201_0)<|WL.e (e_load a67)<|WL.e e_assign<|WL.next<|WP.seq<|WP.seq<|WP.reg<|WL.e e_assign<|WL.next<|WP.block ?_
  have hk4:h.ws=List.replicate (h.ws.length+0) (mkId h.n):=hk3
  refine WP.conv (conv1 (A:=Gr 48 1 u32C h.l.v h.ws (h.l.v) (h.ws)) (B:=Gr 48 1 u32C h.l.v h.ws (h.l.v) (List.replicate (h.ws.length+0) (mkId h.n))) (fun S hS=>by rw [← hk4];exact hS) (by repeat first | exact .z | apply Put.s)) ?_
  refine WP.loopK (fun (y:Nat × Value)=>[(5,.int .i64 y.1),(4,y.2)]) (fun (y:Nat × Value)=>Gr 48 1 u32C h.l.v h.ws (y.2) (List.replicate (h.ws.length+y.1) (mkId h.n))::Mb (Hd1 48 1 u32C) (ds)::Mb (Hd0 48 1 u32C) (hs.drop (i+1))::cl b1 201 [h.l.v,h.long.v,.int .i64 h.n]::cl p 47 [.int .i64 (n),.slice none 0 0,iv.v,.slice none 0 0,.slice none 0 0,rv.v,.slice none 0 0,.slice none 0 0,.slice none 0 0,.slice none 0 0,.slice none 0 0,.slice none 0 0,.slice none 0 0]::Sl 201 3 hdC (iv.v) ((ds++hs.drop i))::R) [(0,_),(2,_),(3,_),(6,_),(7,_),(8,_),(9,_),(10,_),(11,_),(12,_),(15,_),(16,_),(17,_),(18,_),(19,_),(20,_),(21,_),(22,_),(23,_)] (fun (y:Nat × Value)=>y.1≤40) (fun (y:Nat × Value)=>40 - y.1) (0,h.l.v) (Nat.zero_le _) ?_
  rintro ⟨j,u⟩ hj
  simp only at hj
  dsimp only
  refine WP.seq<|WP.seq<|WP.reg<|WL.e e_move<|WL.e e_lss<|WL.next ?_
  refine WP.cond rfl (fun h2=>?_) (fun h2=>?_)
  ·replace h2:j < 40:=by simp at h2;omega
   refine WP.skip<|PO.next<|WP.seq<|WP.block<|WP.reg<|WL.e e_move<|WL.e (e_fa f201_2)<|WL.e (e_load a3) ?_
   refine WL.h (h_call (markId_spec h.n hk1) k150 ?_)
   refine WL.h (h_bs sl67 z48 (.o (.tmp 31) rfl<|.n) fun b2=>?_)
   refine WL.h (hl_append_gr (ws:=h.ws) (l:=h.l.v) (xs:=List.replicate (h.ws.length+j) (mkId h.n)) sl67 u32E z48 (lit_rl u32E [(mkId h.n)] rfl) (by simp;omega) fun a9 m9 c9=>?_)
   refine WL.e e_assign<|WL.nil<|PO.blockN<|PO.next<|WP.reg<|WL.e e_move<|WL.e (e_add (c:=((j+1:Nat):Int)) rfl rfl (by rw [w_i64 (by omega) (by omega)];omega))<|WL.e e_assign<|WL.nil ?_
   rw [rep_snoc]
   exact PO.againK (j+1,.slice a9 m9 c9) (by simp only;omega) (by simp only;omega)
  ·obtain rfl:j=40:=by simp at h2;omega
   refine WP.know (φ:=∃ a m c,u=.slice a m c) (Pick.know (A:=Gr 48 1 u32C h.l.v h.ws (u) (List.replicate (h.ws.length+40) (mkId h.n))) (by repeat first | exact .z | apply Pick.s) fun S hS=>Gr_shape hS) fun hy=>?_
   obtain ⟨a8,m8,c8,rfl⟩:=hy
   refine WP.exit<|PO.past nofun<|PO.round nofun<|PO.blockX<|PO.next<|WP.reg<|WL.e e_move<|WL.e e_nil<|WL.e (e_fa f47_2)<|WL.e (e_load a35)<|WL.e e_move<|WL.e e_move<|WL.e (el_ia (j:=i) (xs:=(ds++hs.drop i)) sl35 sl_rl hltX)<|WL.e (el_fa (z:=3) (j:=i) (xs:=(ds++hs.drop i)) f201_1 sl_rl hltX) ?_
   refine WL.h' (hl_set (y:=0) (j:=0) (f:=i * 3+1) (n:=(ds++hs.drop i).length) (z:=3) (E:=201) (cs:=(ds++hs.drop i).flatMap hdC) s67 (by omega) ?_ rfl)
   rw [flat_setF (xs:=(ds++hs.drop i)) (a:=h) (a':=({ h with long:=⟨a8,m8,c8⟩,xs:=List.replicate (h.ws.length+40) (mkId h.n) }:HeldV UInt32)) hdE hxX (by decide) rfl,show Own 201 3 iv.v (ds++hs.drop i).length (((ds++hs.drop i).set i ({ h with long:=⟨a8,m8,c8⟩,xs:=List.replicate (h.ws.length+40) (mkId h.n) }:HeldV UInt32)).flatMap hdC)=Sl 201 3 hdC (iv.v) ((ds++hs.drop i).set i ({ h with long:=⟨a8,m8,c8⟩,xs:=List.replicate (h.ws.length+40) (mkId h.n) }:HeldV UInt32)) by unfold Sl;rw [List.length_set],show (ds++hs.drop i).set i ({ h with long:=⟨a8,m8,c8⟩,xs:=List.replicate (h.ws.length+40) (mkId h.n) }:HeldV UInt32)=(ds++[({ h with long:=⟨a8,m8,c8⟩,xs:=List.replicate (h.ws.length+40) (mkId h.n) }:HeldV UInt32)])++hs.drop (i+1) by rw [hdr,List.set_append_right _ _ (by omega),hd,Nat.sub_self,List.set_cons_zero,List.append_assoc];rfl]
   refine WL.nil<|PO.blockN<|PO.next<|WP.reg<|WL.e e_move<|WL.e (e_add (c:=((i+1:Nat):Int)) rfl rfl (by rw [w_i64 (by omega) (by omega)];omega))<|WL.e e_assign<|WL.nil<|PO.cls (A:=Mb (Hd1 48 1 u32C) (ds++[({ h with long:=⟨a8,m8,c8⟩,xs:=List.replicate (h.ws.length+40) (mkId h.n) }:HeldV UInt32)])) (B:=[Gr 48 1 u32C h.l.v h.ws (.slice a8 m8 c8) (List.replicate (h.ws.length+40) (mkId h.n)),Mb (Hd1 48 1 u32C) (ds)]) (fun S hS=>Mb_snoc (x:=({ h with long:=⟨a8,m8,c8⟩,xs:=List.replicate (h.ws.length+40) (mkId h.n) }:HeldV UInt32)) S hS) ?_
   exact PO.againK (i+1,ds++[({ h with long:=⟨a8,m8,c8⟩,xs:=List.replicate (h.ws.length+40) (mkId h.n) }:HeldV UInt32)]) ⟨by simp [hd],by simp only;omega,fun y hy=>by
    rcases List.mem_append.1 hy with hy | hy
    ·exact hG y hy
    ·simp only [List.mem_singleton] at hy;subst hy;exact ⟨⟨hk1,hk2⟩,hk3,rfl⟩⟩ (by simp only;omega)
 ·have hds:hs.drop i=[]:=List.drop_eq_nil_of_le (by simp at h1;omega)
  rw [hds,List.append_nil]
  refine WP.exit<|PO.past nofun<|PO.round nofun<|PO.blockX ?_
  exact PO.fin Tryz.results83 rv_nil (hK ds (by rw [hd];simp at h1;omega) hG)
set_option maxHeartbeats 1000000 in
theorem lookId_spec {g:World} {p:Nat} {n:Nat} {iv rv:SV} {hs:List (HeldV UInt32)} (hl:hs.length≤1000) (hk:∀ h ∈ hs,Grw mkId h):Spec Tryz.prog g 95 [.pointer (some ⟨p,0,none⟩)] [cl p 47 [.int .i64 (n),.slice none 0 0,iv.v,.slice none 0 0,.slice none 0 0,rv.v,.slice none 0 0,.slice none 0 0,.slice none 0 0,.slice none 0 0,.slice none 0 0,.slice none 0 0,.slice none 0 0],Sl 201 3 hdC (iv.v) (hs),Mb (Hd1 48 1 u32C) (hs)] fun K R=>K (.bool true) (cl p 47 [.int .i64 (n),.slice none 0 0,iv.v,.slice none 0 0,.slice none 0 0,rv.v,.slice none 0 0,.slice none 0 0,.slice none 0 0,.slice none 0 0,.slice none 0 0,.slice none 0 0,.slice none 0 0]::Sl 201 3 hdC (iv.v) (hs)::Mb (Hd1 48 1 u32C) (hs)::R):=by
 refine Spec.intro Tryz.func95 rfl Tryz.ntmps95 rfl fun R K hK=>?_
 refine WP.seq<|WP.reg<|WL.e e_assign<|WL.next<|WP.seq<|WP.seq<|WP.reg<|WL.e e_assign<|WL.next<|WP.block<|WP.loopK (fun (i:Nat)=>[(3,.int .i64 i)]) (fun (i:Nat)=>Mb (Hd1 48 1 u32C) (hs)::cl p 47 [.int .i64 (n),.slice none 0 0,iv.v,.slice none 0 0,.slice none 0 0,rv.v,.slice none 0 0,.slice none 0 0,.slice none 0 0,.slice none 0 0,.slice none 0 0,.slice none 0 0,.slice none 0 0]::Sl 201 3 hdC (iv.v) (hs)::R) [(0,_)] (fun (i:Nat)=>i≤hs.length) (fun (i:Nat)=>hs.length - i) 0 (Nat.zero_le _) ?_
 intro i hi
 refine WP.seq<|WP.seq<|WP.reg<|WL.e e_move<|WL.e e_move<|WL.e e_nil<|WL.e (e_fa f47_2)<|WL.e (e_load a35)<|WL.e (el_len (xs:=hs) sl35 sl_rl)<|WL.e e_lss<|WL.next ?_
 refine WP.cond rfl (fun h1=>?_) (fun h1=>?_)
 ·have hlt:i < hs.length:=by simp at h1;omega
  obtain ⟨h,hx⟩:∃ h,hs[i]?=some h:=⟨_,List.getElem?_eq_getElem hlt⟩
  have hm:=List.mem_of_getElem? hx
  obtain ⟨⟨hk1,hk2⟩,hk3,hk4⟩:=hk h hm
  have hl1:h.xs.length=h.ws.length+40:=by rw [hk4];simp
  refine WP.skip<|PO.next<|WP.seq<|WP.block<|WP.seq<|WP.reg<|WL.e e_move<|WL.e e_nil<|WL.e (e_fa f47_2)<|WL.e (e_load a35)<|WL.e e_move<|WL.e (el_ia (j:=i) (xs:=hs) sl35 sl_rl hlt)<|WL.e (el_loadN (j:=i) (xs:=hs) (a:=h) a201 hdE sl_rl hx) ?_
  refine WL.h (h_alloc z201 fun b1=>?_)
  refine WL.h' (h_store s201 ?_)
  refine WL.next<|WP.seq<|WP.seq<|WP.reg<|WL.e (e_fa f201_1)<|WL.e (e_load a67)<|WL.e (el_len (xs:=h.xs) sl67 (RL.ge (Gr_u (l:=h.l.v) (ws:=h.ws) (E:=48)) (mb_ge (F:=Hd1 48 1 u32C) hm)))<|WL.e (e_fa f201_0)<|WL.e (e_load a67)<|WL.e (el_len (xs:=h.ws) sl67 (RL.ge (Gr_l (u:=h.long.v) (xs:=h.xs) (E:=48) u32E) (mb_ge (F:=Hd1 48 1 u32C) hm)))<|WL.e (e_add (c:=((h.ws.length+40:Nat):Int)) rfl rfl (by rw [w_i64 (by omega) (by omega)];omega))<|WL.e e_neq<|WL.next ?_
  refine WP.cond rfl (fun h2=>?_) (fun h2=>?_)
  ·rw [hl1] at h2;simp at h2
  ·skip
   refine WP.skip<|PO.next<|WP.seq<|WP.reg<|WL.e e_assign<|WL.next<|WP.block<|WP.loopK (fun (j:Nat)=>[(5,.int .i64 j)]) (fun (j:Nat)=>Mb (Hd1 48 1 u32C) (hs)::cl p 47 [.int .i64 (n),.slice none 0 0,iv.v,.slice none 0 0,.slice none 0 0,rv.v,.slice none 0 0,.slice none 0 0,.slice none 0 0,.slice none 0 0,.slice none 0 0,.slice none 0 0,.slice none 0 0]::Sl 201 3 hdC (iv.v) (hs)::cl b1 201 [h.l.v,h.long.v,.int .i64 h.n]::R) [(0,_),(3,_),(4,_),(6,_),(7,_),(8,_),(9,_),(10,_),(11,_),(12,_),(15,_),(16,_),(17,_),(18,_),(19,_),(20,_),(21,_),(22,_),(23,_),(24,_),(25,_),(26,_),(27,_),(28,_),(29,_)] (fun (j:Nat)=>j≤h.xs.length) (fun (j:Nat)=>h.xs.length - j) 0 (Nat.zero_le _) ?_
   intro j hj
   refine WP.seq<|WP.seq<|WP.reg<|WL.e e_move<|WL.e (e_fa f201_1)<|WL.e (e_load a67)<|WL.e (el_len (xs:=h.xs) sl67 (RL.ge (Gr_u (l:=h.l.v) (ws:=h.ws) (E:=48)) (mb_ge (F:=Hd1 48 1 u32C) hm)))<|WL.e e_lss<|WL.next ?_
   refine WP.cond rfl (fun h3=>?_) (fun h3=>?_)
   ·have hlj:j < h.xs.length:=by simp at h3;omega
    have hxj:h.xs[j]?=some (mkId h.n):=by rw [hk4];exact rep_at (by omega)
    refine WP.skip<|PO.next<|WP.seq<|WP.block<|WP.seq<|WP.draws mixedOk 27<|RW.e 0 rfl (e_fa f201_1)<|RW.e 1 rfl (e_load a67)<|RW.e 2 rfl e_move<|RW.e 3 rfl (el_ia (j:=j) (xs:=h.xs) sl67 (RL.ge (Gr_u (l:=h.l.v) (ws:=h.ws) (E:=48)) (mb_ge (F:=Hd1 48 1 u32C) hm)) hlj)<|RW.e 4 rfl (el_load0 (j:=j) (xs:=h.xs) (a:=(mkId h.n)) a48 u32E (RL.ge (Gr_u (l:=h.l.v) (ws:=h.ws) (E:=48)) (mb_ge (F:=Hd1 48 1 u32C) hm)) hxj)<|RW.e 5 rfl (e_fa f201_2)<|RW.e 6 rfl (e_load a3) ?_
    refine RW.any (is:=[7]) rfl ⟨?_,trivial⟩
    refine RWat.h rfl rfl rfl ?_
    refine (h_call (isId_spec (mkId h.n) h.n hk1) k162 ?_)
    rw [beq_self_eq_true]
    refine ⟨trivial,?_⟩
    refine RW.e 8 rfl e_not<|RW.e 9 rfl e_move ?_
    refine RW.bool 46 rfl (fun e1=>?_) (fun e1=>?_)
    ·cases e1 
    ·skip
     refine RW.e 10 rfl e_move<|RW.e 11 rfl (e_fa f201_0)<|RW.e 12 rfl (e_load a67)<|RW.e 13 rfl (el_len (xs:=h.ws) sl67 (RL.ge (Gr_l (u:=h.long.v) (xs:=h.xs) (E:=48) u32E) (mb_ge (F:=Hd1 48 1 u32C) hm)))<|RW.e 14 rfl e_lss<|RW.e 15 rfl e_move ?_
     refine RW.bool 52 rfl (fun e2=>?_) (fun e2=>?_)
     ·have hlw:j < h.ws.length:=by simpa using e2
      have hwj:h.ws[j]?=some (mkId h.n):=by rw [hk3];exact rep_at hlw
      refine RW.e 16 rfl (e_fa f201_0)<|RW.e 17 rfl (e_load a67)<|RW.e 18 rfl e_move<|RW.e 19 rfl (el_ia (j:=j) (xs:=h.ws) sl67 (RL.ge (Gr_l (u:=h.long.v) (xs:=h.xs) (E:=48) u32E) (mb_ge (F:=Hd1 48 1 u32C) hm)) hlw)<|RW.e 20 rfl (el_load0 (j:=j) (xs:=h.ws) (a:=(mkId h.n)) a48 u32E (RL.ge (Gr_l (u:=h.long.v) (xs:=h.xs) (E:=48) u32E) (mb_ge (F:=Hd1 48 1 u32C) hm)) hwj)<|RW.e 21 rfl (e_fa f201_2)<|RW.e 22 rfl (e_load a3) ?_
      refine RW.any (is:=[23]) rfl ⟨?_,trivial⟩
      refine RWat.h rfl rfl rfl ?_
      refine (h_call (isId_spec (mkId h.n) h.n hk1) k162 ?_)
      rw [beq_self_eq_true]
      refine ⟨trivial,?_⟩
      refine RW.e 24 rfl e_not<|RW.e 25 rfl e_pick_t<|RW.e 26 rfl e_pick_f<|RW.done<|PO.next ?_
      refine WP.cond rfl (fun h9=>?_) (fun h9=>?_)
      ·cases h9
      ·skip
       refine WP.skip<|PO.blockN<|PO.next<|WP.reg<|WL.e e_move<|WL.e (e_add (c:=((j+1:Nat):Int)) rfl rfl (by rw [w_i64 (by omega) (by omega)];omega))<|WL.e e_assign<|WL.nil ?_
       exact PO.againK (j+1) (by omega) (by omega)
     ·skip
      refine RW.skip 16 rfl<|RW.skip 17 rfl<|RW.skip 18 rfl<|RW.skip 19 rfl<|RW.skip 20 rfl<|RW.skip 21 rfl<|RW.skip 22 rfl<|RW.skip 23 rfl<|RW.skip 24 rfl<|RW.e 25 rfl e_pick_f<|RW.e 26 rfl e_pick_f<|RW.done<|PO.next<|WP.cond_f rfl<|WP.skip<|PO.blockN<|PO.next<|WP.reg<|WL.e e_move<|WL.e (e_add (c:=((j+1:Nat):Int)) rfl rfl (by rw [w_i64 (by omega) (by omega)];omega))<|WL.e e_assign<|WL.nil ?_
      exact PO.againK (j+1) (by omega) (by omega)
   ·skip
    refine WP.exit<|PO.past nofun<|PO.round nofun<|PO.blockX<|PO.blockN<|PO.next<|WP.reg<|WL.e e_move<|WL.e (e_add (c:=((i+1:Nat):Int)) rfl rfl (by rw [w_i64 (by omega) (by omega)];omega))<|WL.e e_assign<|WL.nil ?_
    exact PO.againK (i+1) (by omega) (by omega)
 ·skip
  refine WP.exit<|PO.past nofun<|PO.round nofun<|PO.blockX<|PO.next<|WP.seq<|WP.reg<|WL.e e_assign<|WL.next<|WP.ret ?_
  exact PO.fin Tryz.results95 (rv_tmp rv_nil) hK
set_option maxHeartbeats 1000000 in
theorem fillRow_spec {g:World} {p:Nat} {n:Nat} {iv rv:SV} {hs:List (HeldV RowM)} {A:HP} (hT:Tab Tryz.prog A) (hl:hs.length≤1000) (hk:∀ h ∈ hs,Kp h):Spec Tryz.prog g 74 [.pointer (some ⟨p,0,none⟩)] [cl p 47 [.int .i64 (n),.slice none 0 0,iv.v,.slice none 0 0,.slice none 0 0,rv.v,.slice none 0 0,.slice none 0 0,.slice none 0 0,.slice none 0 0,.slice none 0 0,.slice none 0 0,.slice none 0 0],Sl 199 3 hdC (rv.v) (hs),Mb (Hd0 142 2 RowM.c) (hs),A] fun K R=>K (.tuple #[]) (cl p 47 [.int .i64 (n),.slice none 0 0,iv.v,.slice none 0 0,.slice none 0 0,rv.v,.slice none 0 0,.slice none 0 0,.slice none 0 0,.slice none 0 0,.slice none 0 0,.slice none 0 0,.slice none 0 0]::Sl 199 3 hdC (rv.v) (hs)::Mb (Hd0 142 2 RowM.c) (hs.map (fillH mkRow))::A::R):=by
 refine Spec.intro Tryz.func74 rfl Tryz.ntmps74 rfl fun R K hK=>?_
 refine WP.seq<|WP.reg<|WL.e e_assign<|WL.next<|WP.block<|WP.conv (M:=Mb (Hd0 142 2 RowM.c) ([])::_) (fun _=>Mb_nil) ?_
 refine WP.loopK (fun (i:Nat)=>[(2,.int .i64 i)]) (fun (i:Nat)=>Mb (Hd0 142 2 RowM.c) ((hs.take i).map (fillH mkRow))::Mb (Hd0 142 2 RowM.c) (hs.drop i)::cl p 47 [.int .i64 (n),.slice none 0 0,iv.v,.slice none 0 0,.slice none 0 0,rv.v,.slice none 0 0,.slice none 0 0,.slice none 0 0,.slice none 0 0,.slice none 0 0,.slice none 0 0,.slice none 0 0]::Sl 199 3 hdC (rv.v) (hs)::A::R) [(0,_)] (fun (i:Nat)=>i≤hs.length) (fun (i:Nat)=>hs.length - i) 0 (Nat.zero_le _) ?_
 intro i hi
 refine WP.seq<|WP.seq<|WP.reg<|WL.e e_move<|WL.e e_move<|WL.e e_nil<|WL.e (e_fa f47_5)<|WL.e (e_load a38)<|WL.e (el_len (xs:=hs) sl38 sl_rl)<|WL.e e_lss<|WL.next ?_
 refine WP.cond rfl (fun h1=>?_) (fun h1=>?_)
 ·have hlt:i < hs.length:=by simp at h1;omega
  obtain ⟨h,hx⟩:∃ h,hs[i]?=some h:=⟨_,List.getElem?_eq_getElem hlt⟩
  obtain ⟨hk1,hk2⟩:=hk h (List.mem_of_getElem? hx)
  refine WP.opn (Mb_head (drop_at hx)) fun _=>?_
  unfold Hd0
  refine WP.skip<|PO.next<|WP.seq<|WP.block<|WP.seq<|WP.reg<|WL.e e_move<|WL.e e_nil<|WL.e (e_fa f47_5)<|WL.e (e_load a38)<|WL.e e_move<|WL.e (el_ia (j:=i) (xs:=hs) sl38 sl_rl hlt)<|WL.e (el_loadN (j:=i) (xs:=hs) (a:=h) a199 hdE sl_rl hx) ?_
  refine WL.h (h_alloc z199 fun b1=>?_)
  refine WL.h' (h_store s199 ?_)
  refine WL.next<|WP.seq<|WP.reg<|WL.e e_assign<|WL.next<|WP.block<|WP.loopK (fun (j:Nat)=>[(4,.int .i64 j)]) (fun (j:Nat)=>Sl 142 2 RowM.c (h.l.v) (List.replicate j (mkRow h.n)++h.ws.drop j)::Mb (Hd0 142 2 RowM.c) ((hs.take i).map (fillH mkRow))::Mb (Hd0 142 2 RowM.c) (hs.drop (i+1))::cl b1 199 [h.l.v,h.long.v,.int .i64 h.n]::cl p 47 [.int .i64 (n),.slice none 0 0,iv.v,.slice none 0 0,.slice none 0 0,rv.v,.slice none 0 0,.slice none 0 0,.slice none 0 0,.slice none 0 0,.slice none 0 0,.slice none 0 0,.slice none 0 0]::Sl 199 3 hdC (rv.v) (hs)::A::R) [(0,_),(2,_),(3,_),(5,_),(6,_),(7,_),(8,_),(9,_),(10,_),(11,_),(14,_),(15,_),(16,_),(17,_),(18,_),(19,_),(20,_)] (fun (j:Nat)=>j≤h.ws.length) (fun (j:Nat)=>h.ws.length - j) 0 (Nat.zero_le _) ?_
  intro j hj
  refine WP.seq<|WP.seq<|WP.reg<|WL.e e_move<|WL.e (e_fa f199_0)<|WL.e (e_load a59)<|WL.e (el_len (xs:=List.replicate j (mkRow h.n)++h.ws.drop j) sl59 sl_rl)<|WL.e e_lss<|WL.next ?_
  refine WP.cond rfl (fun h2=>?_) (fun h2=>?_)
  ·have hlj:j < h.ws.length:=by simp at h2;omega
   refine WP.skip<|PO.next<|WP.seq<|WP.block<|WP.draws mixedOk 8<|RW.e 0 rfl (e_fa f199_0)<|RW.e 1 rfl (e_load a59)<|RW.e 2 rfl e_move<|RW.e 3 rfl (e_fa f199_2)<|RW.e 4 rfl (e_load a3) ?_
   refine RW.any (is:=[5]) rfl ⟨?_,trivial⟩
   refine RWat.h rfl rfl rfl ?_
   refine (h_call (markRow_spec hT h.n hk1) k153 ?_)
   refine ⟨⟨⟨_,rfl,.inl ⟨rfl,e_move⟩⟩,⟨_,rfl,.inl ⟨rfl,(e_load a59)⟩⟩,⟨_,rfl,.inl ⟨rfl,(e_fa f199_0)⟩⟩,trivial⟩,?_⟩
   refine RW.e 6 rfl (el_ia (j:=j) (xs:=List.replicate j (mkRow h.n)++h.ws.drop j) sl59 sl_rl (by simp;omega)) ?_
   refine RW.any (is:=[7]) rfl ⟨?_,trivial⟩
   refine RWat.h' rfl rfl rfl ?_
   refine (hl_store (xs:=List.replicate j (mkRow h.n)++h.ws.drop j) (j:=j) (mkRow h.n) s142 rowE (by simp;omega) ?_)
   refine ⟨trivial,?_⟩
   refine RW.done<|PO.blockN<|PO.next<|WP.reg<|WL.e e_move<|WL.e (e_add (c:=((j+1:Nat):Int)) rfl rfl (by rw [w_i64 (by omega) (by omega)];omega))<|WL.e e_assign<|WL.nil ?_
   rw [rep_set hlj]
   exact PO.againK (j+1) (by omega) (by omega)
  ·rw [rep_all (show h.ws.length=j by simp at h2;omega)]
   refine WP.exit<|PO.past nofun<|PO.round nofun<|PO.blockX<|PO.blockN<|PO.next<|WP.reg<|WL.e e_move<|WL.e (e_add (c:=((i+1:Nat):Int)) rfl rfl (by rw [w_i64 (by omega) (by omega)];omega))<|WL.e e_assign<|WL.nil<|PO.cls (A:=Mb (Hd0 142 2 RowM.c) ((hs.take (i+1)).map (fillH mkRow))) (B:=[Sl 142 2 RowM.c (h.l.v) (List.replicate h.ws.length (mkRow h.n)),Mb (Hd0 142 2 RowM.c) ((hs.take i).map (fillH mkRow))]) (fun S hS=>by rw [take_snoc hx,List.map_append];exact Mb_snoc (x:=fillH mkRow h) S hS) ?_
   exact PO.againK (i+1) (by omega) (by omega)
 ·rw [List.take_of_length_le (show hs.length≤i by simp at h1;omega)]
  refine WP.exit<|PO.past nofun<|PO.round nofun<|PO.blockX ?_
  exact PO.fin Tryz.results74 rv_nil hK
set_option maxHeartbeats 1000000 in
theorem growRow_spec {g:World} {p:Nat} {n:Nat} {iv rv:SV} {hs:List (HeldV RowM)} {A:HP} (hT:Tab Tryz.prog A) (hl:hs.length≤1000) (hk:∀ h ∈ hs,Fil mkRow h):Spec Tryz.prog g 86 [.pointer (some ⟨p,0,none⟩)] [cl p 47 [.int .i64 (n),.slice none 0 0,iv.v,.slice none 0 0,.slice none 0 0,rv.v,.slice none 0 0,.slice none 0 0,.slice none 0 0,.slice none 0 0,.slice none 0 0,.slice none 0 0,.slice none 0 0],Sl 199 3 hdC (rv.v) (hs),Mb (Hd0 142 2 RowM.c) (hs),A] fun K R=>∀ ds,ds.length=hs.length→(∀ h ∈ ds,Grw mkRow h)→K (.tuple #[]) (cl p 47 [.int .i64 (n),.slice none 0 0,iv.v,.slice none 0 0,.slice none 0 0,rv.v,.slice none 0 0,.slice none 0 0,.slice none 0 0,.slice none 0 0,.slice none 0 0,.slice none 0 0,.slice none 0 0]::Sl 199 3 hdC (rv.v) (ds)::Mb (Hd1 142 2 RowM.c) (ds)::A::R):=by
 refine Spec.intro Tryz.func86 rfl Tryz.ntmps86 rfl fun R K hK=>?_
 refine WP.seq<|WP.reg<|WL.e e_assign<|WL.next<|WP.block<|WP.conv (M:=Mb (Hd1 142 2 RowM.c) ([])::_) (fun _=>Mb_nil) ?_
 refine WP.loopK (fun (y:Nat × List (HeldV RowM))=>[(2,.int .i64 y.1)]) (fun (y:Nat × List (HeldV RowM))=>Mb (Hd1 142 2 RowM.c) (y.2)::Mb (Hd0 142 2 RowM.c) (hs.drop y.1)::cl p 47 [.int .i64 (n),.slice none 0 0,iv.v,.slice none 0 0,.slice none 0 0,rv.v,.slice none 0 0,.slice none 0 0,.slice none 0 0,.slice none 0 0,.slice none 0 0,.slice none 0 0,.slice none 0 0]::Sl 199 3 hdC (rv.v) (y.2++hs.drop y.1)::A::R) [(0,_)] (fun (y:Nat × List (HeldV RowM))=>y.2.length=y.1∧y.1≤hs.length∧∀ h ∈ y.2,Grw mkRow h) (fun (y:Nat × List (HeldV RowM))=>hs.length - y.1) (0,[]) (⟨rfl,Nat.zero_le _,by simp⟩) ?_
 rintro ⟨i,ds⟩ ⟨hd,hi,hG⟩
 simp only at hd hi hG
 dsimp only
 refine WP.seq<|WP.seq<|WP.reg<|WL.e e_move<|WL.e e_move<|WL.e e_nil<|WL.e (e_fa f47_5)<|WL.e (e_load a38)<|WL.e (el_len (xs:=(ds++hs.drop i)) sl38 sl_rl)<|WL.e e_lss<|WL.next ?_
 refine WP.cond rfl (fun h1=>?_) (fun h1=>?_)
 ·have hlt:i < hs.length:=by simp at h1;omega
  obtain ⟨h,hx⟩:∃ h,hs[i]?=some h:=⟨_,List.getElem?_eq_getElem hlt⟩
  obtain ⟨⟨hk1,hk2⟩,hk3⟩:=hk h (List.mem_of_getElem? hx)
  have hdr:=drop_at hx
  have hxX:(ds++hs.drop i)[i]?=some h:=by rw [List.getElem?_append_right (by omega),hd,Nat.sub_self,hdr];rfl
  have hltX:i < (ds++hs.drop i).length:=idx_lt hxX
  refine WP.opn (Mb_head hdr) fun _=>?_
  refine WP.conv (conv1 (A:=Hd0 142 2 RowM.c h) (B:=Gr 142 2 RowM.c h.l.v h.ws (h.l.v) (h.ws)) (fun S hS=>Gr_in hS) (by repeat first | exact .z | apply Put.s)) ?_
  refine WP.skip<|PO.next<|WP.seq<|WP.block<|WP.seq<|WP.reg<|WL.e e_move<|WL.e e_nil<|WL.e (e_fa f47_5)<|WL.e (e_load a38)<|WL.e e_move<|WL.e (el_ia (j:=i) (xs:=(ds++hs.drop i)) sl38 sl_rl hltX)<|WL.e (el_loadN (j:=i) (xs:=(ds++hs.drop i)) (a:=h) a199 hdE sl_rl hxX) ?_
  refine WL.h (h_alloc z199 fun b1=>?_)
  refine WL.h' (h_store s199 ?_)
  refine WL.next<|WP.seq<|WP.reg<|WL.e (e_fa f199_0)<|WL.e (e_load a59)<|WL.e e_assign<|WL.next<|WP.seq<|WP.seq<|WP.reg<|WL.e e_assign<|WL.next<|WP.block ?_
  have hk4:h.ws=List.replicate (h.ws.length+0) (mkRow h.n):=hk3
  refine WP.conv (conv1 (A:=Gr 142 2 RowM.c h.l.v h.ws (h.l.v) (h.ws)) (B:=Gr 142 2 RowM.c h.l.v h.ws (h.l.v) (List.replicate (h.ws.length+0) (mkRow h.n))) (fun S hS=>by rw [← hk4];exact hS) (by repeat first | exact .z | apply Put.s)) ?_
  refine WP.loopK (fun (y:Nat × Value)=>[(5,.int .i64 y.1),(4,y.2)]) (fun (y:Nat × Value)=>Gr 142 2 RowM.c h.l.v h.ws (y.2) (List.replicate (h.ws.length+y.1) (mkRow h.n))::Mb (Hd1 142 2 RowM.c) (ds)::Mb (Hd0 142 2 RowM.c) (hs.drop (i+1))::cl b1 199 [h.l.v,h.long.v,.int .i64 h.n]::cl p 47 [.int .i64 (n),.slice none 0 0,iv.v,.slice none 0 0,.slice none 0 0,rv.v,.slice none 0 0,.slice none 0 0,.slice none 0 0,.slice none 0 0,.slice none 0 0,.slice none 0 0,.slice none 0 0]::Sl 199 3 hdC (rv.v) ((ds++hs.drop i))::A::R) [(0,_),(2,_),(3,_),(6,_),(7,_),(8,_),(9,_),(10,_),(11,_),(12,_),(15,_),(16,_),(17,_),(18,_),(19,_),(20,_),(21,_),(22,_),(23,_)] (fun (y:Nat × Value)=>y.1≤40) (fun (y:Nat × Value)=>40 - y.1) (0,h.l.v) (Nat.zero_le _) ?_
  rintro ⟨j,u⟩ hj
  simp only at hj
  dsimp only
  refine WP.seq<|WP.seq<|WP.reg<|WL.e e_move<|WL.e e_lss<|WL.next ?_
  refine WP.cond rfl (fun h2=>?_) (fun h2=>?_)
  ·replace h2:j < 40:=by simp at h2;omega
   refine WP.skip<|PO.next<|WP.seq<|WP.block<|WP.reg<|WL.e e_move<|WL.e (e_fa f199_2)<|WL.e (e_load a3) ?_
   refine WL.h (h_call (markRow_spec hT h.n hk1) k153 ?_)
   refine WL.h (h_bs sl59 z142 (.a2 (.tmp 31) rfl<|.n) fun b2=>?_)
   refine WL.h (hl_append_gr (ws:=h.ws) (l:=h.l.v) (xs:=List.replicate (h.ws.length+j) (mkRow h.n)) sl59 rowE z142 (lit_rl rowE [(mkRow h.n)] rfl) (by simp;omega) fun a9 m9 c9=>?_)
   refine WL.e e_assign<|WL.nil<|PO.blockN<|PO.next<|WP.reg<|WL.e e_move<|WL.e (e_add (c:=((j+1:Nat):Int)) rfl rfl (by rw [w_i64 (by omega) (by omega)];omega))<|WL.e e_assign<|WL.nil ?_
   rw [rep_snoc]
   exact PO.againK (j+1,.slice a9 m9 c9) (by simp only;omega) (by simp only;omega)
  ·obtain rfl:j=40:=by simp at h2;omega
   refine WP.know (φ:=∃ a m c,u=.slice a m c) (Pick.know (A:=Gr 142 2 RowM.c h.l.v h.ws (u) (List.replicate (h.ws.length+40) (mkRow h.n))) (by repeat first | exact .z | apply Pick.s) fun S hS=>Gr_shape hS) fun hy=>?_
   obtain ⟨a8,m8,c8,rfl⟩:=hy
   refine WP.exit<|PO.past nofun<|PO.round nofun<|PO.blockX<|PO.next<|WP.reg<|WL.e e_move<|WL.e e_nil<|WL.e (e_fa f47_5)<|WL.e (e_load a38)<|WL.e e_move<|WL.e e_move<|WL.e (el_ia (j:=i) (xs:=(ds++hs.drop i)) sl38 sl_rl hltX)<|WL.e (el_fa (z:=3) (j:=i) (xs:=(ds++hs.drop i)) f199_1 sl_rl hltX) ?_
   refine WL.h' (hl_set (y:=0) (j:=0) (f:=i * 3+1) (n:=(ds++hs.drop i).length) (z:=3) (E:=199) (cs:=(ds++hs.drop i).flatMap hdC) s59 (by omega) ?_ rfl)
   rw [flat_setF (xs:=(ds++hs.drop i)) (a:=h) (a':=({ h with long:=⟨a8,m8,c8⟩,xs:=List.replicate (h.ws.length+40) (mkRow h.n) }:HeldV RowM)) hdE hxX (by decide) rfl,show Own 199 3 rv.v (ds++hs.drop i).length (((ds++hs.drop i).set i ({ h with long:=⟨a8,m8,c8⟩,xs:=List.replicate (h.ws.length+40) (mkRow h.n) }:HeldV RowM)).flatMap hdC)=Sl 199 3 hdC (rv.v) ((ds++hs.drop i).set i ({ h with long:=⟨a8,m8,c8⟩,xs:=List.replicate (h.ws.length+40) (mkRow h.n) }:HeldV RowM)) by unfold Sl;rw [List.length_set],show (ds++hs.drop i).set i ({ h with long:=⟨a8,m8,c8⟩,xs:=List.replicate (h.ws.length+40) (mkRow h.n) }:HeldV RowM)=(ds++[({ h with long:=⟨a8,m8,c8⟩,xs:=List.replicate (h.ws.length+40) (mkRow h.n) }:HeldV RowM)])++hs.drop (i+1) by rw [hdr,List.set_append_right _ _ (by omega),hd,Nat.sub_self,List.set_cons_zero,List.append_assoc];rfl]
   refine WL.nil<|PO.blockN<|PO.next<|WP.reg<|WL.e e_move<|WL.e (e_add (c:=((i+1:Nat):Int)) rfl rfl (by rw [w_i64 (by omega) (by omega)];omega))<|WL.e e_assign<|WL.nil<|PO.cls (A:=Mb (Hd1 142 2 RowM.c) (ds++[({ h with long:=⟨a8,m8,c8⟩,xs:=List.replicate (h.ws.length+40) (mkRow h.n) }:HeldV RowM)])) (B:=[Gr 142 2 RowM.c h.l.v h.ws (.slice a8 m8 c8) (List.replicate (h.ws.length+40) (mkRow h.n)),Mb (Hd1 142 2 RowM.c) (ds)]) (fun S hS=>Mb_snoc (x:=({ h with long:=⟨a8,m8,c8⟩,xs:=List.replicate (h.ws.length+40) (mkRow h.n) }:HeldV RowM)) S hS) ?_
   exact PO.againK (i+1,ds++[({ h with long:=⟨a8,m8,c8⟩,xs:=List.replicate (h.ws.length+40) (mkRow h.n) }:HeldV RowM)]) ⟨by simp [hd],by simp only;omega,fun y hy=>by
    rcases List.mem_append.1 hy with hy | hy
    ·exact hG y hy
    ·simp only [List.mem_singleton] at hy;subst hy;exact ⟨⟨hk1,hk2⟩,hk3,rfl⟩⟩ (by simp only;omega)
 ·have hds:hs.drop i=[]:=List.drop_eq_nil_of_le (by simp at h1;omega)
  rw [hds,List.append_nil]
  refine WP.exit<|PO.past nofun<|PO.round nofun<|PO.blockX ?_
  exact PO.fin Tryz.results86 rv_nil (hK ds (by rw [hd];simp at h1;omega) hG)
set_option maxHeartbeats 1000000 in
theorem lookRow_spec {g:World} {p:Nat} {n:Nat} {iv rv:SV} {hs:List (HeldV RowM)} {A:HP} (hT:Tab Tryz.prog A) (hl:hs.length≤1000) (hk:∀ h ∈ hs,Grw mkRow h):Spec Tryz.prog g 98 [.pointer (some ⟨p,0,none⟩)] [cl p 47 [.int .i64 (n),.slice none 0 0,iv.v,.slice none 0 0,.slice none 0 0,rv.v,.slice none 0 0,.slice none 0 0,.slice none 0 0,.slice none 0 0,.slice none 0 0,.slice none 0 0,.slice none 0 0],Sl 199 3 hdC (rv.v) (hs),Mb (Hd1 142 2 RowM.c) (hs),A] fun K R=>K (.bool true) (cl p 47 [.int .i64 (n),.slice none 0 0,iv.v,.slice none 0 0,.slice none 0 0,rv.v,.slice none 0 0,.slice none 0 0,.slice none 0 0,.slice none 0 0,.slice none 0 0,.slice none 0 0,.slice none 0 0]::Sl 199 3 hdC (rv.v) (hs)::Mb (Hd1 142 2 RowM.c) (hs)::A::R):=by
 refine Spec.intro Tryz.func98 rfl Tryz.ntmps98 rfl fun R K hK=>?_
 refine WP.seq<|WP.reg<|WL.e e_assign<|WL.next<|WP.seq<|WP.seq<|WP.reg<|WL.e e_assign<|WL.next<|WP.block<|WP.loopK (fun (i:Nat)=>[(3,.int .i64 i)]) (fun (i:Nat)=>Mb (Hd1 142 2 RowM.c) (hs)::cl p 47 [.int .i64 (n),.slice none 0 0,iv.v,.slice none 0 0,.slice none 0 0,rv.v,.slice none 0 0,.slice none 0 0,.slice none 0 0,.slice none 0 0,.slice none 0 0,.slice none 0 0,.slice none 0 0]::Sl 199 3 hdC (rv.v) (hs)::A::R) [(0,_)] (fun (i:Nat)=>i≤hs.length) (fun (i:Nat)=>hs.length - i) 0 (Nat.zero_le _) ?_
 intro i hi
 refine WP.seq<|WP.seq<|WP.reg<|WL.e e_move<|WL.e e_move<|WL.e e_nil<|WL.e (e_fa f47_5)<|WL.e (e_load a38)<|WL.e (el_len (xs:=hs) sl38 sl_rl)<|WL.e e_lss<|WL.next ?_
 refine WP.cond rfl (fun h1=>?_) (fun h1=>?_)
 ·have hlt:i < hs.length:=by simp at h1;omega
  obtain ⟨h,hx⟩:∃ h,hs[i]?=some h:=⟨_,List.getElem?_eq_getElem hlt⟩
  have hm:=List.mem_of_getElem? hx
  obtain ⟨⟨hk1,hk2⟩,hk3,hk4⟩:=hk h hm
  have hl1:h.xs.length=h.ws.length+40:=by rw [hk4];simp
  refine WP.skip<|PO.next<|WP.seq<|WP.block<|WP.seq<|WP.reg<|WL.e e_move<|WL.e e_nil<|WL.e (e_fa f47_5)<|WL.e (e_load a38)<|WL.e e_move<|WL.e (el_ia (j:=i) (xs:=hs) sl38 sl_rl hlt)<|WL.e (el_loadN (j:=i) (xs:=hs) (a:=h) a199 hdE sl_rl hx) ?_
  refine WL.h (h_alloc z199 fun b1=>?_)
  refine WL.h' (h_store s199 ?_)
  refine WL.next<|WP.seq<|WP.seq<|WP.reg<|WL.e (e_fa f199_1)<|WL.e (e_load a59)<|WL.e (el_len (xs:=h.xs) sl59 (RL.ge (Gr_u (l:=h.l.v) (ws:=h.ws) (E:=142)) (mb_ge (F:=Hd1 142 2 RowM.c) hm)))<|WL.e (e_fa f199_0)<|WL.e (e_load a59)<|WL.e (el_len (xs:=h.ws) sl59 (RL.ge (Gr_l (u:=h.long.v) (xs:=h.xs) (E:=142) rowE) (mb_ge (F:=Hd1 142 2 RowM.c) hm)))<|WL.e (e_add (c:=((h.ws.length+40:Nat):Int)) rfl rfl (by rw [w_i64 (by omega) (by omega)];omega))<|WL.e e_neq<|WL.next ?_
  refine WP.cond rfl (fun h2=>?_) (fun h2=>?_)
  ·rw [hl1] at h2;simp at h2
  ·skip
   refine WP.skip<|PO.next<|WP.seq<|WP.reg<|WL.e e_assign<|WL.next<|WP.block<|WP.loopK (fun (j:Nat)=>[(5,.int .i64 j)]) (fun (j:Nat)=>Mb (Hd1 142 2 RowM.c) (hs)::cl p 47 [.int .i64 (n),.slice none 0 0,iv.v,.slice none 0 0,.slice none 0 0,rv.v,.slice none 0 0,.slice none 0 0,.slice none 0 0,.slice none 0 0,.slice none 0 0,.slice none 0 0,.slice none 0 0]::Sl 199 3 hdC (rv.v) (hs)::cl b1 199 [h.l.v,h.long.v,.int .i64 h.n]::A::R) [(0,_),(3,_),(4,_),(6,_),(7,_),(8,_),(9,_),(10,_),(11,_),(12,_),(15,_),(16,_),(17,_),(18,_),(19,_),(20,_),(21,_),(22,_),(23,_),(24,_),(25,_),(26,_),(27,_),(28,_),(29,_)] (fun (j:Nat)=>j≤h.xs.length) (fun (j:Nat)=>h.xs.length - j) 0 (Nat.zero_le _) ?_
   intro j hj
   refine WP.seq<|WP.seq<|WP.reg<|WL.e e_move<|WL.e (e_fa f199_1)<|WL.e (e_load a59)<|WL.e (el_len (xs:=h.xs) sl59 (RL.ge (Gr_u (l:=h.l.v) (ws:=h.ws) (E:=142)) (mb_ge (F:=Hd1 142 2 RowM.c) hm)))<|WL.e e_lss<|WL.next ?_
   refine WP.cond rfl (fun h3=>?_) (fun h3=>?_)
   ·have hlj:j < h.xs.length:=by simp at h3;omega
    have hxj:h.xs[j]?=some (mkRow h.n):=by rw [hk4];exact rep_at (by omega)
    refine WP.skip<|PO.next<|WP.seq<|WP.block<|WP.seq<|WP.draws mixedOk 27<|RW.e 0 rfl (e_fa f199_1)<|RW.e 1 rfl (e_load a59)<|RW.e 2 rfl e_move<|RW.e 3 rfl (el_ia (j:=j) (xs:=h.xs) sl59 (RL.ge (Gr_u (l:=h.l.v) (ws:=h.ws) (E:=142)) (mb_ge (F:=Hd1 142 2 RowM.c) hm)) hlj)<|RW.e 4 rfl (el_loadN (j:=j) (xs:=h.xs) (a:=(mkRow h.n)) a142 rowE (RL.ge (Gr_u (l:=h.l.v) (ws:=h.ws) (E:=142)) (mb_ge (F:=Hd1 142 2 RowM.c) hm)) hxj)<|RW.e 5 rfl (e_fa f199_2)<|RW.e 6 rfl (e_load a3) ?_
    refine RW.any (is:=[7]) rfl ⟨?_,trivial⟩
    refine RWat.h rfl rfl rfl ?_
    refine (h_call (isRow_spec hT (mkRow h.n) h.n hk1) k165 ?_)
    rw [show sEq (mkRow h.n).key (wdB h.n)=true from sEq_iff.2 rfl]
    refine ⟨trivial,?_⟩
    refine RW.e 8 rfl e_not<|RW.e 9 rfl e_move ?_
    refine RW.bool 46 rfl (fun e1=>?_) (fun e1=>?_)
    ·cases e1 
    ·skip
     refine RW.e 10 rfl e_move<|RW.e 11 rfl (e_fa f199_0)<|RW.e 12 rfl (e_load a59)<|RW.e 13 rfl (el_len (xs:=h.ws) sl59 (RL.ge (Gr_l (u:=h.long.v) (xs:=h.xs) (E:=142) rowE) (mb_ge (F:=Hd1 142 2 RowM.c) hm)))<|RW.e 14 rfl e_lss<|RW.e 15 rfl e_move ?_
     refine RW.bool 52 rfl (fun e2=>?_) (fun e2=>?_)
     ·have hlw:j < h.ws.length:=by simpa using e2
      have hwj:h.ws[j]?=some (mkRow h.n):=by rw [hk3];exact rep_at hlw
      refine RW.e 16 rfl (e_fa f199_0)<|RW.e 17 rfl (e_load a59)<|RW.e 18 rfl e_move<|RW.e 19 rfl (el_ia (j:=j) (xs:=h.ws) sl59 (RL.ge (Gr_l (u:=h.long.v) (xs:=h.xs) (E:=142) rowE) (mb_ge (F:=Hd1 142 2 RowM.c) hm)) hlw)<|RW.e 20 rfl (el_loadN (j:=j) (xs:=h.ws) (a:=(mkRow h.n)) a142 rowE (RL.ge (Gr_l (u:=h.long.v) (xs:=h.xs) (E:=142) rowE) (mb_ge (F:=Hd1 142 2 RowM.c) hm)) hwj)<|RW.e 21 rfl (e_fa f199_2)<|RW.e 22 rfl (e_load a3) ?_
      refine RW.any (is:=[23]) rfl ⟨?_,trivial⟩
      refine RWat.h rfl rfl rfl ?_
      refine (h_call (isRow_spec hT (mkRow h.n) h.n hk1) k165 ?_)
      rw [show sEq (mkRow h.n).key (wdB h.n)=true from sEq_iff.2 rfl]
      refine ⟨trivial,?_⟩
      refine RW.e 24 rfl e_not<|RW.e 25 rfl e_pick_t<|RW.e 26 rfl e_pick_f<|RW.done<|PO.next ?_
      refine WP.cond rfl (fun h9=>?_) (fun h9=>?_)
      ·cases h9
      ·skip
       refine WP.skip<|PO.blockN<|PO.next<|WP.reg<|WL.e e_move<|WL.e (e_add (c:=((j+1:Nat):Int)) rfl rfl (by rw [w_i64 (by omega) (by omega)];omega))<|WL.e e_assign<|WL.nil ?_
       exact PO.againK (j+1) (by omega) (by omega)
     ·skip
      refine RW.skip 16 rfl<|RW.skip 17 rfl<|RW.skip 18 rfl<|RW.skip 19 rfl<|RW.skip 20 rfl<|RW.skip 21 rfl<|RW.skip 22 rfl<|RW.skip 23 rfl<|RW.skip 24 rfl<|RW.e 25 rfl e_pick_f<|RW.e 26 rfl e_pick_f<|RW.done<|PO.next<|WP.cond_f rfl<|WP.skip<|PO.blockN<|PO.next<|WP.reg<|WL.e e_move<|WL.e (e_add (c:=((j+1:Nat):Int)) rfl rfl (by rw [w_i64 (by omega) (by omega)];omega))<|WL.e e_assign<|WL.nil ?_
      exact PO.againK (j+1) (by omega) (by omega)
   ·skip
    refine WP.exit<|PO.past nofun<|PO.round nofun<|PO.blockX<|PO.blockN<|PO.next<|WP.reg<|WL.e e_move<|WL.e (e_add (c:=((i+1:Nat):Int)) rfl rfl (by rw [w_i64 (by omega) (by omega)];omega))<|WL.e e_assign<|WL.nil ?_
    exact PO.againK (i+1) (by omega) (by omega)
 ·skip
  refine WP.exit<|PO.past nofun<|PO.round nofun<|PO.blockX<|PO.next<|WP.seq<|WP.reg<|WL.e e_assign<|WL.next<|WP.ret ?_
  exact PO.fin Tryz.results98 (rv_tmp rv_nil) hK
end Go.SL
