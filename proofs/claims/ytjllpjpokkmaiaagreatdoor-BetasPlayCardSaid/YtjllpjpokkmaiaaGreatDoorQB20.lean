import Derived.Test.YtjllpjpokkmaiaaGreatDoorQB19
set_option linter.unusedSimpArgs false
set_option linter.unusedVariables false
namespace Go.SL.Fc
open Go Go.Proofs Go.SL
theorem a164:aggOf Tryz.prog 164=some none:=by kernel_rfl
theorem a165:aggOf Tryz.prog 165=some none:=by kernel_rfl
theorem f167_0:fldOf Tryz.prog 167 0=some 0:=by kernel_rfl
theorem f167_1:fldOf Tryz.prog 167 1=some 1:=by kernel_rfl
theorem f167_2:fldOf Tryz.prog 167 2=some 2:=by kernel_rfl
theorem k132:callable Tryz.prog 132=true:=by kernel_rfl
theorem k133:callable Tryz.prog 133=true:=by kernel_rfl
theorem k41:callable Tryz.prog 41=true:=by kernel_rfl
theorem p167:placesOf Tryz.prog 167=some [(0,1),(1,1),(2,1)]:=by kernel_rfl
theorem s164:szOf Tryz.prog 164=some 1:=by kernel_rfl
theorem s165:szOf Tryz.prog 165=some 1:=by kernel_rfl
theorem sl164:slOf Tryz.prog 164=some (59,1,24):=by kernel_rfl
theorem sl165:slOf Tryz.prog 165=some (91,1,24):=by kernel_rfl
theorem z167:zeroOf Tryz.prog 167=some [.slice none 0 0,.slice none 0 0,.int .u32 0]:=by kernel_rfl
theorem z91:zeroOf Tryz.prog 91=some [.slice none 0 0]:=by kernel_rfl
end Go.SL.Fc
namespace Go.SL
open Go Go.Proofs Fc
structure PaI (H:List (List ChgM)) where
 A:HP
 rv:SV
 cv:SV
 rl:List SV
 cl_:List SV
 hrl:rl.length=H.length+1
 hr:∀ (i:Nat) (v:SV),rl[i]?=some v→RL A 2 RowM.c v.v (rowsN H i)
 hcl:cl_.length=H.length
 hc:∀ (i:Nat) (v:SV) (cs:List ChgM),cl_[i]?=some v→H[i]?=some cs→RL A 3 ChgM.c v.v cs
def Pas (pb:Nat) (H:List (List ChgM)):HP:=fun S=>∃ x:PaI H,stars [cl pb 167 [x.rv.v,x.cv.v,.int .u32 0],x.A,Sl 59 1 hvC (x.rv.v) (x.rl),Sl 91 1 hvC (x.cv.v) (x.cl_)] S
theorem Pas_op {pb:Nat} {H:List (List ChgM)}:∀ S,Pas pb H S→∃ x:PaI H,stars [cl pb 167 [x.rv.v,x.cv.v,.int .u32 0],x.A,Sl 59 1 hvC (x.rv.v) (x.rl),Sl 91 1 hvC (x.cv.v) (x.cl_)] S:=fun S h=>h
theorem pNew_spec {g:World}:Spec Tryz.prog g 37 [] [] fun K R=>∀ pb,K (.pointer (some ⟨pb,0,none⟩)) (Pas pb []::R):=by
 refine Spec.intro Tryz.func37 rfl Tryz.ntmps37 rfl fun R K hK=>?_
 refine WP.seq<|WP.reg<|WL.e e_assign<|WL.next<|WP.seq<|WP.reg ?_
 refine WL.h (h_bs sl164 z59 (.o (.const (.slice none 0 0)) rfl<|.n) fun b1=>?_)
 refine WL.e (e_build z167 p167 (.o (.tmp 1) rfl<|.z (.slice none 0 0)<|.z (.int .u32 0)<|.n)) ?_
 refine WL.h (h_box fun b2=>?_)
 refine WL.e e_assign<|WL.next<|WP.ret<|PO.cls (A:=Sl 59 1 hvC (.slice (some ⟨b1,0,none⟩) 1 1) [⟨none,0,0⟩]) (B:=[cl b1 59 [.slice none 0 0]]) (fun S ⟨S1,_,_,l1,_,h,_⟩=>own_up (lit_own hvE [(⟨none,0,0⟩:SV)] rfl rfl (by simp) S1 h) l1) ?_
 refine PO.nils 91 1 hvC none ?_
 refine PO.conv (M:=pu True::_) (fun S h=>pu_stars trivial h) ?_
 refine PO.cls (A:=Pas b2 []) (B:=[cl b2 167 [.slice (some ⟨b1,0,none⟩) 1 1,.slice none 0 0,.int .u32 0],pu True,Sl 59 1 hvC (.slice (some ⟨b1,0,none⟩) 1 1) [⟨none,0,0⟩],Sl 91 1 hvC (.slice none 0 0) []]) (fun S h=>⟨⟨pu True,⟨some ⟨b1,0,none⟩,1,1⟩,⟨none,0,0⟩,[⟨none,0,0⟩],[],rfl,fun i v hv=>by
  have hi:=idx_lt hv
  obtain rfl:i=0:=by simpa using hi
  obtain rfl:v=⟨none,0,0⟩:=by simpa using hv.symm
  exact nil_rl,rfl,fun i v cs hv=>by simp at hv⟩,h⟩) ?_
 exact PO.fin Tryz.results37 (rv_tmp rv_nil) (hK b2)
theorem pNow_spec {g:World} {pb:Nat} {rv cv:SV} {cl_:List SV}:Spec Tryz.prog g 41 [.pointer (some ⟨pb,0,none⟩)] [cl pb 167 [rv.v,cv.v,.int .u32 0],Sl 91 1 hvC (cv.v) (cl_)] fun K R=>K (.int .u32 (UInt32.ofNat cl_.length).toNat) (cl pb 167 [rv.v,cv.v,.int .u32 0]::Sl 91 1 hvC (cv.v) (cl_)::R):=by
 refine Spec.intro Tryz.func41 rfl Tryz.ntmps41 rfl fun R K hK=>?_
 refine WP.seq<|WP.reg<|WL.e e_assign<|WL.next<|WP.seq<|WP.reg<|WL.e e_move<|WL.e e_nil<|WL.e (e_fa f167_1)<|WL.e (e_load a165)<|WL.e (el_len (xs:=cl_) sl165 sl_rl)<|WL.e (e_c32 (by rw [Tryz.underlying3];rfl) Tryz.underlying48)<|WL.e e_assign<|WL.next<|WP.ret ?_
 exact PO.fin Tryz.results41 (rv_tmp rv_nil) hK
theorem pAt_spec {g:World} {pb:Nat} {rv cv:SV} {rl cl_:List SV} {v:SV} (at_:UInt32) (hv:rl[at_.toNat]?=some v) (h:at_.toNat≤cl_.length) (hl:cl_.length≤1000000000):Spec Tryz.prog g 62 [.pointer (some ⟨pb,0,none⟩),.int .u32 at_.toNat] [cl pb 167 [rv.v,cv.v,.int .u32 0],Sl 59 1 hvC (rv.v) (rl),Sl 91 1 hvC (cv.v) (cl_)] fun K R=>K v.v (cl pb 167 [rv.v,cv.v,.int .u32 0]::Sl 59 1 hvC (rv.v) (rl)::Sl 91 1 hvC (cv.v) (cl_)::R):=by
 refine Spec.intro Tryz.func62 rfl Tryz.ntmps62 rfl fun R K hK=>?_
 refine WP.seq<|WP.reg<|WL.e e_assign<|WL.next<|WP.seq<|WP.draws mixedOk 16<|RW.e 0 rfl e_move<|RW.e 1 rfl e_nil<|RW.e 2 rfl (e_fa f167_0)<|RW.e 3 rfl (e_load a164)<|RW.e 4 rfl e_move<|RW.e 5 rfl e_move<|RW.e 6 rfl e_nil<|RW.e 7 rfl (e_fa f167_2)<|RW.e 8 rfl (e_load a48)<|RW.e 9 rfl e_max0<|RW.e 10 rfl e_move ?_
 refine RW.any (is:=[11]) rfl ⟨?_,trivial⟩
 refine RWat.h rfl rfl rfl ?_
 refine (h_call (pNow_spec (cl_:=cl_)) k41 ?_)
 have e32:(UInt32.ofNat cl_.length).toNat=cl_.length:=by rw [UInt32.toNat_ofNat'];omega
 rw [e32]
 refine ⟨⟨⟨_,rfl,.inl ⟨rfl,e_max0⟩⟩,⟨_,rfl,.inl ⟨rfl,(e_load a48)⟩⟩,⟨_,rfl,.inl ⟨rfl,(e_fa f167_2)⟩⟩,⟨_,rfl,.inl ⟨rfl,e_nil⟩⟩,⟨_,rfl,.inl ⟨rfl,e_move⟩⟩,⟨_,rfl,.inl ⟨rfl,e_move⟩⟩,⟨_,rfl,.inl ⟨rfl,(e_load a164)⟩⟩,⟨_,rfl,.inl ⟨rfl,(e_fa f167_0)⟩⟩,⟨_,rfl,.inl ⟨rfl,e_nil⟩⟩,⟨_,rfl,.inl ⟨rfl,e_move⟩⟩,trivial⟩,?_⟩
 refine RW.e 12 rfl (e_min_le (a:=((at_.toNat:Nat):Int)) (b:=((cl_.length:Nat):Int)) (by omega))<|RW.e 13 rfl (el_ia (j:=at_.toNat) (xs:=rl) sl164 sl_rl (idx_lt hv))<|RW.e 14 rfl (el_load0 (j:=at_.toNat) (xs:=rl) (a:=v) a59 hvE sl_rl hv)<|RW.e 15 rfl e_assign<|RW.done<|PO.next<|WP.ret ?_
 exact PO.fin Tryz.results62 (rv_tmp rv_nil) hK
theorem pMay_spec {g:World} {A:HP} {u:Value} {l:List ChgM} (hA:RL A 3 ChgM.c u l) (hn:l.length≤1000000000) (hk:∀ c ∈ l,chgOk c=true):Spec Tryz.prog g 133 [u] [A] fun K R=>K (.bool true) (A::R):=by
 refine Spec.intro Tryz.func133 rfl Tryz.ntmps133 rfl fun R K hK=>?_
 refine WP.seq<|WP.reg<|WL.e e_assign<|WL.next<|WP.seq<|WP.seq<|WP.reg<|WL.e e_assign<|WL.next<|WP.block<|WP.loopK (fun (i:Nat)=>[(3,.int .i64 i)]) (fun (i:Nat)=>A::R) [(0,_)] (fun (i:Nat)=>i≤l.length) (fun (i:Nat)=>l.length - i) 0 (Nat.zero_le _) ?_
 intro i hi
 refine WP.seq<|WP.seq<|WP.reg<|WL.e e_move<|WL.e e_move<|WL.e (el_len sl91 hA)<|WL.e e_lss<|WL.next ?_
 refine WP.cond rfl (fun h1=>?_) (fun h1=>?_)
 ·have hlt:i < l.length:=by simp at h1;omega
  obtain ⟨x,hx⟩:∃ x,l[i]?=some x:=⟨_,List.getElem?_eq_getElem hlt⟩
  have hkx:=hk x (List.mem_of_getElem? hx)
  have hkk:=chgOk_key hkx
  refine WP.skip<|PO.next<|WP.seq<|WP.block<|WP.seq<|WP.reg<|WL.e e_move<|WL.e e_move<|WL.e (el_ia (j:=i) sl91 hA hlt)<|WL.e (el_fa (z:=3) (j:=i) f127_0 hA hlt)<|WL.e (el_load0 (j:=i) (a:=x) a9 chgE hA hx) ?_
  refine WL.h (h_call (rKey_spec x.key (by have:=keyOk_sz hkk;omega)) k140 ?_)
  rw [hkk]
  refine WL.e e_not<|WL.e e_move ?_
  refine WL.bool 17 rfl (fun e1=>?_) (fun e1=>?_)
  ·cases e1 
  ·skip
   refine WL.e e_move<|WL.e e_move<|WL.e (el_ia (j:=i) sl91 hA hlt)<|WL.e (el_fa (z:=3) (j:=i) f127_2 hA hlt)<|WL.e (el_load (f:=2) (j:=i) (a:=x) a4 chgE hA hx)<|WL.e e_move ?_
   refine WL.bool 23 rfl (fun e2=>?_) (fun e2=>?_)
   ·have hv0:x.val=0:=by unfold chgOk at hkx;simp [e2] at hkx;exact hkx.2
    refine WL.e e_move<|WL.e e_move<|WL.e (el_ia (j:=i) sl91 hA hlt)<|WL.e (el_fa (z:=3) (j:=i) f127_1 hA hlt)<|WL.e (el_load (f:=1) (j:=i) (a:=x) a48 chgE hA hx)<|WL.e (e_neq32 (b:=0))<|WL.e e_pick_t<|WL.e e_pick_f<|WL.next ?_
    refine WP.cond rfl (fun h9=>?_) (fun h9=>?_)
    ·rw [hv0] at h9;cases h9
    ·skip
     refine WP.skip<|PO.blockN<|PO.next<|WP.reg<|WL.e e_move<|WL.e (e_add (c:=((i+1:Nat):Int)) rfl rfl (by rw [w_i64 (by omega) (by omega)];omega))<|WL.e e_assign<|WL.nil ?_
     exact PO.againK (i+1) (by omega) (by omega)
   ·skip
    refine WL.skip<|WL.skip<|WL.skip<|WL.skip<|WL.skip<|WL.skip<|WL.e e_pick_f<|WL.e e_pick_f<|WL.next<|WP.cond_f rfl<|WP.skip<|PO.blockN<|PO.next<|WP.reg<|WL.e e_move<|WL.e (e_add (c:=((i+1:Nat):Int)) rfl rfl (by rw [w_i64 (by omega) (by omega)];omega))<|WL.e e_assign<|WL.nil ?_
    exact PO.againK (i+1) (by omega) (by omega)
 ·skip
  refine WP.exit<|PO.past nofun<|PO.round nofun<|PO.blockX<|PO.next<|WP.seq<|WP.reg<|WL.e e_assign<|WL.next<|WP.ret ?_
  exact PO.fin Tryz.results133 (rv_tmp rv_nil) hK
set_option maxHeartbeats 2000000 in
theorem pCommit_spec {g:World} {pb:Nat} {H:List (List ChgM)} {C:HP} {y:Value} {cs:List ChgM} (hC:RL C 3 ChgM.c y cs) (hk:∀ c ∈ cs,chgOk c=true) (hH:H.length≤1000000) (hf:H.flatten.length≤1000000) (hn:cs.length≤1000000):Spec Tryz.prog g 51 [.pointer (some ⟨pb,0,none⟩),y] [Pas pb H,C] fun K R=>K (.tuple #[.int .u32 (UInt32.ofNat (H.length+1)).toNat,.int .i64 0]) (Pas pb (H++[cs])::C::R):=by
 refine Spec.intro Tryz.func51 rfl Tryz.ntmps51 rfl fun R K hK=>?_
 refine WP.opn (Pas_op (pb:=pb) (H:=H)) fun x=>?_
 obtain ⟨A,rv,cv,rl,cl_,hrl,hr,hcl,hc⟩:=x
 dsimp only
 refine WP.seq<|WP.reg<|WL.e e_assign<|WL.e e_assign<|WL.next<|WP.seq<|WP.seq<|WP.reg<|WL.e e_move ?_
 refine WL.h (h_call (pMay_spec hC (by omega) hk) k133 ?_)
 refine WL.e e_not<|WL.next<|WP.cond_f rfl<|WP.nils 127 3 ChgM.c none ?_
 obtain ⟨v,hv⟩:∃ v,rl[H.length]?=some v:=⟨_,List.getElem?_eq_getElem (by omega)⟩
 have hrv:=hr H.length v hv
 have hrn:=rowsN_len H H.length
 refine WP.skip<|PO.next<|WP.seq<|WP.draws mixedOk 24<|RW.e 0 rfl e_move<|RW.e 1 rfl e_move<|RW.e 2 rfl e_nil<|RW.e 3 rfl (e_fa f167_0)<|RW.e 4 rfl (e_load a164)<|RW.e 5 rfl e_move<|RW.e 6 rfl e_nil<|RW.e 7 rfl (e_fa f167_0)<|RW.e 8 rfl (e_load a164)<|RW.e 9 rfl e_move<|RW.e 10 rfl e_nil<|RW.e 11 rfl (e_fa f167_0)<|RW.e 12 rfl (e_load a164)<|RW.e 13 rfl (el_len (xs:=rl) sl164 sl_rl)<|RW.e 14 rfl (e_sub (c:=((H.length:Nat):Int)) rfl rfl (by rw [w_i64 (by omega) (by omega)];omega))<|RW.e 15 rfl (el_ia (j:=H.length) (xs:=rl) sl164 sl_rl (idx_lt hv))<|RW.e 16 rfl (el_load0 (j:=H.length) (xs:=rl) (a:=v) a59 hvE sl_rl hv)<|RW.e 17 rfl e_move ?_
 refine RW.any (is:=[18]) rfl ⟨?_,trivial⟩
 refine RWat.h rfl rfl rfl ?_
 refine (h_call (rChange_spec (u:=v) hrv hC (by omega)) k134 ?_)
 intro a1 m1 c1 B hG hR1
 refine ⟨⟨⟨_,rfl,.inl ⟨rfl,(e_load a164)⟩⟩,⟨_,rfl,.inl ⟨rfl,(e_fa f167_0)⟩⟩,⟨_,rfl,.inl ⟨rfl,e_nil⟩⟩,⟨_,rfl,.inl ⟨rfl,e_move⟩⟩,⟨_,rfl,.inl ⟨rfl,e_move⟩⟩,trivial⟩,?_⟩
 refine RW.any (is:=[19]) rfl ⟨?_,trivial⟩
 refine RWat.h rfl rfl rfl ?_
 refine (h_bs sl164 z59 (.o (.tmp 27) rfl<|.n) fun b1=>?_)
 refine ⟨⟨⟨_,rfl,.inl ⟨rfl,(e_load a164)⟩⟩,⟨_,rfl,.inl ⟨rfl,(e_fa f167_0)⟩⟩,⟨_,rfl,.inl ⟨rfl,e_nil⟩⟩,⟨_,rfl,.inl ⟨rfl,e_move⟩⟩,⟨_,rfl,.inl ⟨rfl,e_move⟩⟩,trivial⟩,?_⟩
 refine RW.any (is:=[20]) rfl ⟨?_,trivial⟩
 refine RWat.h rfl rfl rfl ?_
 refine (hl_append (xs:=rl) sl164 hvE z59 (lit_rl hvE [(⟨a1,m1,c1⟩:SV)] rfl) (by simp;omega) fun a2 m2 c2=>?_)
 refine ⟨⟨⟨_,rfl,.inl ⟨rfl,e_move⟩⟩,trivial⟩,?_⟩
 refine RW.e 21 rfl e_nil<|RW.e 22 rfl (e_fa f167_0) ?_
 refine RW.any (is:=[23]) rfl ⟨?_,trivial⟩
 refine RWat.h' rfl rfl rfl ?_
 refine (h_store s164 ?_)
 refine ⟨trivial,?_⟩
 refine RW.done<|PO.next<|WP.seq<|WP.draws mixedOk 12<|RW.e 0 rfl e_move<|RW.e 1 rfl e_move<|RW.e 2 rfl e_nil<|RW.e 3 rfl (e_fa f167_1)<|RW.e 4 rfl (e_load a165)<|RW.e 5 rfl e_move ?_
 refine RW.any (is:=[6]) rfl ⟨?_,trivial⟩
 refine RWat.h rfl rfl rfl ?_
 refine (hl_append (xs:=([]:List ChgM)) sl91 chgE z127 hC (by simp;omega) fun a3 m3 c3=>?_)
 rw [List.nil_append]
 refine ⟨⟨⟨_,rfl,.inl ⟨rfl,(e_load a165)⟩⟩,⟨_,rfl,.inl ⟨rfl,(e_fa f167_1)⟩⟩,⟨_,rfl,.inl ⟨rfl,e_nil⟩⟩,⟨_,rfl,.inl ⟨rfl,e_move⟩⟩,⟨_,rfl,.inl ⟨rfl,e_move⟩⟩,trivial⟩,?_⟩
 refine RW.any (is:=[7]) rfl ⟨?_,trivial⟩
 refine RWat.h rfl rfl rfl ?_
 refine (h_bs sl165 z91 (.o (.tmp 38) rfl<|.n) fun b2=>?_)
 refine ⟨⟨⟨_,rfl,.inl ⟨rfl,(e_load a165)⟩⟩,⟨_,rfl,.inl ⟨rfl,(e_fa f167_1)⟩⟩,⟨_,rfl,.inl ⟨rfl,e_nil⟩⟩,⟨_,rfl,.inl ⟨rfl,e_move⟩⟩,⟨_,rfl,.inl ⟨rfl,e_move⟩⟩,trivial⟩,?_⟩
 refine RW.any (is:=[8]) rfl ⟨?_,trivial⟩
 refine RWat.h rfl rfl rfl ?_
 refine (hl_append (xs:=cl_) sl165 hvE z91 (lit_rl hvE [(⟨a3,m3,c3⟩:SV)] rfl) (by simp;omega) fun a4 m4 c4=>?_)
 refine ⟨⟨⟨_,rfl,.inl ⟨rfl,e_move⟩⟩,trivial⟩,?_⟩
 refine RW.e 9 rfl e_nil<|RW.e 10 rfl (e_fa f167_1) ?_
 refine RW.any (is:=[11]) rfl ⟨?_,trivial⟩
 refine RWat.h' rfl rfl rfl ?_
 refine (h_store s165 ?_)
 refine ⟨trivial,?_⟩
 refine RW.done<|PO.next<|WP.seq<|WP.reg<|WL.e e_move ?_
 refine WL.h (h_call (pNow_spec (cl_:=cl_++[⟨a3,m3,c3⟩]) (rv:=⟨a2,m2,c2⟩) (cv:=⟨a4,m4,c4⟩)) k41 ?_)
 rw [List.length_append,hcl]
 refine WL.e e_assign<|WL.e e_assign<|WL.next<|WP.ret<|PO.cls (A:=bun [B,Sl 127 3 ChgM.c (.slice a3 m3 c3) cs]) (B:=[B,Sl 127 3 ChgM.c (.slice a3 m3 c3) cs]) (fun S h=>h) ?_
 refine PO.cls (A:=Pas pb (H++[cs])) (B:=[cl pb 167 [.slice a2 m2 c2,.slice a4 m4 c4,.int .u32 0],bun [B,Sl 127 3 ChgM.c (.slice a3 m3 c3) cs],Sl 59 1 hvC (.slice a2 m2 c2) (rl++[⟨a1,m1,c1⟩]),Sl 91 1 hvC (.slice a4 m4 c4) (cl_++[⟨a3,m3,c3⟩])]) (fun S h=>⟨⟨bun [B,Sl 127 3 ChgM.c (.slice a3 m3 c3) cs],⟨a2,m2,c2⟩,⟨a4,m4,c4⟩,rl++[⟨a1,m1,c1⟩],cl_++[⟨a3,m3,c3⟩],by simp;omega,past_rows hrl hr hG hR1,by simp;omega,past_chgs hcl hc hG (RL.ge (sl_rl (E:=127)) Ge.two)⟩,h⟩) ?_
 exact PO.fin Tryz.results51 (rv_tmp (rv_tmp rv_nil)) hK
set_option maxHeartbeats 2000000 in
theorem pSince_spec {g:World} {pb:Nat} {H:List (List ChgM)} (at_:UInt32) (sp:SpanM) (hat:at_.toNat≤H.length) (hH:H.length≤1000000) (hf:H.flatten.length≤1000000) (hk:∀ cs ∈ H,∀ c ∈ cs,c.key.size≤1000) (hsp:sp.a.size≤1000∧sp.b.size≤1000):Spec Tryz.prog g 50 [.pointer (some ⟨pb,0,none⟩),.int .u32 at_.toNat,sp.v] [Pas pb H] fun K R=>K (.bool (sinceH H at_.toNat sp)) (Pas pb H::R):=by
 refine Spec.intro Tryz.func50 rfl Tryz.ntmps50 rfl fun R K hK=>?_
 refine WP.opn (Pas_op (pb:=pb) (H:=H)) fun x=>?_
 obtain ⟨A,rv,cv,rl,cl_,hrl,hr,hcl,hc⟩:=x
 dsimp only
 refine WP.seq<|WP.reg ?_
 refine WL.h (h_box fun b1=>?_)
 refine WL.e e_assign<|WL.next<|WP.seq<|WP.seq<|WP.reg<|WL.e e_move<|WL.e e_move<|WL.e e_nil<|WL.e (e_fa f167_2)<|WL.e (e_load a48)<|WL.e (e_lss32 (b:=0))<|WL.next ?_
 refine WP.cond rfl (fun c0=>?_) (fun c0=>?_)
 ·simp [UInt32.lt_iff_toNat_lt] at c0
 ·skip
  refine WP.skip<|PO.next<|WP.seq<|WP.seq<|WP.reg<|WL.e e_move<|WL.e (e_c32to64 (by rw [Tryz.underlying48];rfl) Tryz.underlying3)<|WL.e e_assign<|WL.next<|WP.block<|WP.loopK (fun (n:Nat)=>[(7,.int .i64 n)]) (fun (n:Nat)=>cl pb 167 [rv.v,cv.v,.int .u32 0]::A::Sl 59 1 hvC (rv.v) (rl)::Sl 91 1 hvC (cv.v) (cl_)::cl b1 110 (SpanM.c sp)::R) [(0,_),(5,_)] (fun (n:Nat)=>at_.toNat≤n∧n≤H.length∧∀ k cs,at_.toNat≤k→k < n→H[k]?=some cs→∀ c ∈ cs,meet (one c.key) sp=false) (fun (n:Nat)=>H.length - n) at_.toNat (⟨Nat.le_refl _,hat,fun k cs h1 h2=>by omega⟩) ?_
  rintro n ⟨hn1,hn2,hno⟩
  refine WP.seq<|WP.seq<|WP.reg<|WL.e e_move<|WL.e e_move<|WL.e e_nil<|WL.e (e_fa f167_1)<|WL.e (e_load a165)<|WL.e (el_len (xs:=cl_) sl165 sl_rl)<|WL.e e_lss<|WL.next ?_
  refine WP.cond rfl (fun h1=>?_) (fun h1=>?_)
  ·have hlt:n < H.length:=by simp at h1;omega
   obtain ⟨cs,hx⟩:∃ x,H[n]?=some x:=⟨_,List.getElem?_eq_getElem hlt⟩
   obtain ⟨v,hv⟩:∃ x,cl_[n]?=some x:=⟨_,List.getElem?_eq_getElem (by omega)⟩
   have hcv:=hc n v cs hv hx
   have hm:=List.mem_of_getElem? hx
   have hcl2:=flat_one hm
   refine WP.skip<|PO.next<|WP.seq<|WP.block<|WP.seq<|WP.reg<|WL.e e_assign<|WL.next<|WP.block<|WP.loopK (fun (i:Nat)=>[(8,.int .i64 i)]) (fun (i:Nat)=>cl pb 167 [rv.v,cv.v,.int .u32 0]::A::Sl 59 1 hvC (rv.v) (rl)::Sl 91 1 hvC (cv.v) (cl_)::cl b1 110 (SpanM.c sp)::R) [(0,_),(5,_),(7,_),(18,_),(19,_),(20,_),(21,_),(22,_),(23,_),(24,_)] (fun (i:Nat)=>i≤cs.length∧∀ c ∈ cs.take i,meet (one c.key) sp=false) (fun (i:Nat)=>cs.length - i) 0 (⟨Nat.zero_le _,by simp⟩) ?_
   rintro i ⟨hi,hb⟩
   refine WP.seq<|WP.seq<|WP.reg<|WL.e e_move<|WL.e e_move<|WL.e e_nil<|WL.e (e_fa f167_1)<|WL.e (e_load a165)<|WL.e e_move<|WL.e (el_ia (j:=n) (xs:=cl_) sl165 sl_rl (idx_lt hv))<|WL.e (el_load0 (j:=n) (xs:=cl_) (a:=v) a91 hvE sl_rl hv)<|WL.e (el_len (xs:=cs) sl91 hcv)<|WL.e e_lss<|WL.next ?_
   refine WP.cond rfl (fun h2=>?_) (fun h2=>?_)
   ·have hlt2:i < cs.length:=by simp at h2;omega
    obtain ⟨y,hy⟩:∃ x,cs[i]?=some x:=⟨_,List.getElem?_eq_getElem hlt2⟩
    have hky:=hk cs hm y (List.mem_of_getElem? hy)
    refine WP.skip<|PO.next<|WP.seq<|WP.block<|WP.seq<|WP.reg<|WL.e e_move<|WL.e e_nil<|WL.e (e_fa f167_1)<|WL.e (e_load a165)<|WL.e e_move<|WL.e (el_ia (j:=n) (xs:=cl_) sl165 sl_rl (idx_lt hv))<|WL.e (el_load0 (j:=n) (xs:=cl_) (a:=v) a91 hvE sl_rl hv)<|WL.e e_move<|WL.e (el_ia (j:=i) (xs:=cs) sl91 hcv hlt2)<|WL.e (el_fa (z:=3) (j:=i) (xs:=cs) f127_0 hcv hlt2)<|WL.e (el_load0 (j:=i) (xs:=cs) (a:=y) a9 chgE hcv hy)<|WL.e e_assign<|WL.next<|WP.seq<|WP.reg<|WL.e e_move<|WL.e e_move<|WL.e (e_build z110 p110 (.o (.tmp 50) rfl<|.o (.tmp 51) rfl<|.n)) ?_
    refine WL.e (e_loadN a110) ?_
    refine WL.h (h_call (rMeet_spec (one y.key) sp ⟨hky,hky⟩ hsp) k132 ?_)
    refine WL.next ?_
    refine WP.cond rfl (fun h3=>?_) (fun h3=>?_)
    ·skip
     refine WP.seq<|WP.reg<|WL.e e_assign<|WL.next<|WP.ret<|PO.blockR<|PO.past nofun<|PO.round nofun<|PO.blockR<|PO.blockR<|PO.past nofun<|PO.round nofun<|PO.blockR<|PO.past nofun<|PO.cls (A:=Pas pb (H)) (B:=[cl pb 167 [rv.v,cv.v,.int .u32 0],A,Sl 59 1 hvC (rv.v) (rl),Sl 91 1 hvC (cv.v) (cl_)]) (fun S h=>⟨⟨A,rv,cv,rl,cl_,hrl,hr,hcl,hc⟩,h⟩) ?_
     exact PO.finE Tryz.results50 (rv_tmp rv_nil) (by rw [since_yes hn1 hx (List.mem_of_getElem? hy) h3];rfl) hK
    ·skip
     refine WP.skip<|PO.blockN<|PO.next<|WP.reg<|WL.e e_move<|WL.e (e_add (c:=((i+1:Nat):Int)) rfl rfl (by rw [w_i64 (by omega) (by omega)];omega))<|WL.e e_assign<|WL.nil ?_
     exact PO.againK (i+1) ⟨by omega,fun d hd=>by
      rw [take_snoc hy] at hd
      rcases List.mem_append.1 hd with hd | hd
      ·exact hb d hd
      ·simp only [List.mem_singleton] at hd;subst hd;exact h3⟩ (by omega)
   ·have hall:∀ c ∈ cs,meet (one c.key) sp=false:=by rwa [List.take_of_length_le (show cs.length≤i by simp at h2;omega)] at hb
    refine WP.exit<|PO.past nofun<|PO.round nofun<|PO.blockX<|PO.blockN<|PO.next<|WP.reg<|WL.e e_move<|WL.e (e_add (c:=((n+1:Nat):Int)) rfl rfl (by rw [w_i64 (by omega) (by omega)];omega))<|WL.e e_assign<|WL.nil ?_
    exact PO.againK (n+1) ⟨by omega,by omega,fun k cs2 h5 h6 h7=>by
     rcases Nat.lt_or_ge k n with h8 | h8
     ·exact hno k cs2 h5 h8 h7
     ·obtain rfl:k=n:=by omega
      rw [hx] at h7;cases h7;exact hall⟩ (by omega)
  ·have hfin:sinceH H at_.toNat sp=false:=since_no fun k cs h5 h6=>hno k cs h5 (by have:=idx_lt h6;simp at h1;omega) h6
   refine WP.exit<|PO.past nofun<|PO.round nofun<|PO.blockX<|PO.next<|WP.seq<|WP.reg<|WL.e e_assign<|WL.next<|WP.ret<|PO.cls (A:=Pas pb (H)) (B:=[cl pb 167 [rv.v,cv.v,.int .u32 0],A,Sl 59 1 hvC (rv.v) (rl),Sl 91 1 hvC (cv.v) (cl_)]) (fun S h=>⟨⟨A,rv,cv,rl,cl_,hrl,hr,hcl,hc⟩,h⟩) ?_
   exact PO.finE Tryz.results50 (rv_tmp rv_nil) (by rw [hfin];rfl) hK
end Go.SL
