import Derived.Test.YtmeoolijekillaaGreatDoorQL11
import Derived.DefersIn
import Derived.Scope
set_option linter.unusedSimpArgs false
set_option linter.unusedVariables false
namespace Go.SL.Fc
open Go Go.Proofs Go.SL
theorem a24:aggOf Tryz.prog 24=some none:=by kernel_rfl
theorem a275:aggOf Tryz.prog 275=some none:=by kernel_rfl
theorem a59:aggOf Tryz.prog 59=some (some 2):=by kernel_rfl
theorem f188_0:fldOf Tryz.prog 188 0=some 0:=by kernel_rfl
theorem f188_1:fldOf Tryz.prog 188 1=some 1:=by kernel_rfl
theorem f59_0:fldOf Tryz.prog 59 0=some 0:=by kernel_rfl
theorem k104:callable Tryz.prog 104=true:=by kernel_rfl
theorem k167:callable Tryz.prog 167=true:=by kernel_rfl
theorem k168:callable Tryz.prog 168=true:=by kernel_rfl
theorem k226:callable Tryz.prog 226=true:=by kernel_rfl
theorem k227:callable Tryz.prog 227=true:=by kernel_rfl
theorem k228:callable Tryz.prog 228=true:=by kernel_rfl
theorem k281:callable Tryz.prog 281=true:=by kernel_rfl
theorem k59:callable Tryz.prog 59=true:=by kernel_rfl
theorem k92:callable Tryz.prog 92=true:=by kernel_rfl
theorem p188:placesOf Tryz.prog 188=some [(0,1),(1,1)]:=by kernel_rfl
theorem pt108:isPtr Tryz.prog 108=true:=by kernel_rfl
theorem sl24:slOf Tryz.prog 24=some (59,2,24):=by kernel_rfl
theorem z188:zeroOf Tryz.prog 188=some [.slice none 0 0,.bool false]:=by kernel_rfl
theorem z59:zeroOf Tryz.prog 59=some [.string .empty,.int .u32 0]:=by kernel_rfl
end Go.SL.Fc
namespace Go.SL
open Go Go.Proofs Fc
theorem isNaN_spec {g:World} (a:ByteArray):Spec Tryz.prog g 281 [.string a] [] fun K R=>K (.bool false) R:=by
 refine Spec.intro Tryz.func281 rfl Tryz.ntmps281 rfl fun R K hK=>?_
 refine WP.seq<|WP.reg<|WL.e e_assign<|WL.next<|WP.seq<|WP.reg<|WL.e e_move<|WL.e e_move<|WL.e e_sne<|WL.e e_assign<|WL.next<|WP.ret ?_
 exact PO.finE Tryz.results281 (rv_tmp rv_nil) (by simp [sEq]) hK
theorem cmp_spec {g:World} (a b:ByteArray):Spec Tryz.prog g 228 [.string a,.string b] [] fun K R=>K (.int .i64 (cmpS a b)) R:=by
 refine Spec.intro Tryz.func228 rfl Tryz.ntmps228 rfl fun R K hK=>?_
 refine WP.seq<|WP.reg<|WL.e e_assign<|WL.next<|WP.seq<|WP.reg<|WL.e e_move ?_
 refine WL.h (h_call (isNaN_spec _) k281 ?_)
 refine WL.e e_assign<|WL.next<|WP.seq<|WP.reg<|WL.e e_move ?_
 refine WL.h (h_call (isNaN_spec _) k281 ?_)
 refine WL.e e_assign<|WL.next<|WP.seq<|WP.seq<|WP.reg<|WL.e e_move<|WL.next<|WP.cond_f rfl<|WP.skip<|PO.next<|WP.seq<|WP.seq<|WP.reg<|WL.e e_move<|WL.next<|WP.cond_f rfl<|WP.skip<|PO.next<|WP.seq<|WP.seq<|WP.reg<|WL.e e_move<|WL.e e_move<|WL.e e_slt ?_
 refine WL.next ?_
 refine WP.cond rfl (fun h1=>?_) (fun h1=>?_)
 ·skip
  refine WP.seq<|WP.reg<|WL.e e_assign<|WL.next<|WP.ret<|PO.past nofun ?_
  exact PO.finE Tryz.results228 (rv_tmp rv_nil) (by simp_all [cmpS]) hK
 ·skip
  refine WP.skip<|PO.next<|WP.seq<|WP.seq<|WP.reg<|WL.e e_move<|WL.e e_move<|WL.e e_sgt<|WL.next ?_
  refine WP.cond rfl (fun h2=>?_) (fun h2=>?_)
  ·skip
   refine WP.seq<|WP.reg<|WL.e e_assign<|WL.next<|WP.ret<|PO.past nofun ?_
   exact PO.finE Tryz.results228 (rv_tmp rv_nil) (by simp_all [cmpS]) hK
  ·skip
   refine WP.skip<|PO.next<|WP.seq<|WP.reg<|WL.e e_assign<|WL.next<|WP.ret ?_
   exact PO.finE Tryz.results228 (rv_tmp rv_nil) (by simp_all [cmpS]) hK
theorem rowKey_spec {g:World} (x:RowM):Spec Tryz.prog g 168 [x.v] [] fun K R=>K (.string x.key) R:=by
 refine Spec.intro Tryz.func168 rfl Tryz.ntmps168 rfl fun R K hK=>?_
 refine WP.seq<|WP.reg ?_
 refine WL.h (h_box fun b1=>?_)
 refine WL.e e_assign<|WL.next<|WP.seq<|WP.reg<|WL.e (e_fa f59_0)<|WL.e (e_load a9)<|WL.e e_assign<|WL.next<|WP.ret ?_
 exact PO.fin Tryz.results168 (rv_tmp rv_nil) hK
theorem cmpRow_spec {g:World} (x:RowM) (k:ByteArray) (cb:Nat):Spec Tryz.prog g 227 [x.v,.string k,.pointer (some ⟨cb,0,none⟩)] [cl cb 275 [.func (.func 168) #[] #[]]] fun K R=>K (.int .i64 (cmpS x.key k)) (cl cb 275 [.func (.func 168) #[] #[]]::R):=by
 refine Spec.intro Tryz.func227 rfl Tryz.ntmps227 rfl fun R K hK=>?_
 refine WP.seq<|WP.reg ?_
 refine WL.h (h_box fun b1=>?_)
 refine WL.e e_assign<|WL.next<|WP.seq<|WP.reg<|WL.e (e_load a275)<|WL.e (e_loadN a59) ?_
 refine WL.h (h_callv (fs:=[]) (cs:=[]) (args:=[x.v]) (rowKey_spec x) k168 ?_)
 refine WL.e e_move ?_
 refine WL.h (h_call (cmp_spec _ _) k228 ?_)
 refine WL.e e_assign<|WL.next<|WP.ret ?_
 exact PO.fin Tryz.results227 (rv_tmp rv_nil) hK
theorem BSF_spec {g:World} {A:HP} {u y:Value} {l:List RowM} {k:ByteArray} {B:HP} (hA:RL A 2 RowM.c u l) (hl:Rising l) (hn:l.length≤68719476736) (hy:∀ x:RowM,CallV Tryz.prog g y [x.v,.string k] [B] fun K R=>K (.int .i64 (cmpS x.key k)) (B::R)) :
  Spec Tryz.prog g 226 [u,.string k,y] [A,B] fun K R=>K (.tuple #[.int .i64 (lowI l k),.bool (hasI l k)]) (A::B::R):=by
 refine Spec.intro Tryz.func226 rfl Tryz.ntmps226 rfl fun R K hK=>?_
 refine WP.seq<|WP.reg<|WL.e e_assign<|WL.e e_assign<|WL.next<|WP.seq<|WP.reg<|WL.e e_move<|WL.e (el_len sl24 hA)<|WL.e e_assign<|WL.next<|WP.seq<|WP.reg<|WL.e e_move<|WL.e e_assign<|WL.e e_assign<|WL.next<|WP.seq<|WP.block<|WP.loopK (fun (x:Nat × Nat)=>[(9,.int .i64 x.1),(10,.int .i64 x.2)]) (fun (x:Nat × Nat)=>A::B::R) [(0,_),(1,_),(2,_),(6,_),(7,_),(8,_)] (fun (x:Nat × Nat)=>x.1≤lowI l k∧lowI l k≤x.2∧x.2≤l.length) (fun (x:Nat × Nat)=>x.2 - x.1) (0,l.length) (⟨Nat.zero_le _,lowI_le l k,Nat.le_refl _⟩) ?_
 rintro ⟨i,j⟩ ⟨h1,h2,h3⟩
 simp only at h1 h2 h3
 dsimp only
 refine WP.seq<|WP.seq<|WP.reg<|WL.e e_move<|WL.e e_move<|WL.e e_lss<|WL.next ?_
 refine WP.cond rfl (fun h4=>?_) (fun h4=>?_)
 ·have hij:i < j:=by rw [decide_eq_true_eq] at h4;omega
  obtain ⟨r,hr⟩:∃ r,l[(i+j) / 2]?=some r:=⟨_,List.getElem?_eq_getElem (by omega)⟩
  refine WP.skip<|PO.next<|WP.block<|WP.seq<|WP.reg<|WL.e e_move<|WL.e e_move<|WL.e (e_add (c:=((i+j:Nat):Int)) rfl rfl (by rw [w_i64 (by omega) (by omega)];omega))<|WL.e (e_conv (c:=((i+j:Nat):Int)) (by rw [Tryz.underlying3];rfl) Tryz.underlying148 rfl (by simp [IntKind.wrap,IntKind.bits,IntKind.signed];omega))<|WL.e (e_shrN (k:=.u64) (a:=i+j) (m:=1) (by decide))<|WL.e (e_conv (c:=(((i+j) / 2:Nat):Int)) (by rw [Tryz.underlying148];rfl) Tryz.underlying3 rfl (w_i64 (by omega) (by omega)))<|WL.e e_assign<|WL.next<|WP.seq<|WP.reg<|WL.e e_move<|WL.e e_move<|WL.e e_move<|WL.e (el_ia (j:=(i+j) / 2) sl24 hA (by omega))<|WL.e (el_loadN a59 rowE hA hr)<|WL.e e_move ?_
  refine WL.h (h_cally (hy r) ?_)
  refine WL.e e_lss<|WL.next ?_
  refine WP.cond rfl (fun h5=>?_) (fun h5=>?_)
  ·rw [cmpS_lt] at h5
   refine WP.reg<|WL.e e_move<|WL.e (e_add (c:=(((i+j) / 2+1:Nat):Int)) rfl rfl (by rw [w_i64 (by omega) (by omega)];omega))<|WL.e e_assign<|WL.nil<|PO.blockN ?_
   exact PO.againK ((i+j) / 2+1,j) ⟨low_gt hl hr h5,h2,h3⟩ (by simp only;omega)
  ·rw [cmpS_lt] at h5
   refine WP.reg<|WL.e e_move<|WL.e e_assign<|WL.nil<|PO.blockN ?_
   exact PO.againK (i,(i+j) / 2) ⟨h1,low_le hr h5,by simp only;omega⟩ (by simp only;omega)
 ·obtain rfl:i=lowI l k:=by rw [decide_eq_false_iff_not] at h4;omega
  refine WP.exit<|PO.past nofun<|PO.round nofun<|PO.blockX<|PO.next<|WP.seq<|WP.reg<|WL.e e_move<|WL.e e_move<|WL.e e_move<|WL.e e_lss<|WL.e e_move ?_
  refine WL.bool 39 rfl (fun h6=>?_) (fun h6=>?_)
  ·obtain ⟨r,hr⟩:∃ r,l[lowI l k]?=some r:=⟨_,List.getElem?_eq_getElem (by rw [decide_eq_true_eq] at h6;omega)⟩
   refine WL.e e_move<|WL.e e_move<|WL.e e_move<|WL.e (el_ia (j:=lowI l k) sl24 hA (idx_lt hr))<|WL.e (el_loadN a59 rowE hA hr)<|WL.e e_move ?_
   refine WL.h (h_cally (hy r) ?_)
   refine WL.e e_eql<|WL.e e_pick_t<|WL.e e_assign<|WL.e e_assign<|WL.next<|WP.ret ?_
   exact PO.finE Tryz.results226 (rv_tmp (rv_tmp rv_nil)) (by simp [hasI,hr,cmpS_eq]) hK
  ·skip
   refine WL.skip<|WL.skip<|WL.skip<|WL.skip<|WL.skip<|WL.skip<|WL.skip<|WL.skip<|WL.e e_pick_f<|WL.e e_assign<|WL.e e_assign<|WL.next<|WP.ret ?_
   exact PO.finE Tryz.results226 (rv_tmp (rv_tmp rv_nil)) (by rw [decide_eq_false_iff_not] at h6;simp [hasI,List.getElem?_eq_none (show l.length≤lowI l k by omega)]) hK
theorem place_spec {g:World} {A:HP} {u:Value} {l:List RowM} (k:ByteArray) (hA:RL A 2 RowM.c u l) (hl:Rising l) (hn:l.length≤68719476736) :
  Spec Tryz.prog g 167 [u,.string k,.func (.func 168) #[] #[]] [A] fun K R=>K (.tuple #[.int .i64 (lowI l k),.bool (hasI l k)]) (A::R):=by
 refine Spec.intro Tryz.func167 rfl Tryz.ntmps167 rfl fun R K hK=>?_
 refine WP.seq<|WP.reg ?_
 refine WL.h (h_box fun b1=>?_)
 refine WL.e e_assign<|WL.e e_assign<|WL.next<|WP.seq<|WP.reg<|WL.e e_move<|WL.e e_move<|WL.e e_makeFunc ?_
 refine WL.h (h_call (BSF_spec (k:=k) hA hl hn (fun x=>CallV.of_spec (fs:=[]) (cs:=[.pointer (some ⟨b1,0,none⟩)]) (cmpRow_spec x k b1) k227)) k226 ?_)
 refine WL.e e_extract<|WL.e e_extract<|WL.e e_assign<|WL.e e_assign<|WL.next<|WP.ret ?_
 exact PO.fin Tryz.results167 (rv_tmp (rv_tmp rv_nil)) hK
def Mm (p:Nat) (l:List RowM):HP:=fun S=>∃ x:SV,stars [cl p 188 [x.v,.bool true],Sl 59 2 RowM.c x.v l] S
theorem Mm_op {p:Nat} {l:List RowM}:∀ S,Mm p l S→∃ x:SV,stars [cl p 188 [x.v,.bool true],Sl 59 2 RowM.c x.v l] S:=fun _ h=>h
theorem find_spec {g:World} {p:Nat} {l:List RowM} (k:ByteArray) (hl:Rising l) (hn:l.length≤68719476736):Spec Tryz.prog g 105 [.pointer (some ⟨p,0,none⟩),.string k] [Mm p l] fun K R=>K (.tuple #[.int .i64 (lowI l k),.bool (hasI l k)]) (Mm p l::R):=by
 refine Spec.intro Tryz.func105 rfl Tryz.ntmps105 rfl fun R K hK=>?_
 refine WP.opn (Mm_op (p:=p) (l:=l)) fun s=>?_
 refine WP.seq<|WP.reg<|WL.e e_assign<|WL.e e_assign<|WL.next<|WP.seq<|WP.reg<|WL.e e_move<|WL.e e_nil<|WL.e (e_fa f188_0)<|WL.e (e_load a24)<|WL.e e_move ?_
 refine WL.h (h_call (place_spec k (sl_rl (xs:=l)) hl hn) k167 ?_)
 refine WL.e e_extract<|WL.e e_extract<|WL.e e_assign<|WL.e e_assign<|WL.next<|WP.ret<|PO.cls (A:=Mm p l) (B:=[cl p 188 [s.v,.bool true],Sl 59 2 RowM.c (s.v) l]) (fun S h=>⟨s,h⟩) ?_
 exact PO.fin Tryz.results105 (rv_tmp (rv_tmp rv_nil)) hK
theorem MNew_spec {g:World}:Spec Tryz.prog g 53 [] [] fun K R=>∀ p,K (.pointer (some ⟨p,0,none⟩)) (Mm p []::R):=by
 refine Spec.intro Tryz.func53 rfl Tryz.ntmps53 rfl fun R K hK=>?_
 refine WP.seq<|WP.reg<|WL.e e_assign<|WL.next<|WP.seq<|WP.reg<|WL.e (e_build z188 p188 (.z (.slice none 0 0)<|.o (.const (.bool true)) rfl<|.n)) ?_
 refine WL.h (h_box fun b1=>?_)
 refine WL.e e_assign<|WL.next<|WP.ret<|PO.nils 59 2 RowM.c none ?_
 refine PO.cls (A:=Mm b1 []) (B:=[cl b1 188 [.slice none 0 0,.bool true],Sl 59 2 RowM.c (.slice none 0 0) []]) (fun S h=>⟨⟨none,0,0⟩,h⟩) ?_
 exact PO.fin Tryz.results53 (rv_tmp rv_nil) (hK b1)
theorem Mthere_spec {g:World} {p:Nat} {l:List RowM}:Spec Tryz.prog g 104 [.pointer (some ⟨p,0,none⟩)] [Mm p l] fun K R=>K (.bool true) (Mm p l::R):=by
 refine Spec.intro Tryz.func104 rfl Tryz.ntmps104 rfl fun R K hK=>?_
 refine WP.opn (Mm_op (p:=p) (l:=l)) fun s=>?_
 refine WP.seq<|WP.reg<|WL.e e_assign<|WL.next<|WP.seq<|WP.reg<|WL.e e_move<|WL.e (e_pne pt108)<|WL.e e_move ?_
 refine WL.bool 5 rfl (fun h=>?_) (fun h=>?_)
 ·skip
  refine WL.e e_move<|WL.e e_nil<|WL.e (e_fa f188_1)<|WL.e (e_load a4)<|WL.e e_pick_t<|WL.e e_assign<|WL.next<|WP.ret<|PO.cls (A:=Mm p l) (B:=[cl p 188 [s.v,.bool true],Sl 59 2 RowM.c (s.v) l]) (fun S h=>⟨s,h⟩) ?_
  exact PO.fin Tryz.results104 (rv_tmp rv_nil) hK
 ·cases h 
theorem CloneR_spec {g:World} {A:HP} {u:Value} {xs:List RowM} (hA:RL A 2 RowM.c u xs) (hb:xs.length≤68719476736):Spec Tryz.prog g 92 [u] [A] fun K R=>∀ a m c,K (.slice a m c) (Sl 59 2 RowM.c (.slice a m c) xs::A::R):=by
 refine Spec.intro Tryz.func92 rfl Tryz.ntmps92 rfl fun R K hK=>?_
 refine WP.seq<|WP.reg<|WL.e e_assign<|WL.next<|WP.seq<|WP.seq<|WP.reg<|WL.e e_move<|WL.e (e_slnil sl24 hA)<|WL.next ?_
 refine WP.cond rfl (fun h=>?_) (fun h=>?_)
 ·refine WP.know (φ:=xs=[]) (Pick.know (A:=A) (by exact .z) fun S hS=>?_) fun hx=>?_
  ·rcases hA S hS with ⟨h0,_⟩ | ⟨b,o,c,l,t,e,_⟩
   ·simpa using h0
   ·rw [e] at h;cases h
  subst hx
  refine WP.nils 59 2 RowM.c none ?_
  refine WP.seq<|WP.reg<|WL.e e_assign<|WL.next<|WP.ret<|PO.past nofun ?_
  exact PO.fin Tryz.results92 (rv_tmp rv_nil) (hK none 0 0)
 ·skip
  refine WP.skip<|PO.next<|WP.seq<|WP.reg ?_
  refine WL.h (h_bs0 sl24 (enc:=RowM.c) fun a1 n1 c1=>?_)
  refine WL.e e_move ?_
  refine WL.h (hl_append (xs:=[]) (ys:=xs) sl24 rowE z59 hA (by simp;omega) fun a2 n2 c2=>?_)
  rw [List.nil_append]
  refine WL.e e_assign<|WL.next<|WP.ret ?_
  exact PO.fin Tryz.results92 (rv_tmp rv_nil) (hK a2 n2 c2)
theorem Rows_spec {g:World} {p:Nat} {l:List RowM} (hn:l.length≤68719476736):Spec Tryz.prog g 59 [.pointer (some ⟨p,0,none⟩)] [Mm p l] fun K R=>∀ a m c,K (.slice a m c) (Sl 59 2 RowM.c (.slice a m c) l::Mm p l::R):=by
 refine Spec.intro Tryz.func59 rfl Tryz.ntmps59 rfl fun R K hK=>?_
 refine WP.seq<|WP.reg<|WL.e e_assign<|WL.next<|WP.seq<|WP.seq<|WP.reg<|WL.e e_move ?_
 refine WL.h (h_call (Mthere_spec) k104 ?_)
 refine WL.e e_not<|WL.next ?_
 refine WP.cond rfl (fun h=>?_) (fun h=>?_)
 ·cases h
 ·refine WP.opn (Mm_op (p:=p) (l:=l)) fun s=>?_
  refine WP.skip<|PO.next<|WP.seq<|WP.reg<|WL.e e_move<|WL.e e_nil<|WL.e (e_fa f188_0)<|WL.e (e_load a24) ?_
  refine WL.h (h_call (CloneR_spec (sl_rl (xs:=l)) hn) k92 ?_)
  intro a m c
  refine WL.e e_assign<|WL.next<|WP.ret<|PO.cls (A:=Mm p l) (B:=[cl p 188 [s.v,.bool true],Sl 59 2 RowM.c (s.v) l]) (fun S h=>⟨s,h⟩) ?_
  exact PO.fin Tryz.results59 (rv_tmp rv_nil) (hK a m c)
end Go.SL
set_option linter.unusedSectionVars false
namespace Go.SL
open Go
theorem stars_one {b:Nat} {o:Obj} {S:Piece} (h:stars [pt b o] S):pt b o S:=by
  obtain ⟨S1,S2,_,h1,_,h2,_⟩:=h;exact h1 _ _ h2
section
variable {P : Program} {r : Option Nat} {g : World} {Γ : Env} {L M : List HP} {Q : Post} {dst : Option Tmp} {t : TypeId} {pos : String} {aft : Array Edge} {gd : Option (Nat × Bool)}
theorem h_append_at {T E z y n c k b o:Nat} {U:TypeId} {x xv:Operand} {u v:Value} {l ds:List Value} {B:HP} {N M':List HP} {K:Value→List HP→Prop} (hs:slOf P T=some (E,z,y)) (hA:At u b o n c) (hl:o+c * z≤l.length) (hB:Rd B z v k ds) (h1:ones ds=true) (hnk:n+k≤c)
    (hK:∀ a,At (.slice a (n+k) c) b o (n+k) c→K (.slice a (n+k) c) N) (hx:ev Γ x=some u:=by rfl) (hv:ev Γ xv=some v:=by rfl) (p2:Pick L B M':=by repeat first | exact .z | apply Pick.s) (hp:Put L (cl b U l) (cl b U (splice l (o+n * z) ds)) N:=by repeat first | exact .z | apply Put.s):HO P r g ⟨dst,.call ⟨.builtin .append,#[x,xv],#[T,T]⟩,t,pos,aft,gd⟩ Γ L K:=
  HO.run (by simp) fun a w ha hw=>by
    obtain ⟨a',rfl,hn,hx'⟩:=hA
    obtain ⟨R,p1,_⟩:=hp.picks
    have hr:=hw.rd p2 hB
    have hb:=hw.get p1
    obtain ⟨hu,hsz,_⟩:=slOf_und hs
    have hm:(#[x,xv]:Array Operand).map a.eval=#[.slice a' n c,v]:=by simp [ev_ok hx ha,ev_ok hv ha]
    have hm1:(n+k) * z≤c * z:=Nat.mul_le_mul_right _ hnk
    rw [Nat.add_mul] at hm1
    have hread:=hr.read (P:=P)
    have hlen:=hr.len
    rcases hx' with rfl | rfl
    · obtain ⟨w',hrun,a1,a2,a3,a4,a5,a6⟩:=run_storeCells (P:=P) (T:=U) ds 0 (o+n * z) l w hb (by omega) (ones_ok h1)
      refine ⟨_,N,w',?_,hK _ ⟨_,rfl,hnk,.inl rfl⟩,hw.set hp w' a1 a2 a3 a4 (by simpa using a5) a6⟩
      show (do let d ← resolve a.eval ⟨.builtin .append,#[x,xv],#[T,T]⟩ t;invoke d.target d.args:Sem Next).run P w=_
      simp only [resolve,hm,Sem.run_bind,Sem.run_pure,Result.andThen_ok,invoke,builtin]
      simp only [Builtin.append_,List.getElem?_toArray,List.getElem?_cons_zero,List.getElem?_cons_succ,Sem.run_bind,run_underlying hu,Result.andThen_ok,run_sizeOf hsz]
      simp [hread.1,hread.2,hnk,add_none,hrun]
    · have e1:n=0:=by omega
      have e2:k=0:=by omega
      subst e1;subst e2
      have hd:ds=[]:=by simpa using hlen
      subst hd
      refine ⟨_,N,w,?_,hK a' ⟨_,rfl,Nat.le_refl _,.inr rfl⟩,hw.set hp w rfl rfl rfl rfl (by simpa [splice] using hb) (fun _ _=>rfl)⟩
      show (do let d ← resolve a.eval ⟨.builtin .append,#[x,xv],#[T,T]⟩ t;invoke d.target d.args:Sem Next).run P w=_
      simp only [resolve,hm,Sem.run_bind,Sem.run_pure,Result.andThen_ok,invoke,builtin]
      simp only [Builtin.append_,List.getElem?_toArray,List.getElem?_cons_zero,List.getElem?_cons_succ,Sem.run_bind,run_underlying hu,Result.andThen_ok,run_sizeOf hsz]
      cases a' <;> simp [hread.1,hread.2,storeCells]
theorem splice_mid (U V W vs:List Value) (h:vs.length=V.length):splice (U++V++W) U.length vs=U++vs++W:=by
  rw [splice_eq _ _ _ (by simp [h])]
  rw [List.append_assoc U V W,List.take_left,← List.append_assoc,List.drop_append,List.drop_eq_nil_of_le (by simp [h])]
  simp [h]
theorem del_cells {α:Type} {z o c:Nat} {enc:α→List Value} (he:EncOk z enc) {l zs:List Value} {A D:List α} {x:α} (hl:o+c * z≤l.length) (hc:(A++x::D).length≤c) (hcs:(l.drop o).take ((A++x::D).length * z)=(A++x::D).flatMap enc) (hz:zs.length=z) :
    ((splice (splice l (o+A.length * z) (D.flatMap enc)) (o+(A.length+D.length) * z) zs).drop o).take ((A++D).length * z)=(A++D).flatMap enc∧(splice (splice l (o+A.length * z) (D.flatMap enc)) (o+(A.length+D.length) * z) zs).length=l.length:=by
  have hm:(A++x::D).length * z≤c * z:=Nat.mul_le_mul_right _ hc
  have hlP:(l.take o).length=o:=by simp;omega
  have el:l=l.take o++(A++x::D).flatMap enc++l.drop (o+(A++x::D).length * z):=by
    rw [← hcs,List.append_assoc]
    conv=>lhs;rw [← List.take_append_drop o l]
    congr 1
    rw [← List.drop_drop];exact (List.take_append_drop _ _).symm
  generalize hP:l.take o=P at el hlP
  generalize l.drop (o+(A++x::D).length * z)=S at el
  have hfA:=flat_len he A
  have hfD:=flat_len he D
  have hfx:=he.len x
  have e1:l=(P++A.flatMap enc)++((enc x++D.flatMap enc).take (D.flatMap enc).length)++((enc x++D.flatMap enc).drop (D.flatMap enc).length++S):=by
    rw [el];simp only [List.flatMap_append,List.flatMap_cons,List.append_assoc]
    rw [← List.append_assoc (List.take _ _),List.take_append_drop];simp
  have hU:(P++A.flatMap enc).length=o+A.length * z:=by simp [hfA,hlP]
  have s1:splice l (o+A.length * z) (D.flatMap enc)=(P++A.flatMap enc)++D.flatMap enc++((enc x++D.flatMap enc).drop (D.flatMap enc).length++S):=by
    rw [e1,← hU,splice_mid _ _ _ _ (by simp)]
  have hU2:(P++A.flatMap enc++D.flatMap enc).length=o+(A.length+D.length) * z:=by simp [hfA,hfD,hlP,Nat.add_mul]
  have s2:splice (splice l (o+A.length * z) (D.flatMap enc)) (o+(A.length+D.length) * z) zs=P++(A.flatMap enc++D.flatMap enc)++(zs++S):=by
    rw [s1,← List.append_assoc _ _ S,← hU2,splice_mid _ _ _ _ (by rw [List.length_drop,List.length_append];omega)];simp
  have hlen:l.length=P.length+(A++x::D).length * z+S.length:=by
    conv=>lhs;rw [el]
    simp only [List.length_append,flat_len he]
  rw [s2]
  refine ⟨?_,?_⟩
  · rw [List.append_assoc,← hlP,List.drop_left,← List.flatMap_append,← flat_len he,List.take_left]
  · rw [hlen];simp only [List.length_append,List.length_cons,hfA,hfD,hz,Nat.add_mul,Nat.one_mul];omega
end
end Go.SL
namespace Go.SL
open Go
theorem split_el {α:Type} {xs:List α} {i:Nat} {x:α} (h:xs[i]?=some x):∃ A D,xs=A++x::D∧A.length=i:=by
  have hlt:=idx_lt h
  refine ⟨xs.take i,xs.drop (i+1),?_,by simp;omega⟩
  rw [List.getElem?_eq_getElem hlt] at h;cases h
  rw [List.getElem_cons_drop,List.take_append_drop]
theorem erase_mid {α:Type} (A D:List α) (x:α):(A++x::D).eraseIdx A.length=A++D:=by
  rw [List.eraseIdx_append_of_length_le (Nat.le_refl _)];simp
theorem rd_part {α:Type} {z o b n c:Nat} {enc:α→List Value} (he:EncOk z enc) {T:TypeId} {l:List Value} {xs:List α} {u:Value} (hA:At u b o n c) (hl:o+c * z≤l.length) (hn:xs.length=n) (hcs:(l.drop o).take (n * z)=xs.flatMap enc):RL (cl b T l) z enc u xs:=by
  unfold RL;rw [hn,← hcs];exact hA.rd hl
theorem cells_tail {α:Type} {z o:Nat} {enc:α→List Value} (he:EncOk z enc) {l:List Value} {A D:List α} {x:α} (hcs:(l.drop o).take ((A++x::D).length * z)=(A++x::D).flatMap enc):(l.drop (o+(A.length+1) * z)).take (D.length * z)=D.flatMap enc:=by
  have:=congrArg (List.drop ((A.length+1) * z)) hcs
  rw [List.drop_take,flat_drop he,List.drop_drop,← Nat.sub_mul] at this
  rw [show (A++x::D).length - (A.length+1)=D.length by simp;omega,show (A++x::D).drop (A.length+1)=D by rw [List.drop_append];simp [List.drop_eq_nil_of_le]] at this
  exact this
end Go.SL
namespace Go.SL.Fc
end Go.SL.Fc
namespace Go.SL
open Go Go.Proofs Fc
theorem ext_of {l:List Value} {n:Nat} (h:l.length=n):Ext l 0 n l:=h ▸ ext_all l
theorem index_at {α:Type} {p:α→Bool} {xs:List α} {i:Nat} {x:α} (h:(xs.take i).any p=false) (hx:xs[i]?=some x) (hp:p x=true):(if xs.any p then ((xs.findIdx p:Nat):Int) else -1)=i:=by
 have h1:xs.any p=true:=List.any_eq_true.2 ⟨x,List.mem_of_getElem? hx,hp⟩
 rw [if_pos h1]
 congr 1
 have hlt:=idx_lt hx
 rw [List.findIdx_eq hlt]
 refine ⟨by rw [List.getElem?_eq_getElem hlt] at hx;cases hx;exact hp,fun j hj=>?_⟩
 rw [List.any_eq_false] at h
 have:=h xs[j] (by rw [List.mem_take_iff_getElem];exact ⟨j,by omega,rfl⟩)
 simpa using this
end Go.SL
namespace Go.SL.Fc
end Go.SL.Fc
namespace Go.SL
open Go Go.Proofs Fc
theorem Delete_spec {g:World} {u:Value} {xs:List RowM} {i:Nat} {x:RowM} (hx:xs[i]?=some x) (hn:xs.length≤68719476736) :
  Spec Tryz.prog g 232 [u,.int .i64 i,.int .i64 (i+1:Nat)] [Sl 59 2 RowM.c u xs] fun K R=>∀ a m c,K (.slice a m c) (Sl 59 2 RowM.c (.slice a m c) (xs.eraseIdx i)::R):=by
 obtain ⟨A,D,rfl,rfl⟩:=split_el hx
 rw [erase_mid]
 refine Spec.intro Tryz.func232 rfl Tryz.ntmps232 rfl fun R K hK=>?_
 refine WP.own_open (n:=(A++x::D).length) (by simp;omega) (by exact .z) ?_
 rintro b o c l rfl hnc hc hl hcs
 have hlen:(A++x::D).length=A.length+1+D.length:=by simp;omega
 have hRL:RL (cl b 59 l) 2 RowM.c (.slice (some ⟨b,o,none⟩) (A++x::D).length c) (A++x::D):=rd_part rowE (At.lit hnc) hl rfl hcs
 have hA0:At (subAt (.slice (some ⟨b,o,none⟩) (A++x::D).length c) 0 A.length c 2) b o A.length c:=by have:=(At.lit (b:=b) (o:=o) hnc).sub (lo:=0) (hi:=A.length) (m:=c) (z:=2) (by omega) (by omega) (Nat.le_refl _);simpa using this
 have hAD:At (subAt (.slice (some ⟨b,o,none⟩) (A++x::D).length c) (A.length+1) (A++x::D).length c 2) b (o+(A.length+1) * 2) D.length (c - (A.length+1)):=by have:=(At.lit (b:=b) (o:=o) hnc).sub (lo:=A.length+1) (hi:=(A++x::D).length) (m:=c) (z:=2) (by omega) (by omega) (Nat.le_refl _);rwa [show (A++x::D).length - (A.length+1)=D.length by omega] at this
 have hD:Rd (cl b 59 l) 2 (subAt (.slice (some ⟨b,o,none⟩) (A++x::D).length c) (A.length+1) (A++x::D).length c 2) D.length (D.flatMap RowM.c):=rd_part rowE hAD (by omega) rfl (cells_tail rowE hcs)
 refine WP.seq<|WP.reg<|WL.e e_assign<|WL.next<|WP.seq<|WP.reg<|WL.e e_move<|WL.e e_move<|WL.e e_move<|WL.e e_move<|WL.e (el_len sl24 hRL)<|WL.e (e_slice_at (lo:=A.length) (hi:=A.length+1) (m:=(A++x::D).length) (c:=c) (n:=(A++x::D).length) sl24 rfl (At.lit hnc) (.inr ⟨_,_,rfl,rfl⟩) (.inr ⟨_,_,rfl,rfl⟩) (.inr ⟨_,_,rfl,rfl⟩) (by omega) (by omega) hnc)<|WL.next<|WP.seq<|WP.seq<|WP.reg<|WL.e e_move<|WL.e e_move<|WL.e e_eql<|WL.next ?_
 refine WP.cond rfl (fun h1=>?_) (fun h1=>?_)
 ·rw [beq_iff_eq] at h1;omega
 ·skip
  refine WP.skip<|PO.next<|WP.seq<|WP.reg<|WL.e e_move<|WL.e (el_len sl24 hRL)<|WL.e e_assign<|WL.next<|WP.seq<|WP.draws mixedOk 8<|RW.e 0 rfl e_move<|RW.e 1 rfl e_move<|RW.e 2 rfl (e_slice_at (lo:=0) (hi:=A.length) (m:=c) (c:=c) (n:=(A++x::D).length) sl24 rfl (At.lit hnc) (.inl ⟨rfl,rfl⟩) (.inr ⟨_,_,rfl,rfl⟩) (.inl ⟨rfl,rfl⟩) (by omega) (by omega) (Nat.le_refl _))<|RW.e 3 rfl e_move<|RW.e 4 rfl e_move<|RW.e 5 rfl (e_slice_at (lo:=A.length+1) (hi:=(A++x::D).length) (m:=c) (c:=c) (n:=(A++x::D).length) sl24 rfl (At.lit hnc) (.inr ⟨_,_,rfl,rfl⟩) (.inl ⟨rfl,rfl,rfl⟩) (.inl ⟨rfl,rfl⟩) (by omega) (by omega) (Nat.le_refl _)) ?_
  refine RW.any (is:=[6]) rfl ⟨?_,trivial⟩
  refine RWat.h rfl rfl rfl ?_
  refine (h_append_at (n:=A.length) (c:=c) (k:=D.length) (o:=o) (l:=l) (ds:=D.flatMap RowM.c) sl24 hA0 hl hD (ones_flat rowE D) (by omega) (fun a2 hAt=>?_))
  refine ⟨trivial,?_⟩
  refine RW.any (is:=[7]) rfl ⟨?_,trivial⟩
  refine RWat.h rfl rfl rfl<|HO.of_eo e_assign ?_
  refine ⟨trivial,?_⟩
  refine RW.done<|PO.next<|WP.seq<|WP.reg<|WL.e e_move<|WL.e e_move<|WL.e (e_len_sl sl24)<|WL.e e_move<|WL.e (e_slice_at (lo:=A.length+D.length) (hi:=(A++x::D).length) (m:=c) (c:=c) (n:=A.length+D.length) sl24 rfl hAt (.inr ⟨_,_,rfl,rfl⟩) (.inr ⟨_,_,rfl,rfl⟩) (.inl ⟨rfl,rfl⟩) (by omega) (by omega) (Nat.le_refl _)) ?_
  obtain ⟨hd1,hd2⟩:=del_cells (zs:=[.string .empty,.int .u32 0]) rowE hl hnc hcs rfl
  refine WL.h' (h_clear (T:=24) (n:=1) (c:=c - (A.length+D.length)) (o:=o+(A.length+D.length) * 2) (b:=b) (l:=splice l (o+A.length * 2) (D.flatMap RowM.c)) sl24 z59 (by have:=hAt.sub (lo:=A.length+D.length) (hi:=(A++x::D).length) (m:=c) (z:=2) (by omega) (by omega) (Nat.le_refl _);rwa [show (A++x::D).length - (A.length+D.length)=1 by omega] at this) (by rw [splice_len _ _ _ (by rw [flat_len rowE];omega)];omega) ?_)
  rw [show (List.replicate 1 [Value.string .empty,Value.int .u32 0]).flatten=[.string .empty,.int .u32 0] from rfl]
  refine WL.next<|WP.seq<|WP.reg<|WL.e e_move<|WL.e e_assign<|WL.next<|WP.ret ?_
  refine PO.cls (A:=Sl 59 2 RowM.c (.slice a2 (A.length+D.length) c) (A++D)) (B:=[cl b 59 _]) (fun S h=>?_) ?_
  ·have h:=stars_one h
   unfold Sl
   rw [List.length_append]
   refine at_own hAt hc ?_ ?_ S h
   ·rw [hd2];exact hl
   ·rw [List.length_append] at hd1;exact hd1
  exact PO.fin Tryz.results232 (rv_tmp rv_nil) (hK a2 (A.length+D.length) c)
end Go.SL
namespace Go.SL
open Go
theorem ins_cells {α:Type} {z o c:Nat} {enc:α→List Value} (he:EncOk z enc) {l:List Value} {A D:List α} {x:α} (hl:o+c * z≤l.length) (hc:(A++D).length+1≤c) (hcs:(l.drop o).take ((A++D).length * z)=(A++D).flatMap enc) :
    ((splice (splice l (o+(A.length+1) * z) (D.flatMap enc)) (o+A.length * z) (enc x)).drop o).take (((A++D).length+1) * z)=(A++x::D).flatMap enc ∧
    (splice (splice l (o+(A.length+1) * z) (D.flatMap enc)) (o+A.length * z) (enc x)).length=l.length∧(splice l (o+(A.length+1) * z) (D.flatMap enc)).length=l.length∧(l.drop (o+A.length * z)).take (D.length * z)=D.flatMap enc:=by
  have hm:((A++D).length+1) * z≤c * z:=Nat.mul_le_mul_right _ hc
  have hlP:(l.take o).length=o:=by simp;omega
  have el:l=l.take o++(A++D).flatMap enc++l.drop (o+(A++D).length * z):=by
    rw [← hcs,List.append_assoc]
    conv=>lhs;rw [← List.take_append_drop o l]
    congr 1
    rw [← List.drop_drop];exact (List.take_append_drop _ _).symm
  have hQ:(l.drop (o+(A++D).length * z)).length=l.length - (o+(A++D).length * z):=by simp
  generalize hP:l.take o=P at el hlP
  generalize l.drop (o+(A++D).length * z)=Q at el hQ
  have hfA:=flat_len he A
  have hfD:=flat_len he D
  have hfx:=he.len x
  rw [List.length_append] at hm hQ
  simp only [Nat.add_mul,Nat.one_mul] at hm hQ
  have hW:(D.flatMap enc++Q).length=D.length * z+Q.length:=by simp [hfD]
  have e1:l=(P++A.flatMap enc++(D.flatMap enc++Q).take z)++((D.flatMap enc++Q).drop z).take (D.flatMap enc).length++((D.flatMap enc++Q).drop z).drop (D.flatMap enc).length:=by
    rw [List.append_assoc _ (List.take _ (List.drop _ _)),List.take_append_drop,List.append_assoc _ (List.take z _),List.take_append_drop,el];simp
  have hU:(P++A.flatMap enc++(D.flatMap enc++Q).take z).length=o+(A.length+1) * z:=by
    simp only [List.length_append,List.length_take,hfA,hlP,hfD,Nat.add_mul,Nat.one_mul];omega
  have hV:(((D.flatMap enc++Q).drop z).take (D.flatMap enc).length).length=(D.flatMap enc).length:=by
    rw [List.length_take,List.length_drop,hW,hfD];omega
  have s1:splice l (o+(A.length+1) * z) (D.flatMap enc)=(P++A.flatMap enc++(D.flatMap enc++Q).take z)++D.flatMap enc++((D.flatMap enc++Q).drop z).drop (D.flatMap enc).length:=by
    conv=>lhs;rw [e1,← hU]
    rw [splice_mid _ _ _ _ hV.symm]
  have hU2:(P++A.flatMap enc).length=o+A.length * z:=by simp [hfA,hlP]
  have hV2:(enc x).length=((D.flatMap enc++Q).take z).length:=by rw [hfx,List.length_take,hW];omega
  have s2:splice (splice l (o+(A.length+1) * z) (D.flatMap enc)) (o+A.length * z) (enc x)=(P++A.flatMap enc)++enc x++(D.flatMap enc++((D.flatMap enc++Q).drop z).drop (D.flatMap enc).length):=by
    rw [s1,← hU2,List.append_assoc _ (D.flatMap enc),splice_mid _ _ _ _ hV2]
  have hlen:l.length=P.length+(A.length * z+D.length * z)+Q.length:=by
    conv=>lhs;rw [el]
    simp only [List.length_append,List.flatMap_append,hfA,hfD]
  have hX:(((D.flatMap enc++Q).drop z).drop (D.flatMap enc).length).length=Q.length - z:=by
    rw [List.length_drop,List.length_drop,hW,hfD];omega
  have hY:((D.flatMap enc++Q).take z).length=z:=by rw [List.length_take,hW];omega
  have hzQ:z≤Q.length:=by omega
  clear e1 hV hV2 hW
  generalize ((D.flatMap enc++Q).drop z).drop (D.flatMap enc).length=T at *
  generalize (D.flatMap enc++Q).take z=Y at *
  refine ⟨?_,?_,?_,?_⟩
  · rw [s2,show P++A.flatMap enc++enc x++(D.flatMap enc++T)=P++((A++x::D).flatMap enc++T) by simp]
    rw [← hlP,List.drop_left,show ((A++D).length+1) * z=((A++x::D).flatMap enc).length by rw [flat_len he];congr 1;simp;omega,List.take_left]
  · rw [s2,hlen];simp only [List.length_append,hX,hfA,hfD,hfx];omega
  · rw [s1,hlen];simp only [List.length_append,hX,hY,hfA,hfD];omega
  · conv=>lhs;rw [el]
    rw [List.flatMap_append,← List.append_assoc,List.append_assoc _ (D.flatMap enc),← hU2,List.drop_left,← hfD,List.take_left]
theorem over_ins {α:Type} (A D:List α) (x z0:α):over (over (A++List.replicate (D.length+1) z0) A.length [x]) (A.length+1) D=A++x::D:=by
  rw [over_eq A _ [x] A.length rfl (by simp)]
  rw [over_eq (A++[x]) _ D (A.length+1) (by simp) (by simp)]
  simp
theorem flat_setF {α:Type} {z:Nat} {enc:α→List Value} (he:EncOk z enc) {xs:List α} {j f:Nat} {a a':α} {b:Value} (hx:xs[j]?=some a) (hf:f < z) (hb:enc a'=(enc a).set f b):splice (xs.flatMap enc) (j * z+f) [b]=(xs.set j a').flatMap enc:=by
  have hj:=idx_lt hx
  have hle:(j+1) * z≤xs.length * z:=Nat.mul_le_mul_right z hj
  rw [Nat.add_mul,Nat.one_mul] at hle
  rw [← flat_set he xs j a' hj]
  apply List.ext_getElem?
  intro i
  rw [splice_get _ _ _ (by rw [flat_len he];simp;omega),splice_get _ _ _ (by rw [flat_len he,he.len];omega),he.len,hb]
  simp only [List.length_cons,List.length_nil]
  by_cases h1:i < j * z
  · simp [h1,show i < j * z+f by omega]
  · simp only [h1,if_false]
    by_cases h2:i < j * z+z
    · simp only [h2,if_true]
      rw [List.getElem?_set]
      have hget:(xs.flatMap enc)[i]?=(enc a)[i - j * z]?:=by
        have:=flat_at he hx (i - j * z) (by omega)
        rwa [show j * z+(i - j * z)=i by omega] at this
      by_cases h3:f=i - j * z
      · have:i=j * z+f:=by omega
        subst this
        simp [he.len,hf]
      · simp only [h3,if_false]
        by_cases h4:i < j * z+f
        · simp [h4,hget]
        · simp [h4,show ¬ i < j * z+f+1 by omega,hget]
    · simp only [h2,if_false]
      simp [show ¬ i < j * z+f by omega,show ¬ i < j * z+f+1 by omega]
theorem tw_stop {α:Type} {p:α→Bool}:∀ {D:List α} {k:Nat} {x:α},(∀ r ∈ D.take k,p r=true)→D[k]?=some x→p x=false→D.takeWhile p=D.take k
  | [],_,_,_,hx,_=>by simp at hx
  | a::D,0,x,_,hx,hp=>by simp at hx;subst hx;simp [List.takeWhile_cons,hp]
  | a::D,k+1,x,h,hx,hp=>by
    simp only [List.take_succ_cons,List.mem_cons] at h
    simp only [List.take_succ_cons,List.takeWhile_cons,h a (.inl rfl),if_true]
    rw [tw_stop (fun r hr=>h r (.inr hr)) (by simpa using hx) hp]
theorem tw_all {α:Type} {p:α→Bool} {D:List α} (h:∀ r ∈ D,p r=true):D.takeWhile p=D:=by
  induction D with
  | nil=>rfl
  | cons a D ih=>simp [List.takeWhile_cons,h a (by simp),ih (fun r hr=>h r (by simp [hr]))]
theorem tw_more {α:Type} {p:α→Bool}:∀ {D:List α} {k:Nat} {x:α},(∀ r ∈ D.take k,p r=true)→D[k]?=some x→p x=true→D.take k++[x] <+: D.takeWhile p
  | [],_,_,_,hx,_=>by simp at hx
  | a::D,0,x,_,hx,hp=>by simp at hx;subst hx;simp [List.takeWhile_cons,hp]
  | a::D,k+1,x,h,hx,hp=>by
    simp only [List.take_succ_cons,List.mem_cons] at h
    simp only [List.take_succ_cons,List.takeWhile_cons,h a (.inl rfl),if_true,List.cons_append]
    rw [List.cons_prefix_cons]
    exact ⟨rfl,tw_more (fun r hr=>h r (.inr hr)) (by simpa using hx) hp⟩
end Go.SL
namespace Go.SL
open Go
section
variable {P : Program} {r : Option Nat} {g : World} {Γ : Env} {L M : List HP}
theorem CallV.bun {y v:Value} {args:List Value} {L:List HP} (h:CallV P g y args L fun K R=>K v (L++R)):CallV P g y args [SL.bun L] fun K R=>K v (SL.bun L::R):=by
  intro R K w r hw hT
  obtain ⟨d,nx,w',h1,h2,h3⟩:=h R (fun u M=>u=v∧M=L++R) w r (hw.conv fun _=>stars_bun) ⟨rfl,rfl⟩
  have hm:∀ e w,RetK g (fun u M=>u=v∧M=L++R) e w→RetK g K e w:=by
    rintro e w ⟨u,M,rfl,⟨rfl,rfl⟩,hs⟩
    exact ⟨_,_,rfl,hT,hs.conv fun _=>bun_stars⟩
  refine ⟨d,nx,w',h1,h2,?_⟩
  cases nx <;> simp only at h3 ⊢ <;> first | exact h3.elim | exact h3.mono hm | exact RoundIn.mono h3 hm
theorem e_mne {κ:Type} [DecidableEq κ] {ek:κ→Value} {kvs:List (κ × Value)} {m:Value} {dst:Option Tmp} {t:TypeId} {pos:String} {aft:Array Edge} {gd:Option (Nat × Bool)} {xt yt kt e:TypeId} {x y:Operand} (hT:P.underlying xt=some (.map kt e)) (hx:ev Γ x=some m:=by rfl) (hy:ev Γ y=some (.map none):=by rfl) (hp:Pick L (Mp ek m kvs) M:=by repeat first | exact .z | apply Pick.s) :
    EO P g ⟨dst,.binOp .neq xt x y yt,t,pos,aft,gd⟩ Γ L (.bool true):=
  .of (by simp) fun ρ hρ w hw=>by
    have h1:=hρ x m (by simp [Op.operands]) hx
    have h2:=hρ y _ (by simp [Op.operands]) hy
    obtain ⟨b,es,clock,rfl,_⟩:=hw.mp hp
    show ((do pure (Next.value (← (do eqGuard .neq xt x y (ρ x) (ρ y);binOp .neq xt (ρ x) (ρ y):Sem Value))):Sem Next)).run P w=_
    rw [h1,h2,eqGuard_at_map]
    show ((do pure (Next.value (← (do pure (.bool (!(← Op.equal xt (.map (some b)) (.map none)))):Sem Value))):Sem Next)).run P w=_
    have he:(Op.equal xt (.map (some b)) (.map none)).run P w=.ok false w:=by
      unfold Op.equal;rw [show Op.maxDepth=9999+1 from rfl];unfold Op.equalIn;simp only [Sem.run_bind,run_underlying hT,Result.andThen_ok];rfl
    simp only [Sem.run_bind,he,Result.andThen_ok,Sem.run_pure];rfl
theorem MpIt_Mp {κ:Type} {ek:κ→Value} {m it:Value} {kvs left:List (κ × Value)} {cur:Option (κ × Value)}:∀ S,MpIt ek m it kvs left cur S→Mp ek m kvs S:=fun S h=>by
  obtain ⟨b,i,es,clock,seen,rfl,_,_,hb,_,h3,h4,h5,_⟩:=h
  exact ⟨b,es,clock,rfl,hb,h3,h4,h5⟩
theorem hist_all {α:Type} {c:α→Prop} {xs:List α} (h:Hist (fun _ x=>c x) xs):∀ x ∈ xs,c x:=fun x hx=>by
  obtain ⟨A,B,rfl⟩:=List.append_of_mem hx
  exact h A x B rfl
end
end Go.SL
namespace Go.SL
open Go
theorem own_to3 {S:Piece} {E z n i:Nat} {u:Value} {cs:List Value} (h:Own E z u n cs S) (hi:i≤n):Own E z (subV u 0 i (some i) z) i (cs.take (i * z)) S:=by
  rcases h with ⟨rfl,h2,a,h3⟩ | ⟨b,o,c,l,rfl,h2,h3,h4,h5,h6⟩
  · have:i=0:=by omega
    subst this;subst h2;subst h3
    exact .inl ⟨rfl,by simp,a,by simp [subV]⟩
  · rcases Nat.eq_zero_or_pos i with rfl | h0
    · exact .inl ⟨rfl,by simp,_,by simp [subV];rfl⟩
    · have e1:i * z≤c * z:=Nat.mul_le_mul_right z (by omega)
      refine .inr ⟨b,o,i,l,?_,Nat.le_refl _,by omega,h4,by omega,?_⟩
      · simp only [subV,Option.getD_some,if_neg (show ¬ i=0 by omega),Option.map_some,Nat.zero_mul,add_none,Nat.sub_zero,Nat.add_zero]
      · rw [h6,List.take_take,Nat.min_eq_left (Nat.mul_le_mul_right _ hi)]
theorem sl_to3 {α:Type} {S:Piece} {E z i:Nat} {u:Value} {enc:α→List Value} {xs:List α} (he:EncOk z enc) (h:Sl E z enc u xs S) (hi:i≤xs.length):Sl E z enc (subV u 0 i (some i) z) (xs.take i) S:=by
  have:=own_to3 h hi
  unfold Sl
  rw [List.length_take,Nat.min_eq_left hi,← flat_take he];exact this
def RdM {κ:Type} (A:HP) (ek:κ→Value) (m:Value) (kvs:List (κ × Value)):Prop:=∀ S,A S→∃ b es clock,m=.map (some b)∧S b=some (.map (List.toArray es) clock)∧ents ek es kvs
theorem mp_rdm {κ:Type} {ek:κ→Value} {m:Value} {kvs:List (κ × Value)}:RdM (Mp ek m kvs) ek m kvs:=fun _ ⟨b,es,clock,h1,h2,h3,_⟩=>⟨b,es,clock,h1,h2,h3⟩
theorem mpit_rdm {κ:Type} {ek:κ→Value} {m it:Value} {kvs left:List (κ × Value)} {cur:Option (κ × Value)}:RdM (MpIt ek m it kvs left cur) ek m kvs:=fun _ ⟨b,_,es,clock,_,h1,_,_,h2,_,h3,_⟩=>⟨b,es,clock,h1,h2,h3⟩
section
variable {P : Program} {r : Option Nat} {g : World} {Γ : Env} {L M : List HP} {dst : Option Tmp} {t : TypeId} {pos : String} {aft : Array Edge} {gd : Option (Nat × Bool)}
variable {κ : Type} [DecidableEq κ] {kt : TypeId} {d : TypeDesc} {ek : κ → Value} {kvs : List (κ × Value)} {m : Value} {A : HP}
theorem Sat.rdm {w:World} (h:Sat g L w) (hA:RdM A ek m kvs) (hp:Pick L A M):∃ b es clock,m=.map (some b)∧w.heap[b]?=some (.map (List.toArray es) clock)∧ents ek es kvs:=by
  obtain ⟨S1,S2,_,h1,_,h2,_⟩:=hp.to h.heap
  obtain ⟨b,es,clock,e1,e2,e3⟩:=hA _ h2
  exact ⟨b,es,clock,e1,h1 _ _ e2,e3⟩
theorem em_lookup {x i:Operand} {T e:TypeId} {k:κ} {z:Value} (ht:P.underlying T=some (.map kt e)) (hk:KeyOk P kt d ek) (hz:(P.info? e).bind (·.zero)=some z) (hA:RdM A ek m kvs) (hx:ev Γ x=some m:=by rfl) (hi:ev Γ i=some (ek k):=by rfl) (hp:Pick L A M:=by repeat first | exact .z | apply Pick.s) :
    EO P g ⟨dst,.lookup T x i false,t,pos,aft,gd⟩ Γ L ((mget kvs k).getD z):=
  .of (by simp) fun ρ hρ w hw=>by
    obtain ⟨b,es,clock,rfl,hb,h3⟩:=hw.rdm hA hp
    simp only [execOp,hρ x _ (by simp [Op.operands]) hx,hρ i _ (by simp [Op.operands]) hi,Instr.lookup,Sem.run_bind,run_underlying ht,Result.andThen_ok,run_getObj hb (by simp),Sem.run_pure,run_checkKey hk,run_findKey hk k h3]
    cases hm:midx kvs k with
    | none=>simp [midx_none.1 hm,run_zeroValue hz]
    | some j=>obtain ⟨v,_,h2⟩:=midx_some hm;simp [h2]
theorem em_lookup2 {x i:Operand} {T e:TypeId} {k:κ} {z:Value} (ht:P.underlying T=some (.map kt e)) (hk:KeyOk P kt d ek) (hz:(P.info? e).bind (·.zero)=some z) (hA:RdM A ek m kvs) (hx:ev Γ x=some m:=by rfl) (hi:ev Γ i=some (ek k):=by rfl) (hp:Pick L A M:=by repeat first | exact .z | apply Pick.s) :
    EO P g ⟨dst,.lookup T x i true,t,pos,aft,gd⟩ Γ L (.tuple #[(mget kvs k).getD z,.bool (mget kvs k).isSome]):=
  .of (by simp) fun ρ hρ w hw=>by
    obtain ⟨b,es,clock,rfl,hb,h3⟩:=hw.rdm hA hp
    simp only [execOp,hρ x _ (by simp [Op.operands]) hx,hρ i _ (by simp [Op.operands]) hi,Instr.lookup,Sem.run_bind,run_underlying ht,Result.andThen_ok,run_getObj hb (by simp),Sem.run_pure,run_checkKey hk,run_findKey hk k h3]
    cases hm:midx kvs k with
    | none=>simp [midx_none.1 hm,run_zeroValue hz]
    | some j=>obtain ⟨v,_,h2⟩:=midx_some hm;simp [h2]
end
end Go.SL
namespace Go
section
variable {P : Program} {b : Frame} {a : Act} {k : List Item} {cs : List Frame} {w : World}
theorem stepR_scope {c:Code}:step P (lone (b.atR a (.code (.scope c)::k)) cs w)=.next (lone (b.atR a (.code c::.inScope c::k)) cs w):=
  step_lone_go (by simp [stepG,stepG.exec,Frame.atR])
theorem stepR_inScope {c:Code}:step P (lone (b.atR a (.inScope c::k)) cs w)=.next (lone (b.atR a k) cs w):=
  step_lone_go (by simp [stepG,stepG.exec,Frame.atR])
end
theorem wpIn_scope {F:Fence} {n:Nat} {P:Program} {Q:Exit→Act→World→Prop} {a:Act} {w:World} {c:Code} (h:c.wpIn F n P (Exit.noGoto Q) a w):(Code.scope c).wpIn F n P Q a w:=by
  intro b k cs hro hb hr
  have h0:(lone (b.atR a (.code (.scope c)::k)) cs w).fenced P F:=fenced_calm hb hr rfl
  obtain ⟨e,a₁,w₁,hq,harr⟩:=h b (.inScope c::k) cs hro hb hr
  cases e with
  | normal=>exact ⟨.normal,a₁,w₁,hq,.head h0 stepR_scope (StepsIn.trans harr (.one (fenced_calm hb hr rfl) stepR_inScope))⟩
  | exit id=>
    have hx:exitTo id (.inScope c::k)=exitTo id k:=by simp [exitTo]
    exact ⟨.exit id,a₁,w₁,hq,fun k' hk=>.head h0 stepR_scope (harr.1 k' (by rw [hx];exact hk)),
      fun hr' hk=>let ⟨k₁,h1,h2⟩:=harr.2 hr' (by rw [hx];exact hk);⟨k₁,h1,.head h0 stepR_scope h2⟩⟩
  | goto l=>exact hq.elim
  | ret=>exact ⟨_,a₁,w₁,hq,.of_steps (.one h0 stepR_scope) harr⟩
  | panic ch=>exact ⟨_,a₁,w₁,hq,.of_steps (.one h0 stepR_scope) harr⟩
  | outgrown=>exact ⟨_,a₁,w₁,hq,.of_steps (.one h0 stepR_scope) harr⟩
namespace SL
open Go Go.Proofs
section
variable {P : Program} {r : Option Nat} {g : World} {Γ : Env} {L : List HP} {Q : Post}
theorem WP.scope {c:Code} (h:WP P r g c (Exit.noGoto Q) Γ L):WP P r g (.scope c) Q Γ L:=fun a w ha hw=>wpIn_scope (h a w ha hw)
theorem WP.label {l:Nat} (h:PO g Q .normal Γ L):WP P r g (.label l) Q Γ L:=fun a w ha hw=>wpIn_label (h a w ha hw)
theorem PO.scopeR (h:PO g Q .ret Γ L):PO g (Exit.noGoto Q) .ret Γ L:=h
end
def SpecD (P:Program) (g:World) (f:FuncId) (args:List Value) (Pre:List HP) (T:(Value→List HP→Prop)→List HP→Prop):Prop:=
  ∀ (R:List HP) (K:Value→List HP→Prop) (w:World),Sat g (Pre++R) w→T K R→CallsDIn Fence.wide 0 P f args.toArray .returning w fun e u' w'=>u'=.returning∧∃ v M,e=.returned v∧K v M∧Sat g M w'
def RPD (P:Program) (g:World) (fn:Func) (K:Value→List HP→Prop):Post:=bodyPost P fn fun e w'=>∃ v M,e=.returned v∧K v M∧Sat g M w'
theorem SpecD.intro {P:Program} {g:World} {f:FuncId} {fn:Func} {c:Code} {args:List Value} {Pre:List HP} {T:(Value→List HP→Prop)→List HP→Prop} {n:Nat} (hf:P.funcs[f]?=some fn) (hb:fn.body=some c) (hn:fn.ntmps=n) (hle:Nat.ble args.length n=true)
    (h:∀ (R:List HP) (K:Value→List HP→Prop),T K R→WP P none g c (RPD P g fn K) ⟨n,[],bindArgs 0 args⟩ (Pre++R)):SpecD P g f args Pre T:=by
  intro R K w hw hT
  have hle':args.length≤n:=by simpa using hle
  refine callsDIn_of_wp hf hb trivial ?_
  refine h R K hT _ w ⟨?_,rfl,?_⟩ hw
  · simp;omega
  · intro i v hi
    obtain ⟨_,h2⟩:=look_bindArgs args 0 i v hi
    simp only [Nat.sub_zero] at h2
    have hlt:i < args.length:=by
      rcases Nat.lt_or_ge i args.length with h' | h'
      · exact h'
      · rw [List.getElem?_eq_none h'] at h2;cases h2
    simp only
    rw [Array.getElem?_append_left (by simpa using hlt)]
    simpa using h2
def dfr (f:FuncId) (args:List Value):Deferred:={ target:=.fn (.func f) #[],args:=args.toArray }
theorem WL.defer {P:Program} {g:World} {L:List HP} {Q:Post} {ops rest:List Oper} {n:Nat} {D:List Deferred} {l:List (Nat × Value)} {f:FuncId} {az:List Operand} {ts:Array TypeId} {t:TypeId} {pos:String} {aft:Array Edge} {gd:Option (Nat × Bool)} {args:List Value}
    (h:WL P none g ops rest Q ⟨n,dfr f args::D,l⟩ L) (ha:evs ⟨n,D,l⟩ az=some args:=by rfl) (hg:wants ops l gd=some true:=by rfl) :
    WL P none g ops (⟨none,.defer ⟨.value (.func f),az.toArray,ts⟩,t,pos,aft,gd⟩::rest) Q ⟨n,D,l⟩ L:=by
  intro a w hΓ hw
  unfold wpListIn
  rw [if_pos (wants_ok (Γ:=⟨n,D,l⟩) hg hΓ)]
  have h1:az.toArray.map a.eval=args.toArray:=evs_mapA ha (fun x u _ hx=>ev_ok hx hΓ)
  have hs:(Oper.semAt (FR none).round a.eval ⟨none,.defer ⟨.value (.func f),az.toArray,ts⟩,t,pos,aft,gd⟩).run P w=.ok (.defer (dfr f args)) w:=by
    show (do let d ← resolve a.eval ⟨.value (.func f),az.toArray,ts⟩ t;pure (Next.defer d):Sem Next).run P w=_
    simp only [resolve,h1,Act.eval,Deferred.ofValue,Sem.run_bind,Sem.run_pure,Result.andThen_ok,dfr]
    simp
  refine ⟨about_FR,?_⟩
  rw [hs,Oper.uponIn_defer]
  exact h _ w ⟨hΓ.size,by show dfr f args::a.defers=_;rw [hΓ.defers],hΓ.at_⟩ hw
end SL
end Go
namespace Go.SL
open Go
theorem key_split {l:List RowM} (hl:Rising l) (k:ByteArray):∃ A D,l=A++D∧A.length=lowI l k∧(∀ r ∈ A,sLt r.key k=true)∧(∀ r ∈ D,sLt r.key k=false)∧Rising A∧Rising D:=by
 refine ⟨l.takeWhile fun r=>sLt r.key k,l.dropWhile fun r=>sLt r.key k,List.takeWhile_append_dropWhile.symm,rfl,fun r hr=>?_,fun r hr=>?_,hl.sublist (List.takeWhile_sublist _),hl.sublist (List.dropWhile_sublist _)⟩
 ·have:=List.all_takeWhile (p:=fun r:RowM=>sLt r.key k) (l:=l)
  exact List.all_eq_true.1 this r hr
 ·have hd:=hl.sublist (List.dropWhile_sublist (fun r=>sLt r.key k))
  have hh:∀ x y,l.dropWhile (fun r=>sLt r.key k)=x::y→sLt x.key k=false:=fun x y e=>by
   have:=List.head_dropWhile_not (fun r:RowM=>sLt r.key k) (l:=l) (by rw [e];simp)
   simpa [e] using this
  cases e:l.dropWhile (fun r=>sLt r.key k) with
  | nil=>rw [e] at hr;cases hr
  | cons x y=>
   have hx:=hh x y e
   rw [e] at hr hd
   rcases List.mem_cons.1 hr with rfl | hr
   ·exact hx
   ·have:=(List.pairwise_cons.1 hd).1 r hr
    cases e2:sLt r.key k with
    | false=>rfl
    | true=>have:=sLt_trans this e2;rw [hx] at this;cases this
theorem key_cut {l:List RowM} (hl:Rising l) (k:ByteArray):(∃ A v D,l=A++⟨k,v⟩::D∧A.length=lowI l k∧hasI l k=true∧(∀ r ∈ A,sLt r.key k=true)∧(∀ r ∈ D,sLt k r.key=true)∧Rising A∧Rising D) ∨
  (∃ A D,l=A++D∧A.length=lowI l k∧hasI l k=false∧(∀ r ∈ A,sLt r.key k=true)∧(∀ r ∈ D,sLt k r.key=true)∧Rising A∧Rising D):=by
 obtain ⟨A,D,he,ha,h1,h2,h3,h4⟩:=key_split hl k
 have hat:l[lowI l k]?=D.head?:=by
  rw [← ha];conv=>lhs;rw [he]
  rw [List.getElem?_append_right (Nat.le_refl _),Nat.sub_self,List.head?_eq_getElem?]
 cases D with
 | nil=>
  right
  exact ⟨A,[],he,ha,by simp only [hasI,hat];rfl,h1,by simp,h3,h4⟩
 | cons x D=>
  have hp:=List.pairwise_cons.1 h4
  have hx:=h2 x (by simp)
  by_cases e:x.key=k
  ·left
   subst e
   exact ⟨A,x.val,D,he,ha,by simp [hasI,hat,sEq_iff],h1,fun r hr=>hp.1 r hr,h3,hp.2⟩
  ·right
   have hxk:sLt k x.key=true:=by
    rcases sLt_tri x.key k with h | h | h
    ·rw [hx] at h;cases h
    ·exact absurd h e
    ·exact h
   refine ⟨A,x::D,he,ha,?_,h1,fun r hr=>?_,h3,h4⟩
   ·simp only [hasI,hat,List.head?_cons]
    cases e2:sEq x.key k with
    | false=>rfl
    | true=>exact absurd (sEq_iff.1 e2) e
   ·rcases List.mem_cons.1 hr with rfl | hr
    ·exact hxk
    ·exact sLt_trans hxk (hp.1 r hr)
def setR (l:List RowM) (k:ByteArray) (v:UInt32):List RowM:=if hasI l k then l.set (lowI l k) ⟨k,v⟩ else l.take (lowI l k)++⟨k,v⟩::l.drop (lowI l k)
def dropR (l:List RowM) (k:ByteArray):List RowM:=if hasI l k then l.eraseIdx (lowI l k) else l
theorem sLt_ne {a b:ByteArray} (h:sLt a b=true):a≠b:=fun e=>by subst e;rw [sLt_irrefl] at h;cases h
theorem rising_mid {A D:List RowM} {x:RowM} (h1:∀ r ∈ A,sLt r.key x.key=true) (h2:∀ r ∈ D,sLt x.key r.key=true) (hA:Rising A) (hD:Rising D):Rising (A++x::D):=by
 refine List.pairwise_append.2 ⟨hA,List.pairwise_cons.2 ⟨h2,hD⟩,fun a ha b hb=>?_⟩
 rcases List.mem_cons.1 hb with rfl | hb
 ·exact h1 a ha
 ·exact sLt_trans (h1 a ha) (h2 b hb)
theorem rising_two {A D:List RowM} {k:ByteArray} (h1:∀ r ∈ A,sLt r.key k=true) (h2:∀ r ∈ D,sLt k r.key=true) (hA:Rising A) (hD:Rising D):Rising (A++D):=
 List.pairwise_append.2 ⟨hA,hD,fun a ha b hb=>sLt_trans (h1 a ha) (h2 b hb)⟩
theorem setR_spec {l:List RowM} (hl:Rising l) (k:ByteArray) (v:UInt32):Rising (setR l k v)∧(∀ r,r ∈ setR l k v↔r=⟨k,v⟩∨(r ∈ l∧r.key≠k))∧(setR l k v).length≤l.length+1:=by
 rcases key_cut hl k with ⟨A,u,D,he,ha,hh,h1,h2,h3,h4⟩ | ⟨A,D,he,ha,hh,h1,h2,h3,h4⟩
 ·have e:setR l k v=A++⟨k,v⟩::D:=by
   unfold setR;rw [if_pos hh,← ha];conv=>lhs;rw [he]
   simp
  rw [e]
  refine ⟨rising_mid h1 h2 h3 h4,fun r=>?_,by rw [he];simp⟩
  rw [he]
  simp only [List.mem_append,List.mem_cons]
  constructor
  ·rintro (h | rfl | h)
   ·exact .inr ⟨.inl h,sLt_ne (h1 r h)⟩
   ·exact .inl rfl
   ·exact .inr ⟨.inr (.inr h),(sLt_ne (h2 r h)).symm⟩
  ·rintro (rfl | ⟨h | rfl | h,hn⟩)
   ·exact .inr (.inl rfl)
   ·exact .inl h
   ·exact absurd rfl hn
   ·exact .inr (.inr h)
 ·have e:setR l k v=A++⟨k,v⟩::D:=by
   unfold setR;rw [if_neg (by simp [hh]),← ha];conv=>lhs;rw [he]
   simp
  rw [e]
  refine ⟨rising_mid h1 h2 h3 h4,fun r=>?_,by rw [he];simp;omega⟩
  rw [he]
  simp only [List.mem_append,List.mem_cons]
  constructor
  ·rintro (h | rfl | h)
   ·exact .inr ⟨.inl h,sLt_ne (h1 r h)⟩
   ·exact .inl rfl
   ·exact .inr ⟨.inr h,(sLt_ne (h2 r h)).symm⟩
  ·rintro (rfl | ⟨h | h,hn⟩)
   ·exact .inr (.inl rfl)
   ·exact .inl h
   ·exact .inr (.inr h)
theorem dropR_spec {l:List RowM} (hl:Rising l) (k:ByteArray):Rising (dropR l k)∧(∀ r,r ∈ dropR l k↔r ∈ l∧r.key≠k)∧(dropR l k).length≤l.length:=by
 rcases key_cut hl k with ⟨A,u,D,he,ha,hh,h1,h2,h3,h4⟩ | ⟨A,D,he,ha,hh,h1,h2,h3,h4⟩
 ·have e:dropR l k=A++D:=by
   unfold dropR;rw [if_pos hh,← ha];conv=>lhs;rw [he]
   rw [List.eraseIdx_append_of_length_le (Nat.le_refl _)];simp
  rw [e]
  refine ⟨rising_two h1 h2 h3 h4,fun r=>?_,by rw [he];simp⟩
  rw [he]
  simp only [List.mem_append,List.mem_cons]
  constructor
  ·rintro (h | h)
   ·exact ⟨.inl h,sLt_ne (h1 r h)⟩
   ·exact ⟨.inr (.inr h),(sLt_ne (h2 r h)).symm⟩
  ·rintro ⟨h | rfl | h,hn⟩
   ·exact .inl h
   ·exact absurd rfl hn
   ·exact .inr h
 ·have e:dropR l k=l:=by unfold dropR;rw [if_neg (by simp [hh])]
  rw [e]
  refine ⟨hl,fun r=>⟨fun h=>⟨h,?_⟩,fun h=>h.1⟩,Nat.le_refl _⟩
  rw [he] at h
  rcases List.mem_append.1 h with h | h
  ·exact sLt_ne (h1 r h)
  ·exact (sLt_ne (h2 r h)).symm
theorem rising_ext {a b:List RowM} (ha:Rising a) (hb:Rising b) (h:∀ r,r ∈ a↔r ∈ b):a=b:=by
 induction a generalizing b with
 | nil=>
  cases b with
  | nil=>rfl
  | cons x b=>have:=(h x).2 (by simp);cases this
 | cons x a ih=>
  have hpa:=List.pairwise_cons.1 ha
  cases b with
  | nil=>have:=(h x).1 (by simp);cases this
  | cons y b=>
   have hpb:=List.pairwise_cons.1 hb
   have exy:x=y:=by
    rcases List.mem_cons.1 ((h x).1 (by simp)) with e | hx
    ·exact e
    ·rcases List.mem_cons.1 ((h y).2 (by simp)) with e | hy
     ·exact e.symm
     ·have:=sLt_trans (hpb.1 x hx) (hpa.1 y hy)
      rw [sLt_irrefl] at this;cases this
   subst exy
   congr 1
   refine ih hpa.2 hpb.2 fun r=>?_
   constructor
   ·intro hr
    rcases List.mem_cons.1 ((h r).1 (by simp [hr])) with e | h'
    ·subst e;have:=hpa.1 r hr;rw [sLt_irrefl] at this;cases this
    ·exact h'
   ·intro hr
    rcases List.mem_cons.1 ((h r).2 (by simp [hr])) with e | h'
    ·subst e;have:=hpb.1 r hr;rw [sLt_irrefl] at this;cases this
    ·exact h'
theorem rising_one {l:List RowM} (hl:Rising l) {a b:RowM} (ha:a ∈ l) (hb:b ∈ l) (h:a.key=b.key):a=b:=by
 induction l with
 | nil=>cases ha
 | cons x l ih=>
  have hp:=List.pairwise_cons.1 hl
  rcases List.mem_cons.1 ha with e1 | h1 <;> rcases List.mem_cons.1 hb with e2 | h2
  ·rw [e1,e2]
  ·subst e1;exact absurd h (sLt_ne (hp.1 b h2))
  ·subst e2;exact absurd h.symm (sLt_ne (hp.1 a h1))
  ·exact ih hp.2 h1 h2
def applyC (l:List RowM) (c:ChgM):List RowM:=if c.gone then dropR l c.key else setR l c.key c.val
def changeR (l:List RowM) (cs:List ChgM):List RowM:=cs.foldl applyC l
theorem applyC_rising {l:List RowM} (hl:Rising l) (c:ChgM):Rising (applyC l c)∧(applyC l c).length≤l.length+1:=by
 unfold applyC;split
 ·exact ⟨(dropR_spec hl _).1,Nat.le_succ_of_le (dropR_spec hl _).2.2⟩
 ·exact ⟨(setR_spec hl _ _).1,(setR_spec hl _ _).2.2⟩
theorem changeR_rising:∀ (cs:List ChgM) {l:List RowM},Rising l→Rising (changeR l cs)∧(changeR l cs).length≤l.length+cs.length
 | [],_,h=>⟨h,Nat.le_refl _⟩
 | c::cs,l,h=>by
  have h1:=applyC_rising h c
  have h2:=changeR_rising cs h1.1
  exact ⟨h2.1,by have:=h2.2;simp only [changeR,List.foldl_cons,List.length_cons] at *;omega⟩
theorem mem_applyC {l:List RowM} (hl:Rising l) (c:ChgM) (r:RowM):r ∈ applyC l c↔(c.gone=false∧r=⟨c.key,c.val⟩)∨(r ∈ l∧r.key≠c.key):=by
 unfold applyC;split
 ·rename_i h;rw [(dropR_spec hl _).2.1];simp [h]
 ·rename_i h;rw [(setR_spec hl _ _).2.1];simp [h]
def inSpan (p:SpanM) (k:ByteArray):Bool:=sIn k p.a p.b
def scanR (l:List RowM) (p:SpanM) (most:Nat):List RowM:=(l.filter fun r=>inSpan p r.key).take most
theorem sIn_iff {k a b:ByteArray}:sIn k a b=true↔(sLt k a=false∧sLt b k=false):=by
 have hle:∀ x y:ByteArray,(sLt x y || sEq x y)=true↔sLt y x=false:=fun x y=>by
  rcases sLt_tri x y with h | h | h
  ·simp [h,sLt_asymm h]
  ·subst h;simp [sLt_irrefl,sEq_iff]
  ·simp [h,sLt_asymm h]
   cases e:sEq x y with
   | false=>rfl
   | true=>rw [sEq_iff.1 e,sLt_irrefl] at h;cases h
 unfold sIn
 rw [Bool.and_eq_true,hle,hle]
theorem sMax_iff (a b:ByteArray):sMax a b=if sLt a b then b else a:=by
 rcases sLt_tri a b with h | h | h
 ·simp [sMax,h]
 ·subst h;simp [sMax,sLt_irrefl]
 ·simp [sMax,h,sLt_asymm h]
theorem sLe_trans {a b c:ByteArray} (h:sLt b a=false) (h':sLt c b=false):sLt c a=false:=by
 cases e:sLt c a with
 | false=>rfl
 | true=>
  rcases sLt_tri b c with h1 | h1 | h1
  ·rw [sLt_trans h1 e] at h;cases h
  ·subst h1;rw [h] at e;cases e
  ·rw [h1] at h';cases h'
theorem meet_iff {a b:SpanM}:meet a b=true↔∃ k,inSpan a k=true∧inSpan b k=true:=by
 unfold meet inSpan
 rw [Bool.and_eq_true,sMax_iff]
 constructor
 ·rintro ⟨h1,h2⟩;exact ⟨_,h1,h2⟩
 ·rintro ⟨k,h1,h2⟩
  rw [sIn_iff] at h1 h2
  simp only [sIn_iff]
  split
  ·rename_i h
   exact ⟨⟨sLt_asymm h,sLe_trans h2.1 h1.2⟩,sLt_irrefl _,sLe_trans h2.1 h2.2⟩
  ·rename_i h
   simp only [Bool.not_eq_true] at h
   exact ⟨⟨sLt_irrefl _,sLe_trans h1.1 h1.2⟩,h,sLe_trans h1.1 h2.2⟩
theorem set_app {A D:List RowM} {x y:RowM} {n:Nat} (h:A.length=n):(A++x::D).set n y=A++y::D:=by subst h;simp
theorem scan_eq {l:List RowM} (hl:Rising l) (s:SpanM):(l.drop (lowI l s.a)).takeWhile (fun r=>!sLt s.b r.key)=l.filter fun r=>inSpan s r.key:=by
 obtain ⟨A,D,rfl,ha,h1,h2,h3,h4⟩:=key_split hl s.a
 rw [← ha,List.drop_left,List.filter_append]
 have e1:A.filter (fun r=>inSpan s r.key)=[]:=by
  rw [List.filter_eq_nil_iff]
  intro r hr h
  rw [inSpan,sIn_iff,h1 r hr] at h;cases h.1
 rw [e1,List.nil_append]
 clear ha e1 h1 hl h3
 induction D with
 | nil=>rfl
 | cons x D ih=>
  have hp:=List.pairwise_cons.1 h4
  have hx:=h2 x (by simp)
  rw [List.takeWhile_cons,List.filter_cons]
  cases e:sLt s.b x.key with
  | false=>
   have:inSpan s x.key=true:=by rw [inSpan,sIn_iff];exact ⟨hx,e⟩
   simp [this,ih (fun r hr=>h2 r (by simp [hr])) hp.2]
  | true=>
   have hn:inSpan s x.key=false:=by
    cases e2:inSpan s x.key with
    | false=>rfl
    | true=>rw [inSpan,sIn_iff,e] at e2;cases e2.2
   have:D.filter (fun r=>inSpan s r.key)=[]:=by
    rw [List.filter_eq_nil_iff]
    intro r hr h
    rw [inSpan,sIn_iff,sLt_trans e (hp.1 r hr)] at h;cases h.2
   simp [hn,this]
theorem meet_self {s:SpanM} {l:List RowM} (h:meet s s=false):l.filter (fun r=>inSpan s r.key)=[]:=by
 rw [List.filter_eq_nil_iff]
 intro r _ hr
 have:meet s s=true:=meet_iff.2 ⟨_,hr,hr⟩
 rw [h] at this;cases this
theorem has_at {l:List RowM} {k:ByteArray} (h:hasI l k=true):∃ u,l[lowI l k]?=some ⟨k,u⟩:=by
 unfold hasI at h
 cases e:l[lowI l k]? with
 | none=>rw [e] at h;cases h
 | some r=>rw [e] at h;have:=sEq_iff.1 h;subst this;exact ⟨r.val,rfl⟩
theorem has_lt {l:List RowM} {k:ByteArray} (h:hasI l k=true):lowI l k < l.length:=by obtain ⟨u,hu⟩:=has_at h;exact idx_lt hu
theorem changeR_snoc (l:List RowM) (cs:List ChgM) (c:ChgM):changeR l (cs++[c])=applyC (changeR l cs) c:=by simp [changeR]
theorem sgt_eq (a b:ByteArray):(!(sLt a b || sEq a b))=sLt b a:=by
 rcases sLt_tri a b with h | h | h
 ·simp [h,sLt_asymm h]
 ·subst h;simp [sLt_irrefl,sEq_iff]
 ·have:sEq a b=false:=by
   cases e:sEq a b with
   | false=>rfl
   | true=>rw [sEq_iff.1 e,sLt_irrefl] at h;cases h
  simp [h,sLt_asymm h,this]
end Go.SL
namespace Go.SL
open Go
structure EntV (κ α:Type) where
 key:κ
 sv:SV
 ws:List α
section
variable {κ α : Type} [DecidableEq κ]
def getS (l:List (κ × List α)) (k:κ):Option (List α):=(l.find? fun p=>decide (p.1=k)).map (·.2)
def setS (l:List (κ × List α)) (k:κ) (ws:List α):List (κ × List α):=match l.findIdx? (fun p=>decide (p.1=k)) with
 | some i=>l.set i (k,ws)
 | none=>l++[(k,ws)]
def kvE (e:EntV κ α):κ × Value:=(e.key,e.sv.v)
def stE (e:EntV κ α):κ × List α:=(e.key,e.ws)
def findE (es:List (EntV κ α)) (k:κ):Option (EntV κ α):=es.find? fun e=>decide (e.key=k)
def svE (es:List (EntV κ α)) (k:κ):SV:=match findE es k with
 | some e=>e.sv
 | none=>⟨none,0,0⟩
def wsE (es:List (EntV κ α)) (k:κ):List α:=match findE es k with
 | some e=>e.ws
 | none=>[]
def setE (es:List (EntV κ α)) (k:κ) (sv:SV) (ws:List α):List (EntV κ α):=match es.findIdx? (fun e=>decide (e.key=k)) with
 | some i=>es.set i ⟨k,sv,ws⟩
 | none=>es++[⟨k,sv,ws⟩]
def delE (es:List (EntV κ α)) (k:κ):List (EntV κ α):=es.eraseP fun e=>decide (e.key=k)
theorem mget_kvE (es:List (EntV κ α)) (k:κ):mget (es.map kvE) k=(findE es k).map fun e=>e.sv.v:=by
 unfold mget findE
 induction es with
 | nil=>rfl
 | cons e es ih=>
  simp only [List.map_cons,List.find?_cons,kvE]
  by_cases h:e.key=k
  ·simp [h]
  ·simp only [h,decide_false];exact ih
theorem mget_svE (es:List (EntV κ α)) (k:κ):(mget (es.map kvE) k).getD (.slice none 0 0)=(svE es k).v:=by
 rw [mget_kvE];unfold svE
 cases findE es k <;> rfl
theorem mset_kvE (es:List (EntV κ α)) (k:κ) (sv:SV) (ws:List α):mset (es.map kvE) k sv.v=(setE es k sv ws).map kvE:=by
 have h:midx (es.map kvE) k=es.findIdx? (fun e=>decide (e.key=k)):=by
  unfold midx;rw [List.findIdx?_map];rfl
 unfold mset setE
 rw [h]
 cases List.findIdx? (fun e:EntV κ α=>decide (e.key=k)) es with
 | none=>simp [kvE]
 | some i=>simp [kvE,List.map_set]
theorem setE_st (es:List (EntV κ α)) (k:κ) (sv:SV) (ws:List α):(setE es k sv ws).map stE=setS (es.map stE) k ws:=by
 have h:(es.map stE).findIdx? (fun p=>decide (p.1=k))=es.findIdx? (fun e=>decide (e.key=k)):=by
  rw [List.findIdx?_map];rfl
 unfold setS setE
 rw [h]
 cases List.findIdx? (fun e:EntV κ α=>decide (e.key=k)) es with
 | none=>simp [stE]
 | some i=>simp [stE,List.map_set]
theorem getS_st (es:List (EntV κ α)) (k:κ):getS (es.map stE) k=(findE es k).map (·.ws):=by
 unfold getS findE
 induction es with
 | nil=>rfl
 | cons e es ih=>
  simp only [List.map_cons,List.find?_cons,stE]
  by_cases h:e.key=k
  ·simp [h]
  ·simp only [h,decide_false];exact ih
theorem wsE_st (es:List (EntV κ α)) (k:κ):wsE es k=(getS (es.map stE) k).getD []:=by
 rw [getS_st];unfold wsE
 cases findE es k <;> rfl
theorem keys_st (es:List (EntV κ α)):es.map (·.key)=(es.map stE).map (·.1):=by simp [stE]
theorem findE_mem {es:List (EntV κ α)} (hn:(es.map (·.key)).Nodup) {e:EntV κ α} (he:e ∈ es):findE es e.key=some e:=by
 unfold findE
 induction es with
 | nil=>cases he
 | cons x es ih=>
  rw [List.map_cons] at hn
  obtain ⟨h1,h2⟩:=List.nodup_cons.1 hn
  rcases List.mem_cons.1 he with rfl | he
  ·simp
  ·rw [List.find?_cons]
   have:x.key≠e.key:=fun h=>h1 (h ▸ List.mem_map.2 ⟨e,he,rfl⟩)
   simp only [this,decide_false]
   exact ih h2 he
theorem findE_key {es:List (EntV κ α)} {k:κ} {e:EntV κ α} (h:findE es k=some e):e ∈ es∧e.key=k:=by
 refine ⟨List.mem_of_find?_eq_some h,?_⟩
 have:=List.find?_some h
 simpa using this
theorem getS_mem {l:List (κ × List α)} (hn:(l.map (·.1)).Nodup) {p:κ × List α} (h:p ∈ l):getS l p.1=some p.2:=by
 unfold getS
 induction l with
 | nil=>cases h
 | cons x l ih=>
  rw [List.map_cons] at hn
  obtain ⟨h1,h2⟩:=List.nodup_cons.1 hn
  rw [List.find?_cons]
  rcases List.mem_cons.1 h with rfl | h
  ·simp
  ·have:x.1≠p.1:=fun e=>h1 (e ▸ List.mem_map.2 ⟨p,h,rfl⟩)
   simp only [this,decide_false]
   exact ih h2 h
theorem getS_some {l:List (κ × List α)} {k:κ} {ws:List α} (h:getS l k=some ws):(k,ws) ∈ l:=by
 unfold getS at h
 rw [Option.map_eq_some_iff] at h
 obtain ⟨p,h1,rfl⟩:=h
 have h2:=List.find?_some h1
 have h3:=List.mem_of_find?_eq_some h1
 simp at h2;subst h2
 exact h3
theorem setS_get (l:List (κ × List α)) (k:κ) (ws:List α) (j:κ):getS (setS l k ws) j=if j=k then some ws else getS l j:=by
 unfold setS getS
 induction l with
 | nil=>
  by_cases h:j=k
  ·subst h;simp
  ·simp [h,Ne.symm h]
 | cons x l ih=>
  rw [List.findIdx?_cons]
  by_cases hx:x.1=k
  ·simp only [hx,decide_true,if_true,List.set_cons_zero,List.find?_cons]
   by_cases h:j=k
   ·subst h;simp
   ·have h':¬ k=j:=fun e=>h e.symm
    simp [h,h']
  ·simp only [hx,decide_false,Bool.false_eq_true,if_false]
   cases hf:List.findIdx? (fun p:κ × List α=>decide (p.1=k)) l with
   | none=>
    rw [hf] at ih
    simp only [Option.map_none,List.cons_append,List.find?_cons]
    by_cases h:x.1=j
    ·have:j≠k:=fun e=>hx (h.trans e)
     simp [h,this]
    ·simp only [h,decide_false];exact ih
   | some i=>
    rw [hf] at ih
    simp only [Option.map_some,List.set_cons_succ,List.find?_cons]
    by_cases h:x.1=j
    ·have:j≠k:=fun e=>hx (h.trans e)
     simp [h,this]
    ·simp only [h,decide_false];exact ih
theorem setS_keys (l:List (κ × List α)) (k:κ) (ws:List α):∀ j,j ∈ (setS l k ws).map (·.1)↔j=k∨j ∈ l.map (·.1):=by
 intro j
 have key:∀ (l:List (κ × List α)) (j:κ),j ∈ l.map (·.1)↔(getS l j).isSome=true:=by
  intro l j
  unfold getS
  rw [Option.isSome_map,List.find?_isSome]
  simp
 rw [key,key,setS_get]
 by_cases h:j=k <;> simp [h]
theorem setS_nodup {l:List (κ × List α)} (hn:(l.map (·.1)).Nodup) (k:κ) (ws:List α):((setS l k ws).map (·.1)).Nodup:=by
 unfold setS
 split
 ·rename_i i hi
  have:(l.set i (k,ws)).map (·.1)=l.map (·.1):=by
   rw [List.map_set]
   apply List.ext_getElem?
   intro j
   rw [List.getElem?_set]
   obtain ⟨h1,h2,_⟩:=List.findIdx?_eq_some_iff_getElem.1 hi
   split
   ·rename_i e;subst e
    rw [if_pos (by simpa using h1)]
    simp only [List.getElem?_map,List.getElem?_eq_getElem h1,Option.map_some]
    simp at h2;rw [h2]
   ·rfl
  rw [this];exact hn
 ·rename_i hi
  rw [List.map_append,List.nodup_append]
  refine ⟨hn,by simp,?_⟩
  intro a ha b hb e
  simp at hb;subst hb;subst e
  obtain ⟨p,hp,rfl⟩:=List.mem_map.1 ha
  have:=List.findIdx?_eq_none_iff.1 hi p hp
  simp at this
theorem delE_keys {es:List (EntV κ α)} {k:κ} {e:EntV κ α} (h:findE es k=some e):∃ A B,es=A++e::B∧delE es k=A++B∧(∀ sv ws,setE es k sv ws=A++⟨k,sv,ws⟩::B):=by
 unfold findE at h
 induction es with
 | nil=>simp at h
 | cons x es ih=>
  rw [List.find?_cons] at h
  by_cases e1:x.key=k
  ·simp [e1] at h;subst h
   exact ⟨[],es,rfl,by simp [delE,e1],by intro sv ws;simp [setE,List.findIdx?_cons,e1]⟩
  ·simp [e1] at h
   obtain ⟨A,B,h2,h3,h4⟩:=ih (by simpa using h)
   refine ⟨x::A,B,by simp [h2],by simp only [delE,List.eraseP_cons,e1,decide_false,cond_false,List.cons_append] at h3 ⊢;rw [h3],?_⟩
   intro sv ws
   have:=h4 sv ws
   unfold setE at this ⊢
   rw [List.findIdx?_cons]
   simp only [e1,decide_false,Bool.false_eq_true,if_false]
   cases hf:List.findIdx? (fun e:EntV κ α=>decide (e.key=k)) es with
   | none=>rw [hf] at this;simp only at this;simp [this]
   | some i=>rw [hf] at this;simp only at this;simp [this]
theorem delE_none {es:List (EntV κ α)} {k:κ} (h:findE es k=none):delE es k=es∧(∀ sv ws,setE es k sv ws=es++[⟨k,sv,ws⟩]):=by
 unfold findE at h
 refine ⟨?_,?_⟩
 ·unfold delE
  rw [List.eraseP_of_forall_not]
  intro x hx
  have:=List.find?_eq_none.1 h x hx
  simpa using this
 ·intro sv ws
  unfold setE
  rw [List.findIdx?_eq_none_iff.2 (fun x hx=>by have:=List.find?_eq_none.1 h x hx;simpa using this)]
def Ents (E z:Nat) (enc:α→List Value) (es:List (EntV κ α)):HP:=bun (es.map fun e=>Sl E z enc e.sv.v e.ws)
variable {E z : Nat} {enc : α → List Value}
theorem Ents_nil {L:List HP} {S:Piece} (h:stars L S):stars (Ents E z enc ([]:List (EntV κ α))::L) S:=bun_stars (L:=[]) h
theorem Ents_out {es A B:List (EntV κ α)} {e:EntV κ α} (h:es=A++e::B):∀ S,Ents E z enc es S→∃ _:Unit,stars [Sl E z enc e.sv.v e.ws,Ents E z enc (A++B)] S:=fun S hS=>by
 subst h
 refine ⟨(),?_⟩
 unfold Ents bun at hS
 rw [List.map_append,List.map_cons] at hS
 have h1:=stars_unmove hS
 refine stars_cons (fun S h=>?_) h1
 show stars [bun ((A++B).map _)] S
 rw [List.map_append]
 exact bun_stars (M:=[]) (S:=S) (by simpa using h)
theorem Ents_in {A B:List (EntV κ α)} {e:EntV κ α}:∀ S,stars [Sl E z enc e.sv.v e.ws,Ents E z enc (A++B)] S→Ents E z enc (A++e::B) S:=fun S hS=>by
 unfold Ents bun
 rw [List.map_append,List.map_cons]
 refine stars_move ?_
 refine stars_cons (fun S h=>?_) hS
 have h':stars (bun ((A++B).map _)::[]) S:=h
 rw [List.map_append] at h'
 have:=stars_bun h'
 simpa using this
theorem Ents_take (es:List (EntV κ α)) (k:κ):∀ S,Ents E z enc es S→∃ _:Unit,stars [Sl E z enc (svE es k).v (wsE es k),Ents E z enc (delE es k)] S:=fun S hS=>by
 cases hf:findE es k with
 | none=>
  refine ⟨(),?_⟩
  rw [(delE_none hf).1]
  unfold svE wsE
  rw [hf]
  exact nil_sl (stars_one' hS)
 | some e=>
  obtain ⟨A,B,h1,h2,_⟩:=delE_keys hf
  rw [h2]
  unfold svE wsE
  rw [hf]
  exact Ents_out h1 S hS
where
 stars_one' {A:HP} {S:Piece} (h:A S):stars [A] S:=⟨S,fun _=>none,fun _=>.inr rfl,le_refl _,(fun _ _ h=>by cases h),h,trivial⟩
theorem Ents_put (es:List (EntV κ α)) (k:κ) (sv:SV) (ws:List α):∀ S,stars [Sl E z enc sv.v ws,Ents E z enc (delE es k)] S→Ents E z enc (setE es k sv ws) S:=fun S hS=>by
 cases hf:findE es k with
 | none=>
  obtain ⟨h1,h2⟩:=delE_none hf
  rw [h2];rw [h1] at hS
  have:=Ents_in (A:=es) (B:=[]) (e:=⟨k,sv,ws⟩) S (by simpa using hS)
  simpa using this
 | some e=>
  obtain ⟨A,B,_,h2,h3⟩:=delE_keys hf
  rw [h3];rw [h2] at hS
  exact Ents_in (e:=⟨k,sv,ws⟩) S hS
theorem ents_rl {es:List (EntV κ α)} {e:EntV κ α} (h:e ∈ es):RL (Ents E z enc es) z enc e.sv.v e.ws:=fun S hS=>by
 obtain ⟨A,B,rfl⟩:=List.append_of_mem h
 obtain ⟨_,S1,S2,_,h1,_,h2,_⟩:=Ents_out (E:=E) (z:=z) (enc:=enc) rfl S hS
 rcases sl_rl S1 h2 with h | ⟨b,o,c,l,t,a1,a2,a3,a4,a5⟩
 ·exact .inl h
 ·exact .inr ⟨b,o,c,l,t,a1,a2,h1 _ _ a3,a4,a5⟩
end
end Go.SL
