import Derived.Test.YtegjbklnhiionaaGreatQP6
import Derived.DefersIn
import Derived.Scope
set_option linter.unusedSimpArgs false
set_option linter.unusedVariables false
namespace Go.SL.Fc
open Go Go.Proofs Go.SL
theorem a105:ZK' Tryz.prog 105=some (some 2):=by kernel_rfl
theorem a239:ZK' Tryz.prog 239=some none:=by kernel_rfl
theorem a38:ZK' Tryz.prog 38=some none:=by kernel_rfl
theorem Zez_:ZO' Tryz.prog 105 0=some 0:=by kernel_rfl
theorem K7':ZO' Tryz.prog 173 0=some 0:=by kernel_rfl
theorem ZnT_:ZO' Tryz.prog 173 1=some 1:=by kernel_rfl
theorem k122:Zh' Tryz.prog 122=true:=by kernel_rfl
theorem k123:Zh' Tryz.prog 123=true:=by kernel_rfl
theorem k130:Zh' Tryz.prog 130=true:=by kernel_rfl
theorem k131:Zh' Tryz.prog 131=true:=by kernel_rfl
theorem k132:Zh' Tryz.prog 132=true:=by kernel_rfl
theorem k136:Zh' Tryz.prog 136=true:=by kernel_rfl
theorem k171:Zh' Tryz.prog 171=true:=by kernel_rfl
theorem k186:Zh' Tryz.prog 186=true:=by kernel_rfl
theorem k79:Zh' Tryz.prog 79=true:=by kernel_rfl
theorem p173:Ya' Tryz.prog 173=some [(0,1),(1,1)]:=by kernel_rfl
theorem Zoz_:X3' Tryz.prog 130=true:=by kernel_rfl
theorem sl38:slOf Tryz.prog 38=some (105,2,24):=by kernel_rfl
theorem z105:ZH' Tryz.prog 105=some [.string .empty,.int .u32 0]:=by kernel_rfl
theorem z173:ZH' Tryz.prog 173=some [.slice none 0 0,.bool false]:=by kernel_rfl
end Go.SL.Fc
namespace Go.SL
open Go Go.Proofs Fc
theorem Zb7_ {g:World} (a:ByteArray):Spec Tryz.prog g 136 [.string a] [] fun K R=>K (.bool false) R:=by
 refine Spec.intro Tryz.func136 rfl Tryz.ntmps136 rfl fun R K hK=>?_
 refine WP.seq<|WP.reg<|WL.e Zb'<|WL.next<|WP.seq<|WP.reg<|WL.e Za'<|WL.e Za'<|WL.e Zmm_<|WL.e Zb'<|WL.next<|WP.ret ?_
 exact PO.finE Tryz.results136 (Zd' Zf') (by simp [sEq]) hK
theorem ZkZ_ {g:World} (a b:ByteArray):Spec Tryz.prog g 132 [.string a,.string b] [] fun K R=>K (.int .i64 (cmpS a b)) R:=by
 refine Spec.intro Tryz.func132 rfl Tryz.ntmps132 rfl fun R K hK=>?_
 refine WP.seq<|WP.reg<|WL.e Zb'<|WL.next<|WP.seq<|WP.reg<|WL.e Za' ?_
 refine WL.h (Zg' (Zb7_ _) k136 ?_)
 refine WL.e Zb'<|WL.next<|WP.seq<|WP.reg<|WL.e Za' ?_
 refine WL.h (Zg' (Zb7_ _) k136 ?_)
 refine WL.e Zb'<|WL.next<|WP.seq<|WP.seq<|WP.reg<|WL.e Za'<|WL.next<|WP.cond_f rfl<|WP.skip<|PO.next<|WP.seq<|WP.seq<|WP.reg<|WL.e Za'<|WL.next<|WP.cond_f rfl<|WP.skip<|PO.next<|WP.seq<|WP.seq<|WP.reg<|WL.e Za'<|WL.e Za'<|WL.e Zor_ ?_
 refine WL.next ?_
 refine WP.cond rfl (fun h1=>?_) (fun h1=>?_)
 ·skip
  refine WP.seq<|WP.reg<|WL.e Zb'<|WL.next<|WP.ret<|PO.past nofun ?_
  exact PO.finE Tryz.results132 (Zd' Zf') (by simp_all [cmpS]) hK
 ·skip
  refine WP.skip<|PO.next<|WP.seq<|WP.seq<|WP.reg<|WL.e Za'<|WL.e Za'<|WL.e Zmo_<|WL.next ?_
  refine WP.cond rfl (fun h2=>?_) (fun h2=>?_)
  ·skip
   refine WP.seq<|WP.reg<|WL.e Zb'<|WL.next<|WP.ret<|PO.past nofun ?_
   exact PO.finE Tryz.results132 (Zd' Zf') (by simp_all [cmpS]) hK
  ·skip
   refine WP.skip<|PO.next<|WP.seq<|WP.reg<|WL.e Zb'<|WL.next<|WP.ret ?_
   exact PO.finE Tryz.results132 (Zd' Zf') (by simp_all [cmpS]) hK
theorem ZfR_ {g:World} (x:RowM):Spec Tryz.prog g 123 [x.v] [] fun K R=>K (.string x.key) R:=by
 refine Spec.intro Tryz.func123 rfl Tryz.ntmps123 rfl fun R K hK=>?_
 refine WP.seq<|WP.reg ?_
 refine WL.h (ZL' fun b1=>?_)
 refine WL.e Zb'<|WL.next<|WP.seq<|WP.reg<|WL.e (e_fa Zez_)<|WL.e (Zc' a9)<|WL.e Zb'<|WL.next<|WP.ret ?_
 exact PO.fin Tryz.results123 (Zd' Zf') hK
theorem ZfS_ {g:World} (x:RowM) (k:ByteArray) (cb:Nat):Spec Tryz.prog g 131 [x.v,.string k,.pointer (some ⟨cb,0,none⟩)] [cl cb 239 [.func (.func 123) #[] #[]]] fun K R=>K (.int .i64 (cmpS x.key k)) (cl cb 239 [.func (.func 123) #[] #[]]::R):=by
 refine Spec.intro Tryz.func131 rfl Tryz.ntmps131 rfl fun R K hK=>?_
 refine WP.seq<|WP.reg ?_
 refine WL.h (ZL' fun b1=>?_)
 refine WL.e Zb'<|WL.next<|WP.seq<|WP.reg<|WL.e (Zc' a239)<|WL.e (Zm' a105) ?_
 refine WL.h (ZcM_ (fs:=[]) (cs:=[]) (args:=[x.v]) (ZfR_ x) k123 ?_)
 refine WL.e Za' ?_
 refine WL.h (Zg' (ZkZ_ _ _) k132 ?_)
 refine WL.e Zb'<|WL.next<|WP.ret ?_
 exact PO.fin Tryz.results131 (Zd' Zf') hK
theorem Zk0_ {g:World} {A:HP} {u y:Value} {l:List RowM} {k:ByteArray} {B:HP} (hA:RL A 2 RowM.c u l) (hl:ZC' l) (hn:l.length≤68719476736) (hy:∀ x:RowM,CallV Tryz.prog g y [x.v,.string k] [B] fun K R=>K (.int .i64 (cmpS x.key k)) (B::R)) :
  Spec Tryz.prog g 130 [u,.string k,y] [A,B] fun K R=>K (.tuple #[.int .i64 (lowI l k),.bool (hasI l k)]) (A::B::R):=by
 refine Spec.intro Tryz.func130 rfl Tryz.ntmps130 rfl fun R K hK=>?_
 refine WP.seq<|WP.reg<|WL.e Zb'<|WL.e Zb'<|WL.next<|WP.seq<|WP.reg<|WL.e Za'<|WL.e (ZD' sl38 hA)<|WL.e Zb'<|WL.next<|WP.seq<|WP.reg<|WL.e Za'<|WL.e Zb'<|WL.e Zb'<|WL.next<|WP.seq<|WP.block<|WP.loopK (fun (x:Nat × Nat)=>[(9,.int .i64 x.1),(10,.int .i64 x.2)]) (fun (x:Nat × Nat)=>A::B::R) [(0,_),(1,_),(2,_),(6,_),(7,_),(8,_)] (fun (x:Nat × Nat)=>x.1≤lowI l k∧lowI l k≤x.2∧x.2≤l.length) (fun (x:Nat × Nat)=>x.2 - x.1) (0,l.length) (⟨Nat.zero_le _,ZaO_ l k,Nat.le_refl _⟩) ?_
 rintro ⟨i,j⟩ ⟨h1,h2,h3⟩
 simp only at h1 h2 h3
 dsimp only
 refine WP.seq<|WP.seq<|WP.reg<|WL.e Za'<|WL.e Za'<|WL.e Z3'<|WL.next ?_
 refine WP.cond rfl (fun h4=>?_) (fun h4=>?_)
 ·have hij:i < j:=by rw [decide_eq_true_eq] at h4;omega
  obtain ⟨r,hr⟩:∃ r,l[(i+j) / 2]?=some r:=⟨_,List.getElem?_eq_getElem (by omega)⟩
  refine WP.skip<|PO.next<|WP.block<|WP.seq<|WP.reg<|WL.e Za'<|WL.e Za'<|WL.e (ZE' (c:=((i+j:Nat):Int)) rfl rfl (by rw [Zt' (by omega) (by omega)];omega))<|WL.e (Y6' (c:=((i+j:Nat):Int)) (by rw [Tryz.underlying3];rfl) Tryz.underlying153 rfl (by simp [IntKind.wrap,IntKind.bits,IntKind.signed];omega))<|WL.e (Ug' (k:=.u64) (a:=i+j) (m:=1) (by decide))<|WL.e (Y6' (c:=(((i+j) / 2:Nat):Int)) (by rw [Tryz.underlying153];rfl) Tryz.underlying3 rfl (Zt' (by omega) (by omega)))<|WL.e Zb'<|WL.next<|WP.seq<|WP.reg<|WL.e Za'<|WL.e Za'<|WL.e Za'<|WL.e (ZZ' (j:=(i+j) / 2) sl38 hA (by omega))<|WL.e (YA' a105 rowE hA hr)<|WL.e Za' ?_
  refine WL.h (YE' (hy r) ?_)
  refine WL.e Z3'<|WL.next ?_
  refine WP.cond rfl (fun h5=>?_) (fun h5=>?_)
  ·rw [ZgK_] at h5
   refine WP.reg<|WL.e Za'<|WL.e (ZE' (c:=(((i+j) / 2+1:Nat):Int)) rfl rfl (by rw [Zt' (by omega) (by omega)];omega))<|WL.e Zb'<|WL.nil<|PO.blockN ?_
   exact PO.againK ((i+j) / 2+1,j) ⟨ZnS_ hl hr h5,h2,h3⟩ (by simp only;omega)
  ·rw [ZgK_] at h5
   refine WP.reg<|WL.e Za'<|WL.e Zb'<|WL.nil<|PO.blockN ?_
   exact PO.againK (i,(i+j) / 2) ⟨h1,ZnR_ hr h5,by simp only;omega⟩ (by simp only;omega)
 ·obtain rfl:i=lowI l k:=by rw [decide_eq_false_iff_not] at h4;omega
  refine WP.exit<|PO.past nofun<|PO.round nofun<|PO.blockX<|PO.next<|WP.seq<|WP.reg<|WL.e Za'<|WL.e Za'<|WL.e Za'<|WL.e Z3'<|WL.e Za' ?_
  refine WL.bool 39 rfl (fun h6=>?_) (fun h6=>?_)
  ·obtain ⟨r,hr⟩:∃ r,l[lowI l k]?=some r:=⟨_,List.getElem?_eq_getElem (by rw [decide_eq_true_eq] at h6;omega)⟩
   refine WL.e Za'<|WL.e Za'<|WL.e Za'<|WL.e (ZZ' (j:=lowI l k) sl38 hA (Yf' hr))<|WL.e (YA' a105 rowE hA hr)<|WL.e Za' ?_
   refine WL.h (YE' (hy r) ?_)
   refine WL.e ZM'<|WL.e Zn'<|WL.e Zb'<|WL.e Zb'<|WL.next<|WP.ret ?_
   exact PO.finE Tryz.results130 (Zd' (Zd' Zf')) (by simp [hasI,hr,ZmR_]) hK
  ·skip
   refine WL.skip<|WL.skip<|WL.skip<|WL.skip<|WL.skip<|WL.skip<|WL.skip<|WL.skip<|WL.e Zl'<|WL.e Zb'<|WL.e Zb'<|WL.next<|WP.ret ?_
   exact PO.finE Tryz.results130 (Zd' (Zd' Zf')) (by rw [decide_eq_false_iff_not] at h6;simp [hasI,List.getElem?_eq_none (show l.length≤lowI l k by omega)]) hK
theorem ZhJ_ {g:World} {A:HP} {u:Value} {l:List RowM} (k:ByteArray) (hA:RL A 2 RowM.c u l) (hl:ZC' l) (hn:l.length≤68719476736) :
  Spec Tryz.prog g 122 [u,.string k,.func (.func 123) #[] #[]] [A] fun K R=>K (.tuple #[.int .i64 (lowI l k),.bool (hasI l k)]) (A::R):=by
 refine Spec.intro Tryz.func122 rfl Tryz.ntmps122 rfl fun R K hK=>?_
 refine WP.seq<|WP.reg ?_
 refine WL.h (ZL' fun b1=>?_)
 refine WL.e Zb'<|WL.e Zb'<|WL.next<|WP.seq<|WP.reg<|WL.e Za'<|WL.e Za'<|WL.e Ym' ?_
 refine WL.h (Zg' (Zk0_ (k:=k) hA hl hn (fun x=>CallV.of_spec (fs:=[]) (cs:=[.pointer (some ⟨b1,0,none⟩)]) (ZfS_ x k b1) k131)) k130 ?_)
 refine WL.e Ze'<|WL.e Ze'<|WL.e Zb'<|WL.e Zb'<|WL.next<|WP.ret ?_
 exact PO.fin Tryz.results122 (Zd' (Zd' Zf')) hK
def Mm (p:Nat) (l:List RowM):HP:=fun S=>∃ x:SV,Zo' [cl p 173 [x.v,.bool true],Sl 105 2 RowM.c x.v l] S
theorem Uw' {p:Nat} {l:List RowM}:∀ S,Mm p l S→∃ x:SV,Zo' [cl p 173 [x.v,.bool true],Sl 105 2 RowM.c x.v l] S:=fun _ h=>h
theorem Zac_ {g:World} {p:Nat} {l:List RowM} (k:ByteArray) (hl:ZC' l) (hn:l.length≤68719476736):Spec Tryz.prog g 110 [.pointer (some ⟨p,0,none⟩),.string k] [Mm p l] fun K R=>K (.tuple #[.int .i64 (lowI l k),.bool (hasI l k)]) (Mm p l::R):=by
 refine Spec.intro Tryz.func110 rfl Tryz.ntmps110 rfl fun R K hK=>?_
 refine WP.opn (Uw' (p:=p) (l:=l)) fun s=>?_
 refine WP.seq<|WP.reg<|WL.e Zb'<|WL.e Zb'<|WL.next<|WP.seq<|WP.reg<|WL.e Za'<|WL.e Zk'<|WL.e (e_fa K7')<|WL.e (Zc' a38)<|WL.e Za' ?_
 refine WL.h (Zg' (ZhJ_ k (Zr' (xs:=l)) hl hn) k122 ?_)
 refine WL.e Ze'<|WL.e Ze'<|WL.e Zb'<|WL.e Zb'<|WL.next<|WP.ret<|PO.cls (A:=Mm p l) (B:=[cl p 173 [s.v,.bool true],Sl 105 2 RowM.c (s.v) l]) (fun S h=>⟨s,h⟩) ?_
 exact PO.fin Tryz.results110 (Zd' (Zd' Zf')) hK
theorem Zad_ {g:World}:Spec Tryz.prog g 56 [] [] fun K R=>∀ p,K (.pointer (some ⟨p,0,none⟩)) (Mm p []::R):=by
 refine Spec.intro Tryz.func56 rfl Tryz.ntmps56 rfl fun R K hK=>?_
 refine WP.seq<|WP.reg<|WL.e Zb'<|WL.next<|WP.seq<|WP.reg<|WL.e (Zv' z173 p173 (.z (.slice none 0 0)<|.o (.const (.bool true)) rfl<|.n)) ?_
 refine WL.h (ZL' fun b1=>?_)
 refine WL.e Zb'<|WL.next<|WP.ret<|PO.nils 105 2 RowM.c none ?_
 refine PO.cls (A:=Mm b1 []) (B:=[cl b1 173 [.slice none 0 0,.bool true],Sl 105 2 RowM.c (.slice none 0 0) []]) (fun S h=>⟨⟨none,0,0⟩,h⟩) ?_
 exact PO.fin Tryz.results56 (Zd' Zf') (hK b1)
theorem Ku' {g:World} {p:Nat} {l:List RowM}:Spec Tryz.prog g 79 [.pointer (some ⟨p,0,none⟩)] [Mm p l] fun K R=>K (.bool true) (Mm p l::R):=by
 refine Spec.intro Tryz.func79 rfl Tryz.ntmps79 rfl fun R K hK=>?_
 refine WP.opn (Uw' (p:=p) (l:=l)) fun s=>?_
 refine WP.seq<|WP.reg<|WL.e Zb'<|WL.next<|WP.seq<|WP.reg<|WL.e Za'<|WL.e (JX' Zoz_)<|WL.e Za' ?_
 refine WL.bool 5 rfl (fun h=>?_) (fun h=>?_)
 ·skip
  refine WL.e Za'<|WL.e Zk'<|WL.e (e_fa ZnT_)<|WL.e (Zc' a4)<|WL.e Zn'<|WL.e Zb'<|WL.next<|WP.ret<|PO.cls (A:=Mm p l) (B:=[cl p 173 [s.v,.bool true],Sl 105 2 RowM.c (s.v) l]) (fun S h=>⟨s,h⟩) ?_
  exact PO.fin Tryz.results79 (Zd' Zf') hK
 ·cases h 
theorem Zbd_ {g:World} {A:HP} {u:Value} {xs:List RowM} (hA:RL A 2 RowM.c u xs) (hb:xs.length≤68719476736):Spec Tryz.prog g 186 [u] [A] fun K R=>∀ a m c,K (.slice a m c) (Sl 105 2 RowM.c (.slice a m c) xs::A::R):=by
 refine Spec.intro Tryz.func186 rfl Tryz.ntmps186 rfl fun R K hK=>?_
 refine WP.seq<|WP.reg<|WL.e Zb'<|WL.next<|WP.seq<|WP.seq<|WP.reg<|WL.e Za'<|WL.e (ZcO_ sl38 hA)<|WL.next ?_
 refine WP.cond rfl (fun h=>?_) (fun h=>?_)
 ·refine WP.know (φ:=xs=[]) (Pick.know (A:=A) (by exact .z) fun S hS=>?_) fun hx=>?_
  ·rcases hA S hS with ⟨h0,_⟩ | ⟨b,o,c,l,t,e,_⟩
   ·simpa using h0
   ·rw [e] at h;cases h
  subst hx
  refine WP.nils 105 2 RowM.c none ?_
  refine WP.seq<|WP.reg<|WL.e Zb'<|WL.next<|WP.ret<|PO.past nofun ?_
  exact PO.fin Tryz.results186 (Zd' Zf') (hK none 0 0)
 ·skip
  refine WP.skip<|PO.next<|WP.seq<|WP.reg ?_
  refine WL.h (ZhA_ sl38 (enc:=RowM.c) fun a1 n1 c1=>?_)
  refine WL.e Za' ?_
  refine WL.h (ZG' (xs:=[]) (ys:=xs) sl38 rowE z105 hA (by simp;omega) fun a2 n2 c2=>?_)
  rw [List.nil_append]
  refine WL.e Zb'<|WL.next<|WP.ret ?_
  exact PO.fin Tryz.results186 (Zd' Zf') (hK a2 n2 c2)
theorem Zae_ {g:World} {p:Nat} {l:List RowM} (hn:l.length≤68719476736):Spec Tryz.prog g 171 [.pointer (some ⟨p,0,none⟩)] [Mm p l] fun K R=>∀ a m c,K (.slice a m c) (Sl 105 2 RowM.c (.slice a m c) l::Mm p l::R):=by
 refine Spec.intro Tryz.func171 rfl Tryz.ntmps171 rfl fun R K hK=>?_
 refine WP.seq<|WP.reg<|WL.e Zb'<|WL.next<|WP.seq<|WP.seq<|WP.reg<|WL.e Za' ?_
 refine WL.h (Zg' (Ku') k79 ?_)
 refine WL.e Zx'<|WL.next ?_
 refine WP.cond rfl (fun h=>?_) (fun h=>?_)
 ·cases h
 ·refine WP.opn (Uw' (p:=p) (l:=l)) fun s=>?_
  refine WP.skip<|PO.next<|WP.seq<|WP.reg<|WL.e Za'<|WL.e Zk'<|WL.e (e_fa K7')<|WL.e (Zc' a38) ?_
  refine WL.h (Zg' (Zbd_ (Zr' (xs:=l)) hn) k186 ?_)
  intro a m c
  refine WL.e Zb'<|WL.next<|WP.ret<|PO.cls (A:=Mm p l) (B:=[cl p 173 [s.v,.bool true],Sl 105 2 RowM.c (s.v) l]) (fun S h=>⟨s,h⟩) ?_
  exact PO.fin Tryz.results171 (Zd' Zf') (hK a m c)
theorem Zdo_ {g:World} {p:Nat} {l:List RowM} (hn:l.length≤68719476736):Spec Tryz.prog g 184 [.pointer (some ⟨p,0,none⟩)] [Mm p l] fun K R=>∀ q,K (.pointer (some ⟨q,0,none⟩)) (Mm q l::Mm p l::R):=by
 refine Spec.intro Tryz.func184 rfl Tryz.ntmps184 rfl fun R K hK=>?_
 refine WP.seq<|WP.reg<|WL.e Zb'<|WL.next<|WP.seq<|WP.seq<|WP.reg<|WL.e Za' ?_
 refine WL.h (Zg' (Ku') k79 ?_)
 refine WL.e Zx'<|WL.next ?_
 refine WP.cond rfl (fun h=>?_) (fun h=>?_)
 ·cases h
 ·skip
  refine WP.skip<|PO.next<|WP.seq<|WP.reg<|WL.e Za' ?_
  refine WL.h (Zg' (Zae_ hn) k171 ?_)
  intro a m c
  refine WL.e (Zv' z173 p173 (.o (.tmp 7) rfl<|.o (.const (.bool true)) rfl<|.n)) ?_
  refine WL.h (ZL' fun b1=>?_)
  refine WL.e Zb'<|WL.next<|WP.ret<|PO.cls (A:=Mm b1 l) (B:=[cl b1 173 [.slice a m c,.bool true],Sl 105 2 RowM.c (.slice a m c) l]) (fun S h=>⟨⟨a,m,c⟩,h⟩) ?_
  exact PO.fin Tryz.results184 (Zd' Zf') (hK b1)
end Go.SL
set_option linter.unusedSectionVars false
namespace Go.SL
open Go
theorem Zdp_ {b:Nat} {o:Obj} {S:ZN'} (h:Zo' [pt b o] S):pt b o S:=by
  obtain ⟨S1,S2,_,h1,_,h2,_⟩:=h;exact h1 _ _ h2
section
variable {P : Program} {r : Option Nat} {g : World} {Γ : Env} {L M : List HP} {Q : Post} {dst : Option Tmp} {t : TypeId} {pos : String} {aft : Array Edge} {gd : Option (Nat × Bool)}
theorem ZfT_ {T E z y n c k b o:Nat} {U:TypeId} {x xv:Operand} {u v:Value} {l ds:List Value} {B:HP} {N M':List HP} {K:Value→List HP→Prop} (hs:slOf P T=some (E,z,y)) (hA:At u b o n c) (hl:o+c * z≤l.length) (hB:Rd B z v k ds) (h1:ones ds=true) (hnk:n+k≤c)
    (hK:∀ a,At (.slice a (n+k) c) b o (n+k) c→K (.slice a (n+k) c) N) (hx:ev Γ x=some u:=by rfl) (hv:ev Γ xv=some v:=by rfl) (p2:Pick L B M':=by repeat first | exact .z | apply Pick.s) (hp:Put L (cl b U l) (cl b U (ZP' l (o+n * z) ds)) N:=by repeat first | exact .z | apply Put.s):HO P r g ⟨dst,.call ⟨.builtin .append,#[x,xv],#[T,T]⟩,t,pos,aft,gd⟩ Γ L K:=
  HO.run (by simp) fun a w ha hw=>by
    obtain ⟨a',rfl,hn,hx'⟩:=hA
    obtain ⟨R,p1,_⟩:=hp.picks
    have hr:=hw.rd p2 hB
    have hb:=hw.get p1
    obtain ⟨hu,hsz,_⟩:=JD' hs
    have hm:(#[x,xv]:Array Operand).map a.eval=#[.slice a' n c,v]:=by simp [Z5' hx ha,Z5' hv ha]
    have hm1:(n+k) * z≤c * z:=Nat.mul_le_mul_right _ hnk
    rw [Nat.add_mul] at hm1
    have hread:=hr.read (P:=P)
    have hlen:=hr.len
    rcases hx' with rfl | rfl
    · obtain ⟨w',hrun,a1,a2,a3,a4,a5,a6⟩:=Xs' (P:=P) (T:=U) ds 0 (o+n * z) l w hb (by omega) (KR' h1)
      refine ⟨_,N,w',?_,hK _ ⟨_,rfl,hnk,.inl rfl⟩,hw.set hp w' a1 a2 a3 a4 (by simpa using a5) a6⟩
      show (do let d ← resolve a.eval ⟨.builtin .append,#[x,xv],#[T,T]⟩ t;invoke d.target d.args:Sem Next).run P w=_
      simp only [resolve,hm,Sem.run_bind,Sem.run_pure,Result.andThen_ok,invoke,builtin]
      simp only [Builtin.append_,List.getElem?_toArray,List.getElem?_cons_zero,List.getElem?_cons_succ,Sem.run_bind,run_underlying hu,Result.andThen_ok,Z1' hsz]
      simp [hread.1,hread.2,hnk,YL',hrun]
    · have e1:n=0:=by omega
      have e2:k=0:=by omega
      subst e1;subst e2
      have hd:ds=[]:=by simpa using hlen
      subst hd
      refine ⟨_,N,w,?_,hK a' ⟨_,rfl,Nat.le_refl _,.inr rfl⟩,hw.set hp w rfl rfl rfl rfl (by simpa [ZP'] using hb) (fun _ _=>rfl)⟩
      show (do let d ← resolve a.eval ⟨.builtin .append,#[x,xv],#[T,T]⟩ t;invoke d.target d.args:Sem Next).run P w=_
      simp only [resolve,hm,Sem.run_bind,Sem.run_pure,Result.andThen_ok,invoke,builtin]
      simp only [Builtin.append_,List.getElem?_toArray,List.getElem?_cons_zero,List.getElem?_cons_succ,Sem.run_bind,run_underlying hu,Result.andThen_ok,Z1' hsz]
      cases a' <;> simp [hread.1,hread.2,storeCells]
theorem Vb' (U V W vs:List Value) (h:vs.length=V.length):ZP' (U++V++W) U.length vs=U++vs++W:=by
  rw [X5' _ _ _ (by simp [h])]
  rw [List.append_assoc U V W,List.take_left,← List.append_assoc,List.drop_append,List.drop_eq_nil_of_le (by simp [h])]
  simp [h]
theorem Zjh_ {α:Type} {z o c:Nat} {enc:α→List Value} (he:EncOk z enc) {l zs:List Value} {A D:List α} {x:α} (hl:o+c * z≤l.length) (hc:(A++x::D).length≤c) (hcs:(l.drop o).take ((A++x::D).length * z)=(A++x::D).flatMap enc) (hz:zs.length=z) :
    ((ZP' (ZP' l (o+A.length * z) (D.flatMap enc)) (o+(A.length+D.length) * z) zs).drop o).take ((A++D).length * z)=(A++D).flatMap enc∧(ZP' (ZP' l (o+A.length * z) (D.flatMap enc)) (o+(A.length+D.length) * z) zs).length=l.length:=by
  have hm:(A++x::D).length * z≤c * z:=Nat.mul_le_mul_right _ hc
  have hlP:(l.take o).length=o:=by simp;omega
  have el:l=l.take o++(A++x::D).flatMap enc++l.drop (o+(A++x::D).length * z):=by
    rw [← hcs,List.append_assoc]
    conv=>lhs;rw [← List.take_append_drop o l]
    congr 1
    rw [← List.drop_drop];exact (List.take_append_drop _ _).symm
  generalize hP:l.take o=P at el hlP
  generalize l.drop (o+(A++x::D).length * z)=S at el
  have hfA:=Yg' he A
  have hfD:=Yg' he D
  have hfx:=he.len x
  have e1:l=(P++A.flatMap enc)++((enc x++D.flatMap enc).take (D.flatMap enc).length)++((enc x++D.flatMap enc).drop (D.flatMap enc).length++S):=by
    rw [el];simp only [List.flatMap_append,List.flatMap_cons,List.append_assoc]
    rw [← List.append_assoc (List.take _ _),List.take_append_drop];simp
  have hU:(P++A.flatMap enc).length=o+A.length * z:=by simp [hfA,hlP]
  have s1:ZP' l (o+A.length * z) (D.flatMap enc)=(P++A.flatMap enc)++D.flatMap enc++((enc x++D.flatMap enc).drop (D.flatMap enc).length++S):=by
    rw [e1,← hU,Vb' _ _ _ _ (by simp)]
  have hU2:(P++A.flatMap enc++D.flatMap enc).length=o+(A.length+D.length) * z:=by simp [hfA,hfD,hlP,Nat.add_mul]
  have s2:ZP' (ZP' l (o+A.length * z) (D.flatMap enc)) (o+(A.length+D.length) * z) zs=P++(A.flatMap enc++D.flatMap enc)++(zs++S):=by
    rw [s1,← List.append_assoc _ _ S,← hU2,Vb' _ _ _ _ (by rw [List.length_drop,List.length_append];omega)];simp
  have hlen:l.length=P.length+(A++x::D).length * z+S.length:=by
    conv=>lhs;rw [el]
    simp only [List.length_append,Yg' he]
  rw [s2]
  refine ⟨?_,?_⟩
  · rw [List.append_assoc,← hlP,List.drop_left,← List.flatMap_append,← Yg' he,List.take_left]
  · rw [hlen];simp only [List.length_append,List.length_cons,hfA,hfD,hz,Nat.add_mul,Nat.one_mul];omega
end
end Go.SL
namespace Go.SL
open Go
theorem Zk1_ {α:Type} {xs:List α} {i:Nat} {x:α} (h:xs[i]?=some x):∃ A D,xs=A++x::D∧A.length=i:=by
  have hlt:=Yf' h
  refine ⟨xs.take i,xs.drop (i+1),?_,by simp;omega⟩
  rw [List.getElem?_eq_getElem hlt] at h;cases h
  rw [List.getElem_cons_drop,List.take_append_drop]
theorem Zji_ {α:Type} (A D:List α) (x:α):(A++x::D).eraseIdx A.length=A++D:=by
  rw [List.eraseIdx_append_of_length_le (Nat.le_refl _)];simp
theorem ZcR_ {α:Type} {z o b n c:Nat} {enc:α→List Value} (he:EncOk z enc) {T:TypeId} {l:List Value} {xs:List α} {u:Value} (hA:At u b o n c) (hl:o+c * z≤l.length) (hn:xs.length=n) (hcs:(l.drop o).take (n * z)=xs.flatMap enc):RL (cl b T l) z enc u xs:=by
  unfold RL;rw [hn,← hcs];exact hA.rd hl
theorem ZhK_ {α:Type} {z o:Nat} {enc:α→List Value} (he:EncOk z enc) {l:List Value} {A D:List α} {x:α} (hcs:(l.drop o).take ((A++x::D).length * z)=(A++x::D).flatMap enc):(l.drop (o+(A.length+1) * z)).take (D.length * z)=D.flatMap enc:=by
  have:=congrArg (List.drop ((A.length+1) * z)) hcs
  rw [List.drop_take,Jw' he,List.drop_drop,← Nat.sub_mul] at this
  rw [show (A++x::D).length - (A.length+1)=D.length by simp;omega,show (A++x::D).drop (A.length+1)=D by rw [List.drop_append];simp [List.drop_eq_nil_of_le]] at this
  exact this
end Go.SL
namespace Go.SL.Fc
open Go Go.Proofs Go.SL
theorem k109:Zh' Tryz.prog 109=true:=by kernel_rfl
end Go.SL.Fc
namespace Go.SL
open Go Go.Proofs Fc
theorem Zaf_ {l:List Value} {n:Nat} (h:l.length=n):Ext l 0 n l:=h ▸ ZaL_ l
theorem Vw' {α:Type} {p:α→Bool} {xs:List α} {i:Nat} {x:α} (h:(xs.take i).any p=false) (hx:xs[i]?=some x) (hp:p x=true):(if xs.any p then ((xs.findIdx p:Nat):Int) else -1)=i:=by
 have h1:xs.any p=true:=List.any_eq_true.2 ⟨x,List.mem_of_getElem? hx,hp⟩
 rw [if_pos h1]
 congr 1
 have hlt:=Yf' hx
 rw [List.findIdx_eq hlt]
 refine ⟨by rw [List.getElem?_eq_getElem hlt] at hx;cases hx;exact hp,fun j hj=>?_⟩
 rw [List.any_eq_false] at h
 have:=h xs[j] (by rw [List.mem_take_iff_getElem];exact ⟨j,by omega,rfl⟩)
 simpa using this
theorem ZfU_ {g:World} {A B:HP} {u y:Value} {xs:List (ChgM)} {p:ChgM→Bool} (hA:RL A 3 ChgM.c u xs) (hn:xs.length≤68719476736) (hy:∀ x,CallV Tryz.prog g y [.agg (ChgM.c x).toArray] [B] fun K R=>K (.bool (p x)) (B::R)) :
  Spec Tryz.prog g 109 [u,y] [A,B] fun K R=>K (.int .i64 (if xs.any p then (xs.findIdx p:Nat) else -1)) (A::B::R):=by
 refine Spec.intro Tryz.func109 rfl Tryz.ntmps109 rfl fun R K hK=>?_
 refine WP.seq<|WP.reg<|WL.e Zb'<|WL.next<|WP.seq<|WP.seq<|WP.reg<|WL.e Za'<|WL.e (ZD' Yw' hA)<|WL.e Za'<|WL.next<|WP.block<|WP.loopK (fun (i:Nat)=>[(8,.int .i64 i)]) (fun (i:Nat)=>A::B::R) [(0,_),(1,_),(7,_)] (fun (i:Nat)=>i≤xs.length∧(xs.take i).any p=false) (fun (i:Nat)=>xs.length - i) 0 (⟨Nat.zero_le _,by simp⟩) ?_
 rintro i ⟨h1,h2⟩
 refine WP.seq<|WP.reg<|WL.e Z3'<|WL.next<|WP.seq ?_
 refine WP.cond rfl (fun h3=>?_) (fun h3=>?_)
 ·have hlt:i < xs.length:=by rw [decide_eq_true_eq] at h3;omega
  obtain ⟨x,hx⟩:∃ x,xs[i]?=some x:=⟨_,List.getElem?_eq_getElem hlt⟩
  refine WP.skip<|PO.next<|WP.seq<|WP.block<|WP.seq<|WP.reg<|WL.e Za'<|WL.e Zb'<|WL.next<|WP.seq<|WP.reg<|WL.e Za'<|WL.e Za'<|WL.e Za'<|WL.e (ZZ' Yw' hA hlt)<|WL.e (YA' (vs:=ChgM.c x) a179 chgE hA hx (hv:=Zaf_ (chgE.len x))) ?_
  refine WL.h (YE' (hy x) ?_)
  refine WL.next ?_
  refine WP.cond rfl (fun h4=>?_) (fun h4=>?_)
  ·skip
   refine WP.seq<|WP.reg<|WL.e Za'<|WL.e Zb'<|WL.next<|WP.ret<|PO.blockR<|PO.past nofun<|PO.round nofun<|PO.blockR<|PO.past nofun ?_
   exact PO.finE Tryz.results109 (Zd' Zf') (by rw [Vw' h2 hx h4];rfl) hK
  ·skip
   refine WP.skip<|PO.blockN<|PO.next<|WP.reg<|WL.e (ZE' rfl rfl (Zt' (by omega) (by omega)))<|WL.e Za'<|WL.nil ?_
   exact PO.againK (i+1) ⟨by omega,by rw [ZA' hx,List.any_append,h2];simp [h4]⟩ (by omega)
 ·have hall:xs.any p=false:=by rw [decide_eq_false_iff_not] at h3;rwa [List.take_of_length_le (by omega)] at h2
  refine WP.exit<|PO.past nofun<|PO.round nofun<|PO.blockX<|PO.next<|WP.seq<|WP.reg<|WL.e Zb'<|WL.next<|WP.ret ?_
  exact PO.finE Tryz.results109 (Zd' Zf') (by rw [hall];rfl) hK
theorem Uj' {g:World} {A B:HP} {u y:Value} {xs:List ChgM} {p:ChgM→Bool} (hA:RL A 3 ChgM.c u xs) (hn:xs.length≤68719476736) (hy:∀ x,CallV Tryz.prog g y [.agg (ChgM.c x).toArray] [B] fun K R=>K (.bool (p x)) (B::R)) :
  Spec Tryz.prog g 80 [u,y] [A,B] fun K R=>K (.bool (xs.any p)) (A::B::R):=by
 refine Spec.intro Tryz.func80 rfl Tryz.ntmps80 rfl fun R K hK=>?_
 refine WP.seq<|WP.reg<|WL.e Zb'<|WL.next<|WP.seq<|WP.reg<|WL.e Za'<|WL.e Za' ?_
 refine WL.h (Zg' (ZfU_ hA hn hy) k109 ?_)
 refine WL.e YD'<|WL.e Zb'<|WL.next<|WP.ret ?_
 exact PO.finE Tryz.results80 (Zd' Zf') (by cases h:xs.any p <;> simp) hK
theorem Zk2_ {g:World} (c:ChgM):Spec Tryz.prog g 81 [c.v] [] fun K R=>K (.bool (!ZR' c)) R:=by
 refine Spec.intro Tryz.func81 rfl Tryz.ntmps81 rfl fun R K hK=>?_
 refine WP.seq<|WP.reg ?_
 refine WL.h (ZL' fun b1=>?_)
 refine WL.e Zb'<|WL.next<|WP.seq<|WP.reg<|WL.e (e_fa XC')<|WL.e (Zc' a9) ?_
 refine WL.h (Zg' (X9' _) k45 ?_)
 refine WL.e Zx'<|WL.e Za' ?_
 refine WL.bool 7 rfl (fun g1=>?_) (fun g1=>?_)
 ·skip
  refine WL.skip<|WL.skip<|WL.skip<|WL.skip<|WL.skip<|WL.skip<|WL.skip<|WL.e Zn'<|WL.e Zb'<|WL.next<|WP.ret ?_
  exact PO.finE Tryz.results81 (Zd' Zf') (by simp_all [ZR',bne]) hK
 ·skip
  refine WL.e (e_fa QU')<|WL.e (Zc' a4)<|WL.e Za' ?_
  refine WL.bool 10 rfl (fun g2=>?_) (fun g2=>?_)
  ·skip
   refine WL.e (e_fa Y4')<|WL.e (Zc' a24)<|WL.e (XE' (b:=0))<|WL.e Zn'<|WL.e Zl'<|WL.e Zb'<|WL.next<|WP.ret ?_
   exact PO.finE Tryz.results81 (Zd' Zf') (by simp_all [ZR',bne]) hK
  ·skip
   refine WL.skip<|WL.skip<|WL.skip<|WL.e Zl'<|WL.e Zl'<|WL.e Zb'<|WL.next<|WP.ret ?_
   exact PO.finE Tryz.results81 (Zd' Zf') (by simp_all [ZR',bne]) hK
end Go.SL
namespace Go.SL.Fc
end Go.SL.Fc
namespace Go.SL
open Go Go.Proofs Fc
theorem ZfV_ {g:World} {u:Value} {xs:List RowM} {i:Nat} {x:RowM} (hx:xs[i]?=some x) (hn:xs.length≤68719476736) :
  Spec Tryz.prog g 111 [u,.int .i64 i,.int .i64 (i+1:Nat)] [Sl 105 2 RowM.c u xs] fun K R=>∀ a m c,K (.slice a m c) (Sl 105 2 RowM.c (.slice a m c) (xs.eraseIdx i)::R):=by
 obtain ⟨A,D,rfl,rfl⟩:=Zk1_ hx
 rw [Zji_]
 refine Spec.intro Tryz.func111 rfl Tryz.ntmps111 rfl fun R K hK=>?_
 refine WP.own_open (n:=(A++x::D).length) (by simp;omega) (by exact .z) ?_
 rintro b o c l rfl hnc hc hl hcs
 have hlen:(A++x::D).length=A.length+1+D.length:=by simp;omega
 have hRL:RL (cl b 105 l) 2 RowM.c (.slice (some ⟨b,o,none⟩) (A++x::D).length c) (A++x::D):=ZcR_ rowE (At.lit hnc) hl rfl hcs
 have hA0:At (XO' (.slice (some ⟨b,o,none⟩) (A++x::D).length c) 0 A.length c 2) b o A.length c:=by have:=(At.lit (b:=b) (o:=o) hnc).sub (lo:=0) (hi:=A.length) (m:=c) (z:=2) (by omega) (by omega) (Nat.le_refl _);simpa using this
 have hAD:At (XO' (.slice (some ⟨b,o,none⟩) (A++x::D).length c) (A.length+1) (A++x::D).length c 2) b (o+(A.length+1) * 2) D.length (c - (A.length+1)):=by have:=(At.lit (b:=b) (o:=o) hnc).sub (lo:=A.length+1) (hi:=(A++x::D).length) (m:=c) (z:=2) (by omega) (by omega) (Nat.le_refl _);rwa [show (A++x::D).length - (A.length+1)=D.length by omega] at this
 have hD:Rd (cl b 105 l) 2 (XO' (.slice (some ⟨b,o,none⟩) (A++x::D).length c) (A.length+1) (A++x::D).length c 2) D.length (D.flatMap RowM.c):=ZcR_ rowE hAD (by omega) rfl (ZhK_ rowE hcs)
 refine WP.seq<|WP.reg<|WL.e Zb'<|WL.next<|WP.seq<|WP.reg<|WL.e Za'<|WL.e Za'<|WL.e Za'<|WL.e Za'<|WL.e (ZD' sl38 hRL)<|WL.e (Xf' (lo:=A.length) (hi:=A.length+1) (m:=(A++x::D).length) (c:=c) (n:=(A++x::D).length) sl38 rfl (At.lit hnc) (.inr ⟨_,_,rfl,rfl⟩) (.inr ⟨_,_,rfl,rfl⟩) (.inr ⟨_,_,rfl,rfl⟩) (by omega) (by omega) hnc)<|WL.next<|WP.seq<|WP.seq<|WP.reg<|WL.e Za'<|WL.e Za'<|WL.e ZM'<|WL.next ?_
 refine WP.cond rfl (fun h1=>?_) (fun h1=>?_)
 ·rw [beq_iff_eq] at h1;omega
 ·skip
  refine WP.skip<|PO.next<|WP.seq<|WP.reg<|WL.e Za'<|WL.e (ZD' sl38 hRL)<|WL.e Zb'<|WL.next<|WP.seq<|WP.draws Zq' 8<|RW.e 0 rfl Za'<|RW.e 1 rfl Za'<|RW.e 2 rfl (Xf' (lo:=0) (hi:=A.length) (m:=c) (c:=c) (n:=(A++x::D).length) sl38 rfl (At.lit hnc) (.inl ⟨rfl,rfl⟩) (.inr ⟨_,_,rfl,rfl⟩) (.inl ⟨rfl,rfl⟩) (by omega) (by omega) (Nat.le_refl _))<|RW.e 3 rfl Za'<|RW.e 4 rfl Za'<|RW.e 5 rfl (Xf' (lo:=A.length+1) (hi:=(A++x::D).length) (m:=c) (c:=c) (n:=(A++x::D).length) sl38 rfl (At.lit hnc) (.inr ⟨_,_,rfl,rfl⟩) (.inl ⟨rfl,rfl,rfl⟩) (.inl ⟨rfl,rfl⟩) (by omega) (by omega) (Nat.le_refl _)) ?_
  refine RW.any (is:=[6]) rfl ⟨?_,trivial⟩
  refine RWat.h rfl rfl rfl ?_
  refine (ZfT_ (n:=A.length) (c:=c) (k:=D.length) (o:=o) (l:=l) (ds:=D.flatMap RowM.c) sl38 hA0 hl hD (Jx' rowE D) (by omega) (fun a2 hAt=>?_))
  refine ⟨trivial,?_⟩
  refine RW.any (is:=[7]) rfl ⟨?_,trivial⟩
  refine RWat.h rfl rfl rfl<|HO.of_eo Zb' ?_
  refine ⟨trivial,?_⟩
  refine RW.done<|PO.next<|WP.seq<|WP.reg<|WL.e Za'<|WL.e Za'<|WL.e (Zbo_ sl38)<|WL.e Za'<|WL.e (Xf' (lo:=A.length+D.length) (hi:=(A++x::D).length) (m:=c) (c:=c) (n:=A.length+D.length) sl38 rfl hAt (.inr ⟨_,_,rfl,rfl⟩) (.inr ⟨_,_,rfl,rfl⟩) (.inl ⟨rfl,rfl⟩) (by omega) (by omega) (Nat.le_refl _)) ?_
  obtain ⟨hd1,hd2⟩:=Zjh_ (zs:=[.string .empty,.int .u32 0]) rowE hl hnc hcs rfl
  refine WL.h' (ZgA_ (T:=38) (n:=1) (c:=c - (A.length+D.length)) (o:=o+(A.length+D.length) * 2) (b:=b) (l:=ZP' l (o+A.length * 2) (D.flatMap RowM.c)) sl38 z105 (by have:=hAt.sub (lo:=A.length+D.length) (hi:=(A++x::D).length) (m:=c) (z:=2) (by omega) (by omega) (Nat.le_refl _);rwa [show (A++x::D).length - (A.length+D.length)=1 by omega] at this) (by rw [Kh' _ _ _ (by rw [Yg' rowE];omega)];omega) ?_)
  rw [show (List.replicate 1 [Value.string .empty,Value.int .u32 0]).flatten=[.string .empty,.int .u32 0] from rfl]
  refine WL.next<|WP.seq<|WP.reg<|WL.e Za'<|WL.e Zb'<|WL.next<|WP.ret ?_
  refine PO.cls (A:=Sl 105 2 RowM.c (.slice a2 (A.length+D.length) c) (A++D)) (B:=[cl b 105 _]) (fun S h=>?_) ?_
  ·have h:=Zdp_ h
   unfold Sl
   rw [List.length_append]
   refine ZbT_ hAt hc ?_ ?_ S h
   ·rw [hd2];exact hl
   ·rw [List.length_append] at hd1;exact hd1
  exact PO.fin Tryz.results111 (Zd' Zf') (hK a2 (A.length+D.length) c)
end Go.SL
namespace Go.SL
open Go
theorem Zjj_ {α:Type} {z o c:Nat} {enc:α→List Value} (he:EncOk z enc) {l:List Value} {A D:List α} {x:α} (hl:o+c * z≤l.length) (hc:(A++D).length+1≤c) (hcs:(l.drop o).take ((A++D).length * z)=(A++D).flatMap enc) :
    ((ZP' (ZP' l (o+(A.length+1) * z) (D.flatMap enc)) (o+A.length * z) (enc x)).drop o).take (((A++D).length+1) * z)=(A++x::D).flatMap enc ∧
    (ZP' (ZP' l (o+(A.length+1) * z) (D.flatMap enc)) (o+A.length * z) (enc x)).length=l.length∧(ZP' l (o+(A.length+1) * z) (D.flatMap enc)).length=l.length∧(l.drop (o+A.length * z)).take (D.length * z)=D.flatMap enc:=by
  have hm:((A++D).length+1) * z≤c * z:=Nat.mul_le_mul_right _ hc
  have hlP:(l.take o).length=o:=by simp;omega
  have el:l=l.take o++(A++D).flatMap enc++l.drop (o+(A++D).length * z):=by
    rw [← hcs,List.append_assoc]
    conv=>lhs;rw [← List.take_append_drop o l]
    congr 1
    rw [← List.drop_drop];exact (List.take_append_drop _ _).symm
  have hQ:(l.drop (o+(A++D).length * z)).length=l.length - (o+(A++D).length * z):=by simp
  generalize hP:l.take o=P at el hlP
  generalize l.drop (o+(A++D).length * z)=Q at el hQ
  have hfA:=Yg' he A
  have hfD:=Yg' he D
  have hfx:=he.len x
  rw [List.length_append] at hm hQ
  simp only [Nat.add_mul,Nat.one_mul] at hm hQ
  have hW:(D.flatMap enc++Q).length=D.length * z+Q.length:=by simp [hfD]
  have e1:l=(P++A.flatMap enc++(D.flatMap enc++Q).take z)++((D.flatMap enc++Q).drop z).take (D.flatMap enc).length++((D.flatMap enc++Q).drop z).drop (D.flatMap enc).length:=by
    rw [List.append_assoc _ (List.take _ (List.drop _ _)),List.take_append_drop,List.append_assoc _ (List.take z _),List.take_append_drop,el];simp
  have hU:(P++A.flatMap enc++(D.flatMap enc++Q).take z).length=o+(A.length+1) * z:=by
    simp only [List.length_append,List.length_take,hfA,hlP,hfD,Nat.add_mul,Nat.one_mul];omega
  have hV:(((D.flatMap enc++Q).drop z).take (D.flatMap enc).length).length=(D.flatMap enc).length:=by
    rw [List.length_take,List.length_drop,hW,hfD];omega
  have s1:ZP' l (o+(A.length+1) * z) (D.flatMap enc)=(P++A.flatMap enc++(D.flatMap enc++Q).take z)++D.flatMap enc++((D.flatMap enc++Q).drop z).drop (D.flatMap enc).length:=by
    conv=>lhs;rw [e1,← hU]
    rw [Vb' _ _ _ _ hV.symm]
  have hU2:(P++A.flatMap enc).length=o+A.length * z:=by simp [hfA,hlP]
  have hV2:(enc x).length=((D.flatMap enc++Q).take z).length:=by rw [hfx,List.length_take,hW];omega
  have s2:ZP' (ZP' l (o+(A.length+1) * z) (D.flatMap enc)) (o+A.length * z) (enc x)=(P++A.flatMap enc)++enc x++(D.flatMap enc++((D.flatMap enc++Q).drop z).drop (D.flatMap enc).length):=by
    rw [s1,← hU2,List.append_assoc _ (D.flatMap enc),Vb' _ _ _ _ hV2]
  have hlen:l.length=P.length+(A.length * z+D.length * z)+Q.length:=by
    conv=>lhs;rw [el]
    simp only [List.length_append,List.flatMap_append,hfA,hfD]
  have hX:(((D.flatMap enc++Q).drop z).drop (D.flatMap enc).length).length=Q.length - z:=by
    rw [List.length_drop,List.length_drop,hW,hfD];omega
  have hY:((D.flatMap enc++Q).take z).length=z:=by rw [List.length_take,hW];omega
  have hzQ:z≤Q.length:=by omega
  clear e1 hV hV2 hW
  generalize ((D.flatMap enc++Q).drop z).drop (D.flatMap enc).length=T at *
  generalize (D.flatMap enc++Q).take z=Y at *
  refine ⟨?_,?_,?_,?_⟩
  · rw [s2,show P++A.flatMap enc++enc x++(D.flatMap enc++T)=P++((A++x::D).flatMap enc++T) by simp]
    rw [← hlP,List.drop_left,show ((A++D).length+1) * z=((A++x::D).flatMap enc).length by rw [Yg' he];congr 1;simp;omega,List.take_left]
  · rw [s2,hlen];simp only [List.length_append,hX,hfA,hfD,hfx];omega
  · rw [s1,hlen];simp only [List.length_append,hX,hY,hfA,hfD];omega
  · conv=>lhs;rw [el]
    rw [List.flatMap_append,← List.append_assoc,List.append_assoc _ (D.flatMap enc),← hU2,List.drop_left,← hfD,List.take_left]
theorem Zk3_ {α:Type} (A D:List α) (x z0:α):over (over (A++List.replicate (D.length+1) z0) A.length [x]) (A.length+1) D=A++x::D:=by
  rw [Uh' A _ [x] A.length rfl (by simp)]
  rw [Uh' (A++[x]) _ D (A.length+1) (by simp) (by simp)]
  simp
theorem VO' {α:Type} {z:Nat} {enc:α→List Value} (he:EncOk z enc) {xs:List α} {j f:Nat} {a a':α} {b:Value} (hx:xs[j]?=some a) (hf:f < z) (hb:enc a'=(enc a).set f b):ZP' (xs.flatMap enc) (j * z+f) [b]=(xs.set j a').flatMap enc:=by
  have hj:=Yf' hx
  have hle:(j+1) * z≤xs.length * z:=Nat.mul_le_mul_right z hj
  rw [Nat.add_mul,Nat.one_mul] at hle
  rw [← Zd9_ he xs j a' hj]
  apply List.ext_getElem?
  intro i
  rw [JB' _ _ _ (by rw [Yg' he];simp;omega),JB' _ _ _ (by rw [Yg' he,he.len];omega),he.len,hb]
  simp only [List.length_cons,List.length_nil]
  by_cases h1:i < j * z
  · simp [h1,show i < j * z+f by omega]
  · simp only [h1,if_false]
    by_cases h2:i < j * z+z
    · simp only [h2,if_true]
      rw [List.getElem?_set]
      have hget:(xs.flatMap enc)[i]?=(enc a)[i - j * z]?:=by
        have:=Ud' he hx (i - j * z) (by omega)
        rwa [show j * z+(i - j * z)=i by omega] at this
      by_cases h3:f=i - j * z
      · have:i=j * z+f:=by omega
        subst this
        simp [he.len,hf]
      · simp only [h3,if_false]
        by_cases h4:i < j * z+f
        · simp [h4,hget]
        · simp [h4,show ¬ i < j * z+f+1 by omega,hget]
    · simp only [h2,if_false]
      simp [show ¬ i < j * z+f by omega,show ¬ i < j * z+f+1 by omega]
theorem ZgL_ {α:Type} {p:α→Bool}:∀ {D:List α} {k:Nat} {x:α},(∀ r ∈ D.take k,p r=true)→D[k]?=some x→p x=false→D.takeWhile p=D.take k
  | [],_,_,_,hx,_=>by simp at hx
  | a::D,0,x,_,hx,hp=>by simp at hx;subst hx;simp [List.takeWhile_cons,hp]
  | a::D,k+1,x,h,hx,hp=>by
    simp only [List.take_succ_cons,List.mem_cons] at h
    simp only [List.take_succ_cons,List.takeWhile_cons,h a (.inl rfl),if_true]
    rw [ZgL_ (fun r hr=>h r (.inr hr)) (by simpa using hx) hp]
theorem ZnU_ {α:Type} {p:α→Bool} {D:List α} (h:∀ r ∈ D,p r=true):D.takeWhile p=D:=by
  induction D with
  | nil=>rfl
  | cons a D ih=>simp [List.takeWhile_cons,h a (by simp),ih (fun r hr=>h r (by simp [hr]))]
theorem ZgM_ {α:Type} {p:α→Bool}:∀ {D:List α} {k:Nat} {x:α},(∀ r ∈ D.take k,p r=true)→D[k]?=some x→p x=true→D.take k++[x] <+: D.takeWhile p
  | [],_,_,_,hx,_=>by simp at hx
  | a::D,0,x,_,hx,hp=>by simp at hx;subst hx;simp [List.takeWhile_cons,hp]
  | a::D,k+1,x,h,hx,hp=>by
    simp only [List.take_succ_cons,List.mem_cons] at h
    simp only [List.take_succ_cons,List.takeWhile_cons,h a (.inl rfl),if_true,List.cons_append]
    rw [List.cons_prefix_cons]
    exact ⟨rfl,ZgM_ (fun r hr=>h r (.inr hr)) (by simpa using hx) hp⟩
theorem CallV.more {P:Program} {g:World} {y:Value} {args:List Value} {Pre:List HP} {A:HP} {v:Value} (h:CallV P g y args Pre fun K R=>K v R):CallV P g y args (A::Pre) fun K R=>K v (A::R):=fun R K w r hw hT=>
  h (A::R) K w r (hw.conv fun S hS=>X7' hS) hT
end Go.SL
namespace Go.SL
open Go
def Zmv_ {α:Type} (Lend:HP) (P:Program) (g:World) (f:FuncId) (args:Value→List Value) (Pre:List HP) (enc:α→List Value) (Res:α→HP) (All Pfx:List α→Prop) (Out:List HP):Prop:=
  ∀ (y:Value) (J:List α→HP) (X:List α→α→HP) (cont:List α→α→Prop),
    (∀ pre x,Pfx (pre++[x])→Hist cont pre→CallV P g y (enc x) [J pre,Res x,Lend] fun K R=>(cont pre x→K (.bool true) (J (pre++[x])::Lend::R))∧(¬ cont pre x→K (.bool false) (X pre x::Lend::R))) →
    Spec P g f (args y) (J []::Pre) fun K R=>(∀ xs,All xs→Hist cont xs→K (.tuple #[]) (J xs::(Out++R))) ∧
      (∀ pre x,Pfx (pre++[x])→Hist cont pre→¬ cont pre x→K (.tuple #[]) (X pre x::(Out++R)))
section
variable {P : Program} {r : Option Nat} {g : World} {Γ : Env} {L M : List HP}
theorem WP.rangeL {α:Type} {enc:α→List Value} {gop:Operand} {ps:List Tmp} {assign body:Code} {fs cs:List Value} {f:FuncId} {n:Nat} {D:List Deferred} {l:List (Nat × Value)} {Pre Out R:List HP} {All Pfx:List α→Prop} {Q:Post} {Lend:HP}
    (J:List α→HP) (X:List α→α→Code→HP) (cont:List α→α→Prop) {Res:α→HP} (hit:Zmv_ Lend P g f (fun y=>fs++[y]++cs) Pre enc Res All Pfx Out) (hf:Zh' P f=true)
    (hL:Split L (J []::Pre) R)
    (hbody:∀ lb db fn tmps pre x R',Pfx (pre++[x])→Hist cont pre→WP P (some lb) g assign (AsgP P g lb body (RndP P g lb ⟨.busy,none,fn,tmps,ps.toArray,assign,body,db⟩ (J (pre++[x])) (X pre x) (cont pre x) (Lend::R'))) ⟨n,[],KU' ps (enc x) l⟩ (Lp lb ⟨.ready,none,fn,tmps,ps.toArray,assign,body,db⟩::J pre::Res x::Lend::R'))
    (hdone:∀ db xs,All xs→Hist cont xs→PO g Q .normal ⟨n,⟨.collected db,#[]⟩::D,l⟩ (J xs::pt db (.deferred (some []))::(Out++R)))
    (hstop:∀ db pre x j,Pfx (pre++[x])→Hist cont pre→¬ cont pre x→WP P none g j Q ⟨n,⟨.collected db,#[]⟩::D,l⟩ (X pre x j::pt db (.deferred (some []))::(Out++R)))
    (hpl:∀ x,(enc x).length=ps.length) (hg:ev ⟨n,D,l⟩ gop=some (.func (.func f) fs.toArray cs.toArray):=by rfl) (hps:ps.all (Nat.blt · n)=true:=by rfl):WP P none g (.rangeFunc gop ps.toArray assign body) Q ⟨n,D,l⟩ L:=by
  intro a w ha hw
  refine wpIn_rangeFunc fun fn _=>?_
  let db:=w.heap.size
  let lb:=w.heap.size+1
  let rec0:Loop:=⟨.ready,none,fn,a.tmps,ps.toArray,assign,body,db⟩
  let w1:World:=(w.alloc (.deferred (some []))).alloc (.loop rec0)
  have hent:(Instr.enterLoop fn a.tmps ps.toArray assign body (FR none).round).run P w=.ok (lb,[⟨.collected db,#[]⟩]) w1:=by
    unfold Instr.enterLoop
    simp [FR,Fence.wide,w1,lb,db,rec0]
  refine ⟨lb,[⟨.collected db,#[]⟩],w1,{ target:=.fn (.func f) cs.toArray,args:=fs.toArray++#[Value.func (.yield lb) #[] #[]] },w1,f,(fs++[Value.func (.yield lb) #[] #[]]++cs).toArray,w1,hent,?_,fun _ _=>trivial,?_,Vn' none 0,?_⟩
  · simp only [resolve,Z5' hg ha]
    simp [Deferred.ofValue,Act.eval]
  · simp only [invoke];rw [Xr' hf];simp
  · 
    let J':List α→HP:=fun pre=>bun [Lp lb rec0,J pre]
    let X':List α→α→HP:=fun pre x=>ex fun j:Code=>bun [Lp lb { rec0 with state:=.done,pending:=some j },X pre x j]
    have hy:∀ pre x,Pfx (pre++[x])→Hist cont pre→CallV P g (.func (.yield lb) #[] #[]) (enc x) [J' pre,Res x,Lend] fun K R=>(cont pre x→K (.bool true) (J' (pre++[x])::Lend::R))∧(¬ cont pre x→K (.bool false) (X' pre x::Lend::R)):=by
      intro pre x hp hh R' K w2 r2 hw2 ⟨hT1,hT2⟩
      have hw3:Sat g (Lp lb rec0::J pre::Res x::Lend::R') w2:=hw2.conv fun _=>Yx'
      refine ⟨{ target:=.fn (.yield lb) #[],args:=(enc x).toArray },_,w2,fun w=>by simp [Deferred.ofValue],Zdj_ (rec:=rec0) (hw3.get .z) (by simp [rec0,hpl]),?_⟩
      show RoundIn (FR r2) 0 P lb fn ((ps.toArray.zip (enc x).toArray).foldl (fun tmps (t,a)=>tmps.setIfInBounds t a) a.tmps) assign body w2 (RetK g K)
      refine roundIn_of_wpIn trivial ?_
      have hΓ:Env.ok ⟨n,[],KU' ps (enc x) l⟩ ⟨(ps.toArray.zip (enc x).toArray).foldl (fun tmps (t,a)=>tmps.setIfInBounds t a) a.tmps,[]⟩:=U4' hps ⟨ha.size,rfl,ha.at_⟩
      refine wpIn_mono (hbody lb db fn a.tmps pre x R' hp hh _ w2 hΓ hw3) ?_
      intro e a₁ w₁ hq
      cases e <;> first | exact hq.elim | skip
      obtain ⟨w₂,hb,hq⟩:=hq
      refine ⟨w₂,hb,wpIn_mono hq ?_⟩
      intro e a₂ w₃ hq
      have fin:∀ v w₄,((cont pre x∧Ending.returned v=.returned (.bool true)∧Sat g (Lp lb { rec0 with state:=.ready,pending:=none }::J (pre++[x])::Lend::R') w₄)∨(¬ cont pre x∧Ending.returned v=.returned (.bool false)∧∃ j,Sat g (Lp lb { rec0 with state:=.done,pending:=some j }::X pre x j::Lend::R') w₄))→RetK g K (.returned v) w₄:=by
        rintro v w₄ (⟨hc,e1,h1⟩ | ⟨hc,e1,j,h1⟩)
        · cases e1
          exact ⟨_,_,rfl,hT1 hc,h1.conv fun _=>YB' (L:=[_,_])⟩
        · cases e1
          exact ⟨_,_,rfl,hT2 hc,h1.conv fun _ h=>Zei_ j (YB' (L:=[_,_]) h)⟩
      cases e <;> first | exact hq.elim | skip
      all_goals
        obtain ⟨v,w₄,h1,h2⟩:=hq
        exact ⟨v,w₄,h1,fin v w₄ h2⟩
    have hw1:Sat g (J' []::Pre++(pt db (.deferred (some []))::R)) w1:=by
      have h1:=hw.push (.deferred (some []))
      have h2:=h1.push (.loop rec0)
      refine h2.conv fun S hS=>?_
      have h3:(w.alloc (.deferred (some []))).heap.size=lb:=by simp [lb]
      have hS':Zo' (Lp lb rec0::pt db (.deferred (some []))::L) S:=by
        have:=hS;simp only [World.alloc] at h3;rw [h3] at this;exact this
      have h4:Zo' (Lp lb rec0::pt db (.deferred (some []))::(J []::Pre++R)) S:=ZU' (fun _=>ZU' (fun _=>hL.to)) hS'
      refine YB' (L:=[Lp lb rec0,J []]) ?_
      refine ZU' (fun S h=>?_) h4
      have h5:Zo' (J []::pt db (.deferred (some []))::(Pre++R)) S:=Jz' h
      exact ZU' (fun S h=>X7' h) h5
    have hcall:=hit (.func (.yield lb) #[] #[]) J' X' cont hy (pt db (.deferred (some []))::R) (fun v M=>∀ w3,Sat g M w3→rangePost (FR none) 0 P lb Q { a with defers:=[⟨.collected db,#[]⟩]++a.defers } (.returned v) w3) w1 hw1 ?_
    · refine HO.enter.callsIn_fr (hcall.mono ?_)
      rintro e w3 ⟨v,M,rfl,hk,hw3⟩
      exact hk w3 hw3
    · have haD:Env.ok ⟨n,⟨.collected db,#[]⟩::D,l⟩ { a with defers:=[⟨.collected db,#[]⟩]++a.defers }:=⟨ha.size,by simp [show a.defers=D from ha.defers],ha.at_⟩
      refine ⟨fun xs hx hh w3 hw3=>?_,fun pre x hp hh hc w3 hw3=>?_⟩
      · have h1:Sat g (Lp lb rec0::J xs::(Out++pt db (.deferred (some []))::R)) w3:=hw3.conv fun _=>Yx'
        refine ⟨none,_,QF' (h1.get .z) rfl,?_⟩
        have h2:=QS' (rec':={ rec0 with state:=.exhausted }) h1
        exact hdone db xs hx hh _ _ haD (h2.conv fun _ h=>ZU' (fun _=>Xe') (Xy' h))
      · obtain ⟨j,h1⟩:∃ j,Sat g (Lp lb { rec0 with state:=.done,pending:=some j }::X pre x j::(Out++pt db (.deferred (some []))::R)) w3:=by
          obtain ⟨j,hj⟩:=Zeh_ hw3.heap
          exact ⟨j,hw3.os,hw3.tape,hw3.output,hw3.size,Yx' hj⟩
        refine ⟨some j,_,QF' (h1.get .z) rfl,?_⟩
        have h2:=QS' (rec':={ rec0 with state:=.exhausted,pending:=some j }) h1
        exact hstop db pre x j hp hh hc _ _ haD (h2.conv fun _ h=>ZU' (fun _=>Xe') (Xy' h))
theorem ZnV_ {S:ZN'} {E z n i:Nat} {u:Value} {cs:List Value} (h:Own E z u n cs S) (hi:i≤n):Own E z (subV u 0 i none z) i (cs.take (i * z)) S:=by
  rcases h with ⟨rfl,h2,a,h3⟩ | ⟨b,o,c,l,rfl,h2,h3,h4,h5,h6⟩
  · have:i=0:=by omega
    subst this;subst h2;subst h3
    exact .inl ⟨rfl,by simp,a,by simp [subV]⟩
  · refine .inr ⟨b,o,c,l,?_,by omega,h3,h4,h5,?_⟩
    · simp [subV,YL']
    · rw [h6,List.take_take,Nat.min_eq_left (Nat.mul_le_mul_right _ hi)]
theorem ZhL_ {α:Type} {S:ZN'} {E z i:Nat} {u:Value} {enc:α→List Value} {xs:List α} (he:EncOk z enc) (h:Sl E z enc u xs S) (hi:i≤xs.length):Sl E z enc (subV u 0 i none z) (xs.take i) S:=by
  have:=ZnV_ h hi
  unfold Sl
  rw [List.length_take,Nat.min_eq_left hi,← J5' he];exact this
theorem ZeA_ {α:Type} {T E z y lo:Nat} {x:Operand} {enc:α→List Value} {u w':Value} {zs:List Value} {xs:List α} {N:List HP} {K:Value→List HP→Prop} (z0:α) (hs:slOf P T=some (E,z,y)) (hz:ZH' P E=some zs) (he:EncOk z enc) (hz0:enc z0=zs) (hlo:lo≤xs.length) (h0:0 < xs.length)
    (hK:K (.tuple #[]) N) (hu:w'=subV u lo xs.length none z:=by rfl) (hx:ev Γ x=some w':=by rfl) (hp:Put L (Sl E z enc u xs) (Sl E z enc u (xs.take lo++List.replicate (xs.length - lo) z0)) N:=by repeat first | exact .z | apply Put.s) {dst:Option Tmp} {t:TypeId} {pos:String} {aft:Array Edge} {gd:Option (Nat × Bool)}:HO P r g ⟨dst,.call ⟨.builtin .clear,#[x],#[T]⟩,t,pos,aft,gd⟩ Γ L K:=by
  intro a w Q next ha hw hn
  obtain ⟨R,p1,p2⟩:=hp.picks
  obtain ⟨S1,S2,hd,l1,l2,h1,h2⟩:=p1.to hw.heap
  obtain ⟨b,o,c,l,e1,e2,e3,e4,e5,e6⟩:=Zi1_ h1 h0
  have hw':Sat g (cl b E l::R) w:=⟨hw.os,hw.tape,hw.output,hw.size,S1,S2,hd,l1,l2,e6,h2⟩
  have hA:At w' b (o+lo * z) (xs.length - lo) (c - lo):=by
    rw [hu,e1]
    exact (At.lit (b:=b) (o:=o) e2).sub (lo:=lo) (hi:=xs.length) (m:=c) (z:=z) hlo e2 (Nat.le_refl _)
  have hcz:(c - lo) * z=c * z - lo * z:=Nat.sub_mul _ _ _
  have hlz:lo * z≤c * z:=Nat.mul_le_mul_right _ (by omega)
  have hnz:xs.length * z≤c * z:=Nat.mul_le_mul_right _ e2
  have hnz2:lo * z≤xs.length * z:=Nat.mul_le_mul_right _ hlo
  have hnz3:(xs.length - lo) * z=xs.length * z - lo * z:=Nat.sub_mul _ _ _
  have hrl:((List.replicate (xs.length - lo) zs).flatten).length=(xs.length - lo) * z:=by simp [← hz0,he.len]
  refine ZgA_ (K:=fun v M=>K v N∧M=cl b E (ZP' l (o+lo * z) (List.replicate (xs.length - lo) zs).flatten)::R) (L:=cl b E l::R) (l:=l) (b:=b) (U:=E) (N:=_::R) hs hz hA (by omega) ?_ (by rw [← hz0];exact he.len z0) (by rw [← hz0];exact he.one z0) hx .z a w Q next ha hw' ?_
  · exact ⟨hK,rfl⟩
  · rintro v M w2 ⟨hk,rfl⟩ hw2
    refine hn v N w2 hk (hw2.conv fun S hS=>p2.back (stars_one_cons (fun S h=>?_) hS))
    unfold Sl
    have hlen:(xs.take lo++List.replicate (xs.length - lo) z0).length=xs.length:=by simp;omega
    rw [hlen,e1]
    refine ZbT_ (At.lit e2) e3 ?_ ?_ S h
    · rw [Kh' _ _ _ (by rw [hrl];omega)];exact e4
    · apply List.ext_getElem?
      intro i
      rw [QP',JB' _ _ _ (by rw [hrl];omega),hrl,List.flatMap_append,List.getElem?_append,Yg' he,List.length_take,Nat.min_eq_left hlo]
      have hi5:∀ i,i < xs.length * z→l[o+i]?=(xs.flatMap enc)[i]?:=fun i hi=>by rw [← e5,QP',if_pos hi]
      by_cases h1:i < lo * z
      · rw [if_pos (by omega),if_pos (by omega),if_pos h1,hi5 i (by omega),← J5' he,List.getElem?_take,if_pos h1]
      · rw [if_neg h1]
        by_cases h2:i < xs.length * z
        · rw [if_pos h2,if_neg (by omega),if_pos (by omega),show o+i - (o+lo * z)=i - lo * z by omega,List.flatMap_replicate,hz0]
        · rw [if_neg h2]
          symm;apply List.getElem?_eq_none
          rw [List.flatMap_replicate,hz0,hrl];omega
where
  stars_one_cons {A B:HP} {R:List HP} {S:ZN'} (h:∀ S,A S→B S) (hs:Zo' (A::R) S):Zo' (B::R) S:=by
    obtain ⟨S1,S2,a,b,c,d,e⟩:=hs;exact ⟨S1,S2,a,b,c,h _ d,e⟩
theorem ZmS_ {dst:Option Tmp} {t:TypeId} {pos:String} {aft:Array Edge} {gd:Option (Nat × Bool)} {x y:Operand} {T U:TypeId} {a b:UInt32} (hx:ev Γ x=some (.int .u32 a.toNat):=by rfl) (hy:ev Γ y=some (.int .u32 b.toNat):=by rfl):EO P g ⟨dst,.call ⟨.builtin .min,#[x,y],#[T,U]⟩,t,pos,aft,gd⟩ Γ L (.int .u32 (if b < a then b else a).toNat):=by
  have h:=ZiQ_ (P:=P) (g:=g) (L:=L) (dst:=dst) (t:=t) (pos:=pos) (aft:=aft) (gd:=gd) (T:=T) (U:=U) hx hy
  have e:(if (b.toNat:Int) < a.toNat then (b.toNat:Int) else a.toNat)=((if b < a then b else a).toNat:Nat):=by
    by_cases h:b < a
    · rw [if_pos h,if_pos (by have:=UInt32.lt_iff_toNat_lt.1 h;omega)]
    · rw [if_neg h,if_neg (by intro h';exact h (UInt32.lt_iff_toNat_lt.2 (by omega)))]
  rw [← e];exact h
theorem CallV.bun {y v:Value} {args:List Value} {L:List HP} (h:CallV P g y args L fun K R=>K v (L++R)):CallV P g y args [SL.bun L] fun K R=>K v (SL.bun L::R):=by
  intro R K w r hw hT
  obtain ⟨d,nx,w',h1,h2,h3⟩:=h R (fun u M=>u=v∧M=L++R) w r (hw.conv fun _=>Yx') ⟨rfl,rfl⟩
  have hm:∀ e w,RetK g (fun u M=>u=v∧M=L++R) e w→RetK g K e w:=by
    rintro e w ⟨u,M,rfl,⟨rfl,rfl⟩,hs⟩
    exact ⟨_,_,rfl,hT,hs.conv fun _=>YB'⟩
  refine ⟨d,nx,w',h1,h2,?_⟩
  cases nx <;> simp only at h3 ⊢ <;> first | exact h3.elim | exact h3.mono hm | exact RoundIn.mono h3 hm
theorem Zb8_ {κ:Type} [DecidableEq κ] {ek:κ→Value} {kvs:List (κ × Value)} {m:Value} {dst:Option Tmp} {t:TypeId} {pos:String} {aft:Array Edge} {gd:Option (Nat × Bool)} {xt yt kt e:TypeId} {x y:Operand} (hT:P.underlying xt=some (.map kt e)) (hx:ev Γ x=some m:=by rfl) (hy:ev Γ y=some (.map none):=by rfl) (hp:Pick L (Mp ek m kvs) M:=by repeat first | exact .z | apply Pick.s) :
    EO P g ⟨dst,.binOp .neq xt x y yt,t,pos,aft,gd⟩ Γ L (.bool true):=
  .of (by simp) fun ρ hρ w hw=>by
    have h1:=hρ x m (by simp [Op.operands]) hx
    have h2:=hρ y _ (by simp [Op.operands]) hy
    obtain ⟨b,es,clock,rfl,_⟩:=hw.mp hp
    show ((do pure (Next.value (← (do eqGuard .neq xt x y (ρ x) (ρ y);binOp .neq xt (ρ x) (ρ y):Sem Value))):Sem Next)).run P w=_
    rw [h1,h2,eqGuard_at_map]
    show ((do pure (Next.value (← (do pure (.bool (!(← Op.equal xt (.map (some b)) (.map none)))):Sem Value))):Sem Next)).run P w=_
    have he:(Op.equal xt (.map (some b)) (.map none)).run P w=.ok false w:=by
      unfold Op.equal;rw [show Op.maxDepth=9999+1 from rfl];unfold Op.equalIn;simp only [Sem.run_bind,run_underlying hT,Result.andThen_ok];rfl
    simp only [Sem.run_bind,he,Result.andThen_ok,Sem.run_pure];rfl
theorem JT' {κ:Type} {ek:κ→Value} {m it:Value} {kvs left:List (κ × Value)} {cur:Option (κ × Value)}:∀ S,MpIt ek m it kvs left cur S→Mp ek m kvs S:=fun S h=>by
  obtain ⟨b,i,es,clock,seen,rfl,_,_,hb,_,h3,h4,h5,_⟩:=h
  exact ⟨b,es,clock,rfl,hb,h3,h4,h5⟩
theorem ZgN_ {α:Type} {z b n:Nat} {E:TypeId} {enc:α→List Value} (he:EncOk z enc) {l:List Value} (xs:List α) (h:xs.flatMap enc=l) (hn:xs.length=n) (hb:n < 9223372036854775808):∀ S,cl b E l S→Sl E z enc (.slice (some ⟨b,0,none⟩) n n) xs S:=fun S hS=>by
  unfold Sl
  have hl:l.length=n * z:=by rw [← h,Yg' he,hn]
  rw [hn]
  refine ZbT_ (At.lit (Nat.le_refl n)) hb (by omega) ?_ S hS
  rw [List.drop_zero,List.take_of_length_le (by omega),h]
theorem Ux' {α:Type} {c:α→Prop} {xs:List α} (h:Hist (fun _ x=>c x) xs):∀ x ∈ xs,c x:=fun x hx=>by
  obtain ⟨A,B,rfl⟩:=List.append_of_mem hx
  exact h A x B rfl
end
end Go.SL
namespace Go.SL
open Go
theorem Zk4_ {S:ZN'} {E z n i:Nat} {u:Value} {cs:List Value} (h:Own E z u n cs S) (hi:i < n):Own E z (subV u i n none z) (n - i) (cs.drop (i * z)) S:=by
  rcases h with ⟨rfl,_⟩ | ⟨b,o,c,l,rfl,h2,h3,h4,h5,h6⟩
  · omega
  · have e1:c * z=i * z+(c - i) * z:=by rw [← Nat.add_mul];congr 1;omega
    refine .inr ⟨b,o+i * z,c - i,l,?_,by omega,by omega,h4,by omega,?_⟩
    · simp only [subV,Option.getD_none,if_neg (show ¬ c=i by omega),Option.map_some,YL']
    · rw [h6,List.drop_take,List.drop_drop,← Nat.sub_mul]
theorem ZgO_ {α:Type} {S:ZN'} {E z i:Nat} {u:Value} {enc:α→List Value} {xs:List α} (he:EncOk z enc) (h:Sl E z enc u xs S) (hi:i < xs.length):Sl E z enc (subV u i xs.length none z) (xs.drop i) S:=by
  have:=Zk4_ h hi
  unfold Sl
  rw [List.length_drop,← Jw' he];exact this
theorem ZmT_ {S:ZN'} {E z n i:Nat} {u:Value} {cs:List Value} (h:Own E z u n cs S) (hi:i≤n):Own E z (subV u 0 i (some i) z) i (cs.take (i * z)) S:=by
  rcases h with ⟨rfl,h2,a,h3⟩ | ⟨b,o,c,l,rfl,h2,h3,h4,h5,h6⟩
  · have:i=0:=by omega
    subst this;subst h2;subst h3
    exact .inl ⟨rfl,by simp,a,by simp [subV]⟩
  · rcases Nat.eq_zero_or_pos i with rfl | h0
    · exact .inl ⟨rfl,by simp,_,by simp [subV];rfl⟩
    · have e1:i * z≤c * z:=Nat.mul_le_mul_right z (by omega)
      refine .inr ⟨b,o,i,l,?_,Nat.le_refl _,by omega,h4,by omega,?_⟩
      · simp only [subV,Option.getD_some,if_neg (show ¬ i=0 by omega),Option.map_some,Nat.zero_mul,YL',Nat.sub_zero,Nat.add_zero]
      · rw [h6,List.take_take,Nat.min_eq_left (Nat.mul_le_mul_right _ hi)]
theorem Zjk_ {α:Type} {S:ZN'} {E z i:Nat} {u:Value} {enc:α→List Value} {xs:List α} (he:EncOk z enc) (h:Sl E z enc u xs S) (hi:i≤xs.length):Sl E z enc (subV u 0 i (some i) z) (xs.take i) S:=by
  have:=ZmT_ h hi
  unfold Sl
  rw [List.length_take,Nat.min_eq_left hi,← J5' he];exact this
def RdM {κ:Type} (A:HP) (ek:κ→Value) (m:Value) (kvs:List (κ × Value)):Prop:=∀ S,A S→∃ b es clock,m=.map (some b)∧S b=some (.map (List.toArray es) clock)∧ents ek es kvs
theorem Zag_ {κ:Type} {ek:κ→Value} {m:Value} {kvs:List (κ × Value)}:RdM (Mp ek m kvs) ek m kvs:=fun _ ⟨b,es,clock,h1,h2,h3,_⟩=>⟨b,es,clock,h1,h2,h3⟩
theorem ZeB_ {κ:Type} {ek:κ→Value} {m it:Value} {kvs left:List (κ × Value)} {cur:Option (κ × Value)}:RdM (MpIt ek m it kvs left cur) ek m kvs:=fun _ ⟨b,_,es,clock,_,h1,_,_,h2,_,h3,_⟩=>⟨b,es,clock,h1,h2,h3⟩
section
variable {P : Program} {r : Option Nat} {g : World} {Γ : Env} {L M : List HP} {dst : Option Tmp} {t : TypeId} {pos : String} {aft : Array Edge} {gd : Option (Nat × Bool)}
variable {κ : Type} [DecidableEq κ] {kt : TypeId} {d : TypeDesc} {ek : κ → Value} {kvs : List (κ × Value)} {m : Value} {A : HP}
theorem Sat.rdm {w:World} (h:Sat g L w) (hA:RdM A ek m kvs) (hp:Pick L A M):∃ b es clock,m=.map (some b)∧w.heap[b]?=some (.map (List.toArray es) clock)∧ents ek es kvs:=by
  obtain ⟨S1,S2,_,h1,_,h2,_⟩:=hp.to h.heap
  obtain ⟨b,es,clock,e1,e2,e3⟩:=hA _ h2
  exact ⟨b,es,clock,e1,h1 _ _ e2,e3⟩
theorem VP' {x i:Operand} {T e:TypeId} {k:κ} {z:Value} (ht:P.underlying T=some (.map kt e)) (hk:KeyOk P kt d ek) (hz:(P.info? e).bind (·.zero)=some z) (hA:RdM A ek m kvs) (hx:ev Γ x=some m:=by rfl) (hi:ev Γ i=some (ek k):=by rfl) (hp:Pick L A M:=by repeat first | exact .z | apply Pick.s) :
    EO P g ⟨dst,.lookup T x i false,t,pos,aft,gd⟩ Γ L ((mget kvs k).getD z):=
  .of (by simp) fun ρ hρ w hw=>by
    obtain ⟨b,es,clock,rfl,hb,h3⟩:=hw.rdm hA hp
    simp only [execOp,hρ x _ (by simp [Op.operands]) hx,hρ i _ (by simp [Op.operands]) hi,Instr.lookup,Sem.run_bind,run_underlying ht,Result.andThen_ok,Yo' hb (by simp),Sem.run_pure,Xd' hk,Xz' hk k h3]
    cases hm:midx kvs k with
    | none=>simp [KS'.1 hm,YO' hz]
    | some j=>obtain ⟨v,_,h2⟩:=J6' hm;simp [h2]
theorem Zb9_ {x i:Operand} {T e:TypeId} {k:κ} {z:Value} (ht:P.underlying T=some (.map kt e)) (hk:KeyOk P kt d ek) (hz:(P.info? e).bind (·.zero)=some z) (hA:RdM A ek m kvs) (hx:ev Γ x=some m:=by rfl) (hi:ev Γ i=some (ek k):=by rfl) (hp:Pick L A M:=by repeat first | exact .z | apply Pick.s) :
    EO P g ⟨dst,.lookup T x i true,t,pos,aft,gd⟩ Γ L (.tuple #[(mget kvs k).getD z,.bool (mget kvs k).isSome]):=
  .of (by simp) fun ρ hρ w hw=>by
    obtain ⟨b,es,clock,rfl,hb,h3⟩:=hw.rdm hA hp
    simp only [execOp,hρ x _ (by simp [Op.operands]) hx,hρ i _ (by simp [Op.operands]) hi,Instr.lookup,Sem.run_bind,run_underlying ht,Result.andThen_ok,Yo' hb (by simp),Sem.run_pure,Xd' hk,Xz' hk k h3]
    cases hm:midx kvs k with
    | none=>simp [KS'.1 hm,YO' hz]
    | some j=>obtain ⟨v,_,h2⟩:=J6' hm;simp [h2]
theorem ZnW_ (hk:KeyOk P kt d ek) {a b:κ} (h:ek a=ek b):a=b:=by
  have h1:=hk.same a a
  have h2:=hk.same a b
  rw [← h,h1] at h2
  simpa using h2
theorem UY' {x i v:Operand} {T e:TypeId} {it:Value} {left:List (κ × Value)} {p:κ × Value} {u:Value} {N:List HP} {K:Value→List HP→Prop} (ht:P.underlying T=some (.map kt e)) (hk:KeyOk P kt d ek) (hnd:(kvs.map (·.1)).Nodup) (hK:K (.tuple #[]) N) (hx:ev Γ x=some m:=by rfl) (hi:ev Γ i=some (ek p.1):=by rfl) (hv:ev Γ v=some u:=by rfl)
    (hp:Put L (MpIt ek m it kvs left (some p)) (MpIt ek m it (mset kvs p.1 u) left none) N:=by repeat first | exact .z | apply Put.s):HO P r g ⟨dst,.mapUpdate T x i v,t,pos,aft,gd⟩ Γ L K:=
  HO.run_skip (by simp) fun a w ha hw=>by
    obtain ⟨R,p1,p2⟩:=hp.picks
    obtain ⟨S1,S2,hd,l1,l2,⟨b,i0,es,clock,seen,rfl,rfl,hbi,hb,hit,h3,h4,h5,h6,h7⟩,hR⟩:=p1.to hw.heap
    have hb':=l1 _ _ hb
    obtain ⟨e0,he0,hs0,hk0,hv0⟩:=h7 p rfl
    have hl:es.length=kvs.length:=Ql' h3
    obtain ⟨j0,hj0,hje⟩:=List.getElem_of_mem he0
    have hkv0:∃ q,kvs[j0]?=some q∧e0.key=ek q.1:=by
      have:=congrArg (·[j0]?) h3
      simp only [List.getElem?_map,List.getElem?_eq_getElem hj0,List.getElem?_eq_getElem (show j0 < kvs.length by omega)] at this
      simp only [Option.map_some,Option.some.injEq,Prod.mk.injEq] at this
      exact ⟨kvs[j0]'(by omega),List.getElem?_eq_getElem (by omega),by rw [← hje];exact this.1⟩
    obtain ⟨q,hq,hqk⟩:=hkv0
    have hqp:q.1=p.1:=ZnW_ hk (hqk.symm.trans hk0)
    cases hm:midx kvs p.1 with
    | none=>
      have:=List.findIdx?_eq_none_iff.1 hm q (List.mem_of_getElem? hq)
      simp [hqp] at this
    | some j=>
      obtain ⟨v',hj,hg⟩:=J6' hm
      have hjl:j < es.length:=by
        rcases Nat.lt_or_ge j kvs.length with h' | h'
        · omega
        · rw [List.getElem?_eq_none h'] at hj;cases hj
      have hjj:j=j0:=by
        have a1:(kvs.map (·.1))[j]?=some p.1:=by rw [List.getElem?_map,hj];rfl
        have a2:(kvs.map (·.1))[j0]?=some p.1:=by rw [List.getElem?_map,hq];simp [hqp]
        exact (List.getElem?_inj (i:=j) (by rw [List.length_map];omega) hnd).1 (a1.trans a2.symm)
      subst hjj
      have hkey:((es.toArray[j]?).map (·.key)).getD (ek p.1)=ek p.1:=by
        simp [List.getElem?_eq_getElem hjl,hje,hk0]
      refine ⟨N,{ w with heap:=w.heap.setIfInBounds b (.map (es.modify j fun e=>{ e with key:=ek p.1,val:=u }).toArray clock) },?_,hK,?_⟩
      · simp only [execOp,Z5' hx ha,Z5' hi ha,Z5' hv ha,Instr.mapUpdate,Sem.run_bind,run_underlying ht,Result.andThen_ok,Yo' hb' (by simp),Xd' hk,Xz' hk p.1 h3,hm,Option.bind_some,hg,Option.map_some,hkey]
        simp only [Instr.keyThatStays,hk.bits p.1 9999,if_true,Sem.run_pure,Result.andThen_ok,XA' hb' (by simp)]
        simp
      · have hborn:(es.modify j fun e=>{ e with key:=ek p.1,val:=u }).map (·.born)=es.map (·.born):=by
          apply List.ext_getElem?
          intro i
          simp only [List.getElem?_map,List.getElem?_modify]
          by_cases e:j=i
          · subst e;cases es[j]? <;> simp
          · simp [e]
        refine (Sat.setObj (B:=MpIt ek (.map (some b)) (.pointer (some ⟨i0,0,none⟩)) (mset kvs p.1 u) left none) hw hd l1 l2 hb hR fun S hS hS'=>⟨b,i0,_,clock,seen,rfl,rfl,hbi,hS,by rw [hS' i0 (Ne.symm hbi)];exact hit,?_,by rw [hborn];exact h4,?_,?_,by simp⟩).conv fun _=>p2.back
        · simp only [mset,hm];exact Zed_ h3
        · intro e he
          obtain ⟨i,hi',rfl⟩:=List.getElem_of_mem he
          simp only [List.length_modify] at hi'
          have:(es.modify j fun e=>{ e with key:=ek p.1,val:=u })[i].born=es[i].born:=by
            rw [List.getElem_modify];split <;> rfl
          rw [this];exact h5 _ (List.getElem_mem hi')
        · have hseen:seen.contains e0.born=true:=by
            have:=Array.mem_of_back? hs0
            simpa using this
          have key:∀ (l:List MapEntry) (j:Nat) (hj:j < l.length),seen.contains (l[j]).born=true→((l.modify j fun e=>{ e with key:=ek p.1,val:=u }).filter fun e=>!seen.contains e.born)=l.filter fun e=>!seen.contains e.born:=by
            intro l
            induction l with
            | nil=>intro j hj;simp at hj
            | cons x l ih=>
              intro j hj hs
              cases j with
              | zero=>
                simp only [List.getElem_cons_zero] at hs
                rw [List.modify_zero_cons]
                rw [List.filter_cons_of_neg (by simpa using hs),List.filter_cons_of_neg (by simpa using hs)]
              | succ j=>
                simp only [List.getElem_cons_succ] at hs
                rw [List.modify_succ_cons,List.filter_cons,List.filter_cons,ih j (by simpa using hj) hs]
          rw [key es j hjl (by rw [hje];exact hseen)]
          exact h6
end
end Go.SL
namespace Go
section
variable {P : Program} {b : Frame} {a : Act} {k : List Item} {cs : List Frame} {w : World}
theorem JU' {c:Code}:step P (lone (b.atR a (.code (.scope c)::k)) cs w)=.next (lone (b.atR a (.code c::.inScope c::k)) cs w):=
  step_lone_go (by simp [stepG,stepG.exec,Frame.atR])
theorem ZdP_ {c:Code}:step P (lone (b.atR a (.inScope c::k)) cs w)=.next (lone (b.atR a k) cs w):=
  step_lone_go (by simp [stepG,stepG.exec,Frame.atR])
end
theorem ZhM_ {F:Fence} {n:Nat} {P:Program} {Q:Exit→Act→World→Prop} {a:Act} {w:World} {c:Code} (h:c.wpIn F n P (Exit.noGoto Q) a w):(Code.scope c).wpIn F n P Q a w:=by
  intro b k cs hro hb hr
  have h0:(lone (b.atR a (.code (.scope c)::k)) cs w).fenced P F:=fenced_calm hb hr rfl
  obtain ⟨e,a₁,w₁,hq,harr⟩:=h b (.inScope c::k) cs hro hb hr
  cases e with
  | normal=>exact ⟨.normal,a₁,w₁,hq,.head h0 JU' (StepsIn.trans harr (.one (fenced_calm hb hr rfl) ZdP_))⟩
  | exit id=>
    have hx:exitTo id (.inScope c::k)=exitTo id k:=by simp [exitTo]
    exact ⟨.exit id,a₁,w₁,hq,fun k' hk=>.head h0 JU' (harr.1 k' (by rw [hx];exact hk)),
      fun hr' hk=>let ⟨k₁,h1,h2⟩:=harr.2 hr' (by rw [hx];exact hk);⟨k₁,h1,.head h0 JU' h2⟩⟩
  | goto l=>exact hq.elim
  | ret=>exact ⟨_,a₁,w₁,hq,.of_steps (.one h0 JU') harr⟩
  | panic ch=>exact ⟨_,a₁,w₁,hq,.of_steps (.one h0 JU') harr⟩
  | outgrown=>exact ⟨_,a₁,w₁,hq,.of_steps (.one h0 JU') harr⟩
namespace SL
open Go Go.Proofs
section
variable {P : Program} {r : Option Nat} {g : World} {Γ : Env} {L : List HP} {Q : Post}
theorem WP.scope {c:Code} (h:WP P r g c (Exit.noGoto Q) Γ L):WP P r g (.scope c) Q Γ L:=fun a w ha hw=>ZhM_ (h a w ha hw)
theorem WP.label {l:Nat} (h:PO g Q .normal Γ L):WP P r g (.label l) Q Γ L:=fun a w ha hw=>wpIn_label (h a w ha hw)
theorem PO.scopeR (h:PO g Q .ret Γ L):PO g (Exit.noGoto Q) .ret Γ L:=h
end
section
variable {κ : Type} [DecidableEq κ] {P : Program} {r : Option Nat} {g : World} {Γ : Env} {L : List HP} {dst : Option Tmp} {t : TypeId} {pos : String} {aft : Array Edge} {gd : Option (Nat × Bool)} {kt : TypeId} {d : TypeDesc} {ek : κ → Value} {m : Value} {kvs : List (κ × Value)}
theorem Zk5_ {x i v:Operand} {T e:TypeId} {k:κ} {u:Value} {N:List HP} {K:Value→List HP→Prop} (ht:P.underlying T=some (.map kt e)) (hk:KeyOk P kt d ek) (hK:K (.tuple #[]) N) (hx:ev Γ x=some m:=by rfl) (hi:ev Γ i=some (ek k):=by rfl) (hv:ev Γ v=some u:=by rfl)
    (hp:Put L (Mp ek m kvs) (Mp ek m (mset kvs k u)) N:=by repeat first | exact .z | apply Put.s):HO P r g ⟨dst,.insert T x i v,t,pos,aft,gd⟩ Γ L K:=fun a w Q next ha hw hn=>by
  have h:=YI' (P:=P) (r:=r) (g:=g) (dst:=dst) (t:=t) (pos:=pos) (aft:=aft) (gd:=gd) (x:=x) (i:=i) (v:=v) ht hk hK hx hi hv hp a w Q next ha hw hn
  refine ⟨XX',?_⟩
  have h2:=h.2
  rw [Oper.semAt_eq _ _ _ (by simp)] at h2 ⊢
  exact h2
end
def SpecD (P:Program) (g:World) (f:FuncId) (args:List Value) (Pre:List HP) (T:(Value→List HP→Prop)→List HP→Prop):Prop:=
  ∀ (R:List HP) (K:Value→List HP→Prop) (w:World),Sat g (Pre++R) w→T K R→CallsDIn Fence.wide 0 P f args.toArray .returning w fun e u' w'=>u'=.returning∧∃ v M,e=.returned v∧K v M∧Sat g M w'
def RPD (P:Program) (g:World) (fn:Func) (K:Value→List HP→Prop):Post:=bodyPost P fn fun e w'=>∃ v M,e=.returned v∧K v M∧Sat g M w'
theorem SpecD.intro {P:Program} {g:World} {f:FuncId} {fn:Func} {c:Code} {args:List Value} {Pre:List HP} {T:(Value→List HP→Prop)→List HP→Prop} {n:Nat} (hf:P.funcs[f]?=some fn) (hb:fn.body=some c) (hn:fn.ntmps=n) (hle:Nat.ble args.length n=true)
    (h:∀ (R:List HP) (K:Value→List HP→Prop),T K R→WP P none g c (RPD P g fn K) ⟨n,[],Vo' 0 args⟩ (Pre++R)):SpecD P g f args Pre T:=by
  intro R K w hw hT
  have hle':args.length≤n:=by simpa using hle
  refine callsDIn_of_wp hf hb trivial ?_
  refine h R K hT _ w ⟨?_,rfl,?_⟩ hw
  · simp;omega
  · intro i v hi
    obtain ⟨_,h2⟩:=Q6' args 0 i v hi
    simp only [Nat.sub_zero] at h2
    have hlt:i < args.length:=by
      rcases Nat.lt_or_ge i args.length with h' | h'
      · exact h'
      · rw [List.getElem?_eq_none h'] at h2;cases h2
    simp only
    rw [Array.getElem?_append_left (by simpa using hlt)]
    simpa using h2
theorem PO.finDD {P:Program} {g:World} {L:List HP} {fn:Func} {K:Value→List HP→Prop} {e:Exit} {n:Nat} {l:List (Nat × Value)} {rs:List ResultVar} {vs:List Value} {M:List HP} (hr:fn.results=rs.toArray) (hv:RV P g ⟨n,[],l⟩ L rs vs) (hk:K (JA' vs) M)
    (hL:Sub L M:=by repeat first | exact .refl | exact Pick.z | apply Pick.s | apply Sub.cons | apply Sub.drop) (he:e=.ret∨e=.normal:=by first | exact .inl rfl | exact .inr rfl):PO g (RPD P g fn K) e ⟨n,[],l⟩ L:=by
  intro a w ha hw
  have:a.defers=[]∧∃ v,(results fn a.tmps).run P w=.ok v w∧∃ v' M,(Ending.returned v)=.returned v'∧K v' M∧Sat g M w:=
    ⟨ha.defers,JA' vs,QB' hr hv ha hw,_,M,rfl,hk,hw.conv fun _=>hL.to⟩
  rcases he with rfl | rfl <;> exact this
def dfr (f:FuncId) (args:List Value):Deferred:={ target:=.fn (.func f) #[],args:=args.toArray }
theorem WL.defer {P:Program} {g:World} {L:List HP} {Q:Post} {ops rest:List Oper} {n:Nat} {D:List Deferred} {l:List (Nat × Value)} {f:FuncId} {az:List Operand} {ts:Array TypeId} {t:TypeId} {pos:String} {aft:Array Edge} {gd:Option (Nat × Bool)} {args:List Value}
    (h:WL P none g ops rest Q ⟨n,dfr f args::D,l⟩ L) (ha:evs ⟨n,D,l⟩ az=some args:=by rfl) (hg:Y0' ops l gd=some true:=by rfl) :
    WL P none g ops (⟨none,.defer ⟨.value (.func f),az.toArray,ts⟩,t,pos,aft,gd⟩::rest) Q ⟨n,D,l⟩ L:=by
  intro a w hΓ hw
  unfold wpListIn
  rw [if_pos (Qk' (Γ:=⟨n,D,l⟩) hg hΓ)]
  have h1:az.toArray.map a.eval=args.toArray:=J3' ha (fun x u _ hx=>Z5' hx hΓ)
  have hs:(Oper.semAt (FR none).round a.eval ⟨none,.defer ⟨.value (.func f),az.toArray,ts⟩,t,pos,aft,gd⟩).run P w=.ok (.defer (dfr f args)) w:=by
    show (do let d ← resolve a.eval ⟨.value (.func f),az.toArray,ts⟩ t;pure (Next.defer d):Sem Next).run P w=_
    simp only [resolve,h1,Act.eval,Deferred.ofValue,Sem.run_bind,Sem.run_pure,Result.andThen_ok,dfr]
    simp
  refine ⟨XX',?_⟩
  rw [hs,Oper.uponIn_defer]
  exact h _ w ⟨hΓ.size,by show dfr f args::a.defers=_;rw [hΓ.defers],hΓ.at_⟩ hw
theorem PO.finD {P:Program} {g:World} {L:List HP} {fn:Func} {K:Value→List HP→Prop} {e:Exit} {n:Nat} {l:List (Nat × Value)} {rs:List ResultVar} {vs:List Value} {f:FuncId} {args:List Value} {Pre R:List HP} {T:(Value→List HP→Prop)→List HP→Prop} (hs:SpecD P g f args Pre T) (hf:Zh' P f=true)
    (hr:fn.results=rs.toArray) (hv:∀ M,RV P g ⟨n,[],l⟩ M rs vs) (hK:T (fun _ M=>K (JA' vs) M) R)
    (hL:Split L Pre R:=by repeat first | exact .nil | exact Pick.z | apply Pick.s | apply Split.cons) (he:e=.ret∨e=.normal:=by first | exact .inl rfl | exact .inr rfl):PO g (RP P g fn K) e ⟨n,[dfr f args],l⟩ L:=by
  intro a w ha hw
  have hc:=hs R (fun _ M=>K (JA' vs) M) w (hw.conv fun S h=>hL.to h) hK
  have:LeavesInM Fence.wide 0 P fn a.tmps (fun e w'=>∃ v M,e=.returned v∧K v M∧Sat g M w') a.defers .returning w:=by
    rw [show a.defers=[dfr f args] from ha.defers]
    refine ⟨by simp,.inr ⟨fun h=>by simp [Fence.wide] at h,.func f,#[],f,args.toArray,rfl,?_,fun _ _=>trivial,?_⟩⟩
    · show (invoke (.fn (.func f) #[]) args.toArray).run P w=_
      simp only [invoke]
      rw [Xr' hf];simp
    · refine CallsDIn.mono hc fun e u' w' ⟨hu,v,M,he,hk,hM⟩=>?_
      subst he
      rw [hu]
      exact ⟨JA' vs,QB' hr (hv M) ⟨ha.size,rfl,ha.at_⟩ (a:={ a with defers:=[] }) hM,_,M,rfl,hk,hM⟩
  rcases he with rfl | rfl <;> exact this
end SL
end Go
