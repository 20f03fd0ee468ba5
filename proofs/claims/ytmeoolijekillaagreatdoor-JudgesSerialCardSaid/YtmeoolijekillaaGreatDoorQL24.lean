import Derived.Test.YtmeoolijekillaaGreatDoorQL23
set_option linter.unusedSimpArgs false
set_option linter.unusedVariables false
namespace Go.SL.Fc
open Go Go.Proofs Go.SL
theorem a23:aggOf Tryz.prog 23=some none:=by kernel_rfl
theorem a60:aggOf Tryz.prog 60=some none:=by kernel_rfl
theorem a66:aggOf Tryz.prog 66=some none:=by kernel_rfl
theorem a82:aggOf Tryz.prog 82=some (some 2):=by kernel_rfl
theorem k120:callable Tryz.prog 120=true:=by kernel_rfl
theorem k32:callable Tryz.prog 32=true:=by kernel_rfl
theorem k34:callable Tryz.prog 34=true:=by kernel_rfl
theorem k35:callable Tryz.prog 35=true:=by kernel_rfl
theorem k79:callable Tryz.prog 79=true:=by kernel_rfl
theorem s82:szOf Tryz.prog 82=some 2:=by kernel_rfl
theorem sl66:slOf Tryz.prog 66=some (23,1,24):=by kernel_rfl
theorem z82:zeroOf Tryz.prog 82=some [.int .u32 0,.int .u32 0]:=by kernel_rfl
end Go.SL.Fc
namespace Go.SL
open Go Go.Proofs Fc
theorem PdqN_spec {g:World} {u y:Value} {B:HP} {cf:Nat→Nat→Int} {S:Nat→Prop} (hc:CmpOn cf S) (xs:List Nat) (hS:∀ x ∈ xs,S x) (hn:xs.length≤12) (hy:∀ a b,S a→S b→CallV Tryz.prog g y [.int .i64 a,.int .i64 b] [B] fun K R=>K (.int .i64 (cf a b)) (B::R)) (lim:Nat):Spec Tryz.prog g 79 [u,.int .i64 0,.int .i64 xs.length,.int .i64 lim,y] [Sl 3 1 natC (u) (xs),B] fun K R=>∀ ys,ys.Perm xs→(ys.Pairwise fun a b=>0≤cf b a)→K (.tuple #[]) (Sl 3 1 natC (u) (ys)::B::R):=by
 refine Spec.intro Tryz.func79 rfl Tryz.ntmps79 rfl fun R K hK=>?_
 refine WP.seq<|WP.reg<|WL.e e_assign<|WL.next<|WP.seq<|WP.reg<|WL.e e_assign<|WL.next<|WP.block<|WP.loopK (fun (_:Unit)=>[(1,.int .i64 ((0:Nat):Int)),(2,.int .i64 xs.length)]) (fun (_:Unit)=>Sl 3 1 natC (u) (xs)::B::R) [(0,_),(4,_)] (fun (_:Unit)=>True) (fun (_:Unit)=>0) () (trivial) ?_
 intro _ _
 refine WP.block<|WP.seq<|WP.reg<|WL.e e_move<|WL.e e_move<|WL.e (e_subN)<|WL.e e_assign<|WL.next<|WP.seq<|WP.seq<|WP.reg<|WL.e e_move<|WL.e e_leq<|WL.next ?_
 refine WP.cond rfl (fun h1=>?_) (fun h1=>?_)
 ·skip
  refine WP.seq<|WP.reg<|WL.e e_move<|WL.e e_move<|WL.e e_move<|WL.e e_move ?_
  refine WL.h (h_call (InsN_spec hc xs hS hn hy) k120 ?_)
  intro ys h2 h3
  refine WL.next<|WP.ret<|PO.past nofun<|PO.blockR<|PO.round nofun<|PO.blockR ?_
  exact PO.fin Tryz.results79 rv_nil (hK ys h2 h3)
 ·(rw [decide_eq_false_iff_not] at h1;omega)
theorem SortN_spec {g:World} {u y:Value} {B:HP} {cf:Nat→Nat→Int} {S:Nat→Prop} (hc:CmpOn cf S) (xs:List Nat) (hS:∀ x ∈ xs,S x) (hn:xs.length≤12) (hy:∀ a b,S a→S b→CallV Tryz.prog g y [.int .i64 a,.int .i64 b] [B] fun K R=>K (.int .i64 (cf a b)) (B::R)):Spec Tryz.prog g 36 [u,y] [Sl 3 1 natC (u) (xs),B] fun K R=>∀ ys,ys.Perm xs→(ys.Pairwise fun a b=>0≤cf b a)→K (.tuple #[]) (Sl 3 1 natC (u) (ys)::B::R):=by
 refine Spec.intro Tryz.func36 rfl Tryz.ntmps36 rfl fun R K hK=>?_
 refine WP.seq<|WP.reg<|WL.e e_move<|WL.e (el_len (xs:=xs) sl23 sl_rl)<|WL.e e_assign<|WL.next<|WP.reg<|WL.e e_move<|WL.e e_move<|WL.e e_move<|WL.e (e_conv (c:=((xs.length:Nat):Int)) (by rw [Tryz.underlying3];rfl) Tryz.underlying148 rfl (by rw [wu64,UInt64.toNat_ofNat'];congr 1;omega)) ?_
 refine WL.h (h_call (L_spec xs.length (by omega)) k80 ?_)
 refine WL.e e_move ?_
 refine WL.h (h_call (PdqN_spec hc xs hS hn hy (Go.Sort.bitsLen xs.length)) k79 ?_)
 intro ys h2 h3
 refine WL.nil ?_
 exact PO.fin Tryz.results36 rv_nil (hK ys h2 h3)
theorem ClipN_spec {g:World} {u:Value} {xs:List Nat}:Spec Tryz.prog g 41 [u] [Sl 3 1 natC (u) (xs)] fun K R=>∀ a m c,K (.slice a m c) (Sl 3 1 natC (.slice a m c) (xs)::R):=by
 refine Spec.intro Tryz.func41 rfl Tryz.ntmps41 rfl fun R K hK=>?_
 refine WP.seq<|WP.reg<|WL.e e_assign<|WL.next<|WP.seq<|WP.reg<|WL.e e_move<|WL.e e_move<|WL.e (el_len (xs:=xs) sl23 sl_rl)<|WL.e e_move<|WL.e (el_len (xs:=xs) sl23 sl_rl)<|WL.e (el_to3 (hi:=xs.length) (xs:=xs) sl23 sl_rl (Nat.le_refl _))<|WL.e e_assign<|WL.next<|WP.ret<|PO.conv (conv1 (A:=Sl 3 1 natC u xs) (B:=Sl 3 1 natC (subV u 0 xs.length (some xs.length) 1) xs) (fun S h=>by have h2:=sl_to3 (i:=xs.length) natE h (Nat.le_refl _);rwa [List.take_length] at h2) (by repeat first | exact .z | apply Put.s)) ?_
 refine PO.sh (u:=subV u 0 xs.length (some xs.length) 1) fun a9 m9 c9 e9=>?_
 rw [e9]
 exact PO.fin Tryz.results41 (rv_tmp rv_nil) (hK a9 m9 c9)
theorem IndexN_spec {g:World} {A B:HP} {u y:Value} {xs:List (Nat)} {p:Nat→Bool} (hA:RL A 1 natC u xs) (hn:xs.length≤68719476736) (hy:∀ x ∈ xs,CallV Tryz.prog g y [.int .i64 x] [B] fun K R=>K (.bool (p x)) (B::R)) :
  Spec Tryz.prog g 32 [u,y] [A,B] fun K R=>K (.int .i64 (if xs.any p then (xs.findIdx p:Nat) else -1)) (A::B::R):=by
 refine Spec.intro Tryz.func32 rfl Tryz.ntmps32 rfl fun R K hK=>?_
 refine WP.seq<|WP.reg<|WL.e e_assign<|WL.next<|WP.seq<|WP.seq<|WP.reg<|WL.e e_move<|WL.e (el_len sl23 hA)<|WL.e e_move<|WL.next<|WP.block<|WP.loopK (fun (i:Nat)=>[(8,.int .i64 i)]) (fun (i:Nat)=>A::B::R) [(0,_),(1,_),(7,_)] (fun (i:Nat)=>i≤xs.length∧(xs.take i).any p=false) (fun (i:Nat)=>xs.length - i) 0 (⟨Nat.zero_le _,by simp⟩) ?_
 rintro i ⟨h1,h2⟩
 refine WP.seq<|WP.reg<|WL.e e_lss<|WL.next<|WP.seq ?_
 refine WP.cond rfl (fun h3=>?_) (fun h3=>?_)
 ·have hlt:i < xs.length:=by rw [decide_eq_true_eq] at h3;omega
  obtain ⟨x,hx⟩:∃ x,xs[i]?=some x:=⟨_,List.getElem?_eq_getElem hlt⟩
  refine WP.skip<|PO.next<|WP.seq<|WP.block<|WP.seq<|WP.reg<|WL.e e_move<|WL.e e_assign<|WL.next<|WP.seq<|WP.reg<|WL.e e_move<|WL.e e_move<|WL.e e_move<|WL.e (el_ia sl23 hA hlt)<|WL.e (el_load0 (a:=x) a3 natE hA hx) ?_
  refine WL.h (h_cally (hy x (List.mem_of_getElem? hx)) ?_)
  refine WL.next ?_
  refine WP.cond rfl (fun h4=>?_) (fun h4=>?_)
  ·skip
   refine WP.seq<|WP.reg<|WL.e e_move<|WL.e e_assign<|WL.next<|WP.ret<|PO.blockR<|PO.past nofun<|PO.round nofun<|PO.blockR<|PO.past nofun ?_
   exact PO.finE Tryz.results32 (rv_tmp rv_nil) (by rw [index_at h2 hx h4];rfl) hK
  ·skip
   refine WP.skip<|PO.blockN<|PO.next<|WP.reg<|WL.e (e_add rfl rfl (w_i64 (by omega) (by omega)))<|WL.e e_move<|WL.nil ?_
   exact PO.againK (i+1) ⟨by omega,by rw [take_snoc hx,List.any_append,h2];simp [h4]⟩ (by omega)
 ·have hall:xs.any p=false:=by rw [decide_eq_false_iff_not] at h3;rwa [List.take_of_length_le (by omega)] at h2
  refine WP.exit<|PO.past nofun<|PO.round nofun<|PO.blockX<|PO.next<|WP.seq<|WP.reg<|WL.e e_assign<|WL.next<|WP.ret ?_
  exact PO.finE Tryz.results32 (rv_tmp rv_nil) (by rw [hall];rfl) hK
theorem ContainsN_spec {g:World} {A B:HP} {u y:Value} {xs:List (Nat)} {p:Nat→Bool} (hA:RL A 1 natC u xs) (hn:xs.length≤68719476736) (hy:∀ x ∈ xs,CallV Tryz.prog g y [.int .i64 x] [B] fun K R=>K (.bool (p x)) (B::R)) :
  Spec Tryz.prog g 34 [u,y] [A,B] fun K R=>K (.bool (xs.any p)) (A::B::R):=by
 refine Spec.intro Tryz.func34 rfl Tryz.ntmps34 rfl fun R K hK=>?_
 refine WP.seq<|WP.reg<|WL.e e_assign<|WL.next<|WP.seq<|WP.reg<|WL.e e_move<|WL.e e_move ?_
 refine WL.h (h_call (IndexN_spec hA hn hy) k32 ?_)
 refine WL.e e_geq<|WL.e e_assign<|WL.next<|WP.ret ?_
 exact PO.finE Tryz.results34 (rv_tmp rv_nil) (by cases h:xs.any p <;> simp) hK
set_option maxHeartbeats 4000000 in
theorem Units_spec {g:World} {A:HP} {u:Value} {l:List DeedM} (hA:RL A 5 DeedM.c u l) (hn:l.length≤1000):Spec Tryz.prog g 30 [u] [A] fun K R=>(unitsOk l=false→K (.tuple #[.slice none 0 0,.bool false]) (A::R))∧(unitsOk l=true→∀ a m c,K (.tuple #[.slice a m c,.bool true]) (Sl 3 1 natC (.slice a m c) (unitsM l)::A::R)):=by
 refine Spec.intro Tryz.func30 rfl Tryz.ntmps30 rfl fun R K hK=>?_
 refine WP.seq<|WP.reg<|WL.e e_assign<|WL.e e_assign<|WL.next<|WP.seq<|WP.reg ?_
 refine WL.h (h_makeMapB (ek:=eU32) fun fm=>?_)
 refine WL.e e_assign<|WL.next<|WP.seq<|WP.reg ?_
 refine WL.h (h_makeMapB (ek:=eA2) fun sm=>?_)
 refine WL.e e_assign<|WL.next<|WP.seq<|WP.seq<|WP.reg<|WL.e e_move<|WL.e (el_len (xs:=l) sl22 hA)<|WL.e e_move<|WL.next<|WP.block<|WP.nils 3 1 natC none ?_
 refine WP.loopK (fun (z:Nat × SV × List (UInt32 × Value) × List ((UInt32 × UInt32) × Value))=>[(15,.int .i64 z.1),(2,z.2.1.v)]) (fun (z:Nat × SV × List (UInt32 × Value) × List ((UInt32 × UInt32) × Value))=>Sl 3 1 natC (z.2.1.v) ((List.range z.1).map (unitAt l))::Mp eU32 (.map (some fm)) (z.2.2.1)::Mp eA2 (.map (some sm)) (z.2.2.2)::A::R) [(4,_),(5,_),(13,_),(14,_)] (fun (z:Nat × SV × List (UInt32 × Value) × List ((UInt32 × UInt32) × Value))=>z.1≤l.length∧FirstOk z.2.2.1 l z.1∧SeenOk z.2.2.2 l z.1∧(List.range z.1).all (dOkAt l)=true) (fun (z:Nat × SV × List (UInt32 × Value) × List ((UInt32 × UInt32) × Value))=>l.length - z.1) (0,⟨none,0,0⟩,[],[]) (⟨Nat.zero_le _,FirstOk.init l,SeenOk.init l,rfl⟩) ?_
 rintro ⟨i,sv,kvs1,kvs2⟩ ⟨hi,hF,hS,hok⟩
 simp only at hi hF hS hok
 dsimp only
 refine WP.seq<|WP.reg<|WL.e e_lss<|WL.next<|WP.seq ?_
 refine WP.cond rfl (fun h1=>?_) (fun h1=>?_)
 ·have hlth1:i < l.length:=by rw [decide_eq_true_eq] at h1;omega
  obtain ⟨d,hx⟩:∃ x,l[i]?=some x:=⟨_,List.getElem?_eq_getElem hlth1⟩
  refine WP.skip<|PO.next<|WP.seq<|WP.block<|WP.seq<|WP.reg<|WL.e e_move<|WL.e (el_ia (j:=i) (xs:=l) sl22 hA hlth1)<|WL.e (el_loadN (a:=d) a39 deedE hA hx) ?_
  refine WL.h (h_alloc z39 fun b1=>?_)
  refine WL.e e_assign ?_
  refine WL.h' (h_store s39 ?_)
  refine WL.next<|WP.seq<|WP.reg<|WL.e (e_fa f39_1)<|WL.e (e_load a5)<|WL.e (e_conv (c:=((d.site.toUInt32).toNat:Int)) (by rw [Tryz.underlying5];rfl) Tryz.underlying35 rfl (by rw [wu32,UInt8.toNat_toUInt32,UInt32.toNat_ofNat'];congr 1;have:=d.site.toNat_lt;omega))<|WL.e (e_fa f39_2)<|WL.e (e_load a35)<|WL.e (e_buildA z82 Tryz.underlying82 s35 (.o (.tmp 22) rfl<|.o (.tmp 24) rfl<|.n)) ?_
  refine WL.h (h_alloc z82 fun b2=>?_)
  refine WL.h' (h_store s82 ?_)
  refine WL.next<|WP.seq<|WP.seq<|WP.reg<|WL.e (e_fa f39_1)<|WL.e (e_load a5)<|WL.e e_lss<|WL.e e_move ?_
  refine WL.bool 29 rfl (fun g1=>?_) (fun g1=>?_)
  ·replace g1:d.site.toNat < 1:=by simp at g1;omega
   have hbad:dOkAt l i=false:=by simp only [dOkAt,hx];simp;omega
   refine WL.skip<|WL.skip<|WL.skip<|WL.e e_pick_t<|WL.e e_move<|WL.skip<|WL.skip<|WL.skip<|WL.skip<|WL.e e_pick_t<|WL.next<|WP.cond_t rfl<|WP.seq<|WP.reg<|WL.e e_assign<|WL.e e_assign<|WL.next<|WP.ret<|PO.past nofun<|PO.blockR<|PO.past nofun<|PO.round nofun<|PO.blockR<|PO.past nofun ?_
   exact PO.fin Tryz.results30 (rv_tmp (rv_tmp rv_nil)) (hK.1 (units_bad hx hbad))
  ·replace g1:¬ d.site.toNat < 1:=by simp at g1;omega
   refine WL.e (e_fa f39_1)<|WL.e (e_load a5)<|WL.e e_gtr<|WL.e e_pick_f<|WL.e e_move ?_
   refine WL.bool 34 rfl (fun g2=>?_) (fun g2=>?_)
   ·replace g2:3 < d.site.toNat:=by simp at g2;omega
    have hbad:dOkAt l i=false:=by simp only [dOkAt,hx];simp;omega
    refine WL.skip<|WL.skip<|WL.skip<|WL.skip<|WL.e e_pick_t<|WL.next<|WP.cond_t rfl<|WP.seq<|WP.reg<|WL.e e_assign<|WL.e e_assign<|WL.next<|WP.ret<|PO.past nofun<|PO.blockR<|PO.past nofun<|PO.round nofun<|PO.blockR<|PO.past nofun ?_
    exact PO.fin Tryz.results30 (rv_tmp (rv_tmp rv_nil)) (hK.1 (units_bad hx hbad))
   ·replace g2:¬ 3 < d.site.toNat:=by simp at g2;omega
    refine WL.e e_move<|WL.e (e_loadN a82)<|WL.e (e_seenA d.site d.order hS Tryz.underlying81 (key_a2 Tryz.underlying82 Tryz.underlying35 s35 a35) zz3)<|WL.e e_gtr<|WL.e e_pick_f<|WL.next ?_
    refine WP.cond rfl (fun h2=>?_) (fun h2=>?_)
    ·have hany:(l.take i).any (fun e=>decide (e.site=d.site∧e.order=d.order))=true:=by
      by_cases e:(l.take i).any (fun e=>decide (e.site=d.site∧e.order=d.order))=true
      ·exact e
      ·rw [if_neg e] at h2;exact absurd h2 (by decide)
     have hbad:dOkAt l i=false:=by simp only [dOkAt,hx,hany];simp
     refine WP.seq<|WP.reg<|WL.e e_assign<|WL.e e_assign<|WL.next<|WP.ret<|PO.past nofun<|PO.blockR<|PO.past nofun<|PO.round nofun<|PO.blockR<|PO.past nofun ?_
     exact PO.fin Tryz.results30 (rv_tmp (rv_tmp rv_nil)) (hK.1 (units_bad hx hbad))
    ·have hany:(l.take i).any (fun e=>decide (e.site=d.site∧e.order=d.order))=false:=by
      by_cases e:(l.take i).any (fun e=>decide (e.site=d.site∧e.order=d.order))=true
      ·rw [if_pos e] at h2;exact absurd h2 (by decide)
      ·exact Bool.eq_false_iff.2 e
     have hdk:dOkAt l i=true:=by simp only [dOkAt,hx,hany];simp;omega
     refine WP.skip<|PO.next<|WP.seq<|WP.reg<|WL.e e_move<|WL.e (e_loadN a82) ?_
     refine WL.h' (h_mapUpdate (k:=(d.site.toUInt32,d.order)) (ek:=eA2) (kvs:=kvs2) Tryz.underlying81 (key_a2 Tryz.underlying82 Tryz.underlying35 s35 a35) ?_)
     refine WL.next<|WP.seq<|WP.reg<|WL.e e_move<|WL.e (e_fa f39_0)<|WL.e (e_load a35)<|WL.e (e_lookup2 (k:=d.g) (ek:=eU32) (kvs:=kvs1) Tryz.underlying136 (key_u32 Tryz.underlying35) zz3)<|WL.e e_move<|WL.e e_extract<|WL.e e_extract<|WL.e e_assign<|WL.e e_assign<|WL.next<|WP.seq<|WP.seq<|WP.reg<|WL.e (e_fa f39_0)<|WL.e (e_load a35)<|WL.e (e_eql32 (b:=0))<|WL.e e_move ?_
     refine WL.bool 52 rfl (fun g3=>?_) (fun g3=>?_)
     ·replace g3:d.g=0:=by simpa using g3
      obtain ⟨hF2,hu⟩:=hF.put hx (.inl g3)
      refine WL.skip<|WL.skip<|WL.e e_pick_t<|WL.next<|WP.cond_t rfl<|WP.seq<|WP.reg<|WL.e e_move<|WL.e e_assign<|WL.next<|WP.reg<|WL.e e_move<|WL.e (e_fa f39_0)<|WL.e (e_load a35)<|WL.e e_move ?_
      refine WL.h' (h_mapUpdate (k:=d.g) (kvs:=kvs1) Tryz.underlying136 (key_u32 Tryz.underlying35) ?_)
      refine WL.next<|WP.reg<|WL.e e_move<|WL.e e_move ?_
      refine WL.h (h_bs sl23 z3 (.o (.tmp 62) rfl<|.n) fun b3=>?_)
      refine WL.h (hl_append (xs:=(List.range i).map (unitAt l)) (ys:=[i]) sl23 natE z3 (lit_rl natE [i] rfl) (by simp;omega) (fun a5 n5 c5=>?_))
      refine WL.e e_assign<|WL.nil<|PO.blockN<|PO.next<|WP.reg<|WL.e (e_add (c:=((i+1:Nat):Int)) rfl rfl (by rw [w_i64 (by omega) (by omega)];omega))<|WL.e e_move<|WL.nil ?_
      rw [show (List.range i).map (unitAt l)++[i]=(List.range (i+1)).map (unitAt l) by rw [map_snoc,hu]]
      exact PO.againK (i+1,⟨a5,n5,c5⟩,mset kvs1 d.g (.int .i64 (i:Nat)),mset kvs2 (d.site.toUInt32,d.order) (.int .i64 1)) ⟨by simp only;omega,hF2,hS.step hx,units_step hok hdk⟩ (by simp only;omega)
     ·replace g3:¬ d.g=0:=by simpa using g3
      refine WL.e e_move<|WL.e e_not<|WL.e e_pick_f<|WL.next ?_
      refine WP.cond rfl (fun h4=>?_) (fun h4=>?_)
      ·have hno:mget kvs1 d.g=none:=by cases e:mget kvs1 d.g with
        | none=>rfl
        | some v=>rw [e] at h4;cases h4
       obtain ⟨hF2,hu⟩:=hF.put hx (.inr hno)
       refine WP.seq<|WP.reg<|WL.e e_move<|WL.e e_assign<|WL.next<|WP.reg<|WL.e e_move<|WL.e (e_fa f39_0)<|WL.e (e_load a35)<|WL.e e_move ?_
       refine WL.h' (h_mapUpdate (k:=d.g) (kvs:=kvs1) Tryz.underlying136 (key_u32 Tryz.underlying35) ?_)
       refine WL.next<|WP.reg<|WL.e e_move<|WL.e e_move ?_
       refine WL.h (h_bs sl23 z3 (.o (.tmp 62) rfl<|.n) fun b4=>?_)
       refine WL.h (hl_append (xs:=(List.range i).map (unitAt l)) (ys:=[i]) sl23 natE z3 (lit_rl natE [i] rfl) (by simp;omega) (fun a5 n5 c5=>?_))
       refine WL.e e_assign<|WL.nil<|PO.blockN<|PO.next<|WP.reg<|WL.e (e_add (c:=((i+1:Nat):Int)) rfl rfl (by rw [w_i64 (by omega) (by omega)];omega))<|WL.e e_move<|WL.nil ?_
       rw [show (List.range i).map (unitAt l)++[i]=(List.range (i+1)).map (unitAt l) by rw [map_snoc,hu]]
       exact PO.againK (i+1,⟨a5,n5,c5⟩,mset kvs1 d.g (.int .i64 (i:Nat)),mset kvs2 (d.site.toUInt32,d.order) (.int .i64 1)) ⟨by simp only;omega,hF2,hS.step hx,units_step hok hdk⟩ (by simp only;omega)
      ·obtain ⟨v,hv⟩:∃ v,mget kvs1 d.g=some v:=by cases e:mget kvs1 d.g with
        | none=>rw [e] at h4;cases h4
        | some v=>exact ⟨v,rfl⟩
       obtain ⟨hF2,rfl⟩:=hF.keep hx g3 hv
       rw [show (mget kvs1 d.g).getD (.int .i64 0)=.int .i64 (unitAt l i:Nat) by rw [hv];rfl]
       refine WP.skip<|PO.next<|WP.reg<|WL.e e_move<|WL.e e_move ?_
       refine WL.h (h_bs sl23 z3 (.o (.tmp 62) rfl<|.n) fun b5=>?_)
       refine WL.h (hl_append (xs:=(List.range i).map (unitAt l)) (ys:=[unitAt l i]) sl23 natE z3 (lit_rl natE [unitAt l i] rfl) (by simp;omega) (fun a5 n5 c5=>?_))
       refine WL.e e_assign<|WL.nil<|PO.blockN<|PO.next<|WP.reg<|WL.e (e_add (c:=((i+1:Nat):Int)) rfl rfl (by rw [w_i64 (by omega) (by omega)];omega))<|WL.e e_move<|WL.nil ?_
       rw [← map_snoc]
       exact PO.againK (i+1,⟨a5,n5,c5⟩,kvs1,mset kvs2 (d.site.toUInt32,d.order) (.int .i64 1)) ⟨by simp only;omega,hF2,hS.step hx,units_step hok hdk⟩ (by simp only;omega)
 ·obtain rfl:i=l.length:=by rw [decide_eq_false_iff_not] at h1;omega
  refine WP.exit<|PO.past nofun<|PO.round nofun<|PO.blockX<|PO.next<|WP.seq<|WP.reg<|WL.e e_move<|WL.e e_assign<|WL.e e_assign<|WL.next<|WP.ret<|PO.sh (u:=sv.v) ?_
  rintro a8 m8 c8 e8
  rw [e8]
  exact PO.fin Tryz.results30 (rv_tmp (rv_tmp rv_nil)) (hK.2 hok a8 m8 c8)
theorem JOrd11_spec {g:World} {c1:Nat} {u1:Value} {l:List DeedM} {us:List Nat} (v:Nat) (hv:v < l.length):Spec Tryz.prog g 35 [.int .i64 v,.pointer (some ⟨c1,0,none⟩)] [cl c1 60 [u1],Sl 4 1 boolC (u1) (goneM l.length us)] fun K R=>K (.bool (!decide (v ∈ us))) (cl c1 60 [u1]::Sl 4 1 boolC (u1) (goneM l.length us)::R):=by
 refine Spec.intro Tryz.func35 rfl Tryz.ntmps35 rfl fun R K hK=>?_
 refine WP.seq<|WP.reg<|WL.e e_assign<|WL.next<|WP.seq<|WP.reg<|WL.e (e_load a60)<|WL.e e_move<|WL.e (el_ia (j:=v) (xs:=goneM l.length us) sl60 sl_rl (by rw [gone_len];exact hv))<|WL.e (el_load0 (j:=v) (xs:=goneM l.length us) (a:=decide (v ∈ us)) a4 boolE sl_rl (gone_at hv))<|WL.e e_not<|WL.e e_assign<|WL.next<|WP.ret ?_
 exact PO.fin Tryz.results35 (rv_tmp rv_nil) hK
set_option maxHeartbeats 2000000 in
theorem JOrd1_spec {g:World} {c1 c2:Nat} {u1 u2:Value} {l:List DeedM} {us:List Nat} {es:List AhV} (hE:AhOk l (allE l) es) (hn:l.length≤1000) (x:Nat) (hx:x < l.length):Spec Tryz.prog g 33 [.int .i64 x,.pointer (some ⟨c1,0,none⟩),.pointer (some ⟨c2,0,none⟩)] [cl c1 60 [u1],Sl 4 1 boolC (u1) (goneM l.length us),cl c2 66 [u2],Sl 23 1 lsC (u2) (es),Ents 3 1 natC (es)] fun K R=>K (.bool (pickB l us x)) (cl c1 60 [u1]::Sl 4 1 boolC (u1) (goneM l.length us)::cl c2 66 [u2]::Sl 23 1 lsC (u2) (es)::Ents 3 1 natC (es)::R):=by
 refine Spec.intro Tryz.func33 rfl Tryz.ntmps33 rfl fun R K hK=>?_
 refine WP.seq<|WP.reg<|WL.e e_assign<|WL.next<|WP.seq<|WP.reg<|WL.e (e_load a60)<|WL.e e_move<|WL.e (el_ia (j:=x) (xs:=goneM l.length us) sl60 sl_rl (by rw [gone_len];exact hx))<|WL.e (el_load0 (j:=x) (xs:=goneM l.length us) (a:=decide (x ∈ us)) a4 boolE sl_rl (gone_at hx))<|WL.e e_not<|WL.e e_move ?_
 refine WL.bool 10 rfl (fun g1=>?_) (fun g1=>?_)
 ·replace g1:x ∉ us:=by simpa using g1
  obtain ⟨e,A2,B2,he,hes,hset,hws⟩:=hE.at_ hx
  have hel:e.ws.length≤1000000:=by rw [hws];have h1:=ahead_len (allE l) x;have h2:=edges_len l l.length 0;have h3:l.length * l.length≤1000 * 1000:=Nat.mul_le_mul hn hn;unfold allE at h1;unfold allE;omega
  refine WL.e (e_load a66)<|WL.e e_move<|WL.e (el_ia (j:=x) (xs:=es) sl66 sl_rl (idx_lt he))<|WL.e (el_load0 (j:=x) (xs:=es) (a:=e) a23 lsE sl_rl he)<|WL.e e_makeFunc<|WL.cls (A:=bun [cl c1 60 [u1],Sl 4 1 boolC (u1) (goneM l.length us)]) (B:=[cl c1 60 [u1],Sl 4 1 boolC (u1) (goneM l.length us)]) (fun S h=>h) ?_
  refine WL.h (h_call (ContainsN_spec (A:=Ents 3 1 natC (es)) (B:=bun [cl c1 60 [u1],Sl 4 1 boolC (u1) (goneM l.length us)]) (xs:=e.ws) (p:=fun v=>!decide (v ∈ us)) (ents_rl (List.mem_of_getElem? he)) (by omega) (fun v hv=>CallV.bun (CallV.of_spec (fs:=[]) (cs:=[.pointer (some ⟨c1,0,none⟩)]) (JOrd11_spec (c1:=c1) (u1:=u1) (l:=l) (us:=us) v (ahead_lt (hws ▸ hv))) k35))) k34 ?_)
  show WL _ _ _ _ _ _ _ _
  refine WL.opn (A:=bun [cl c1 60 [u1],Sl 4 1 boolC (u1) (goneM l.length us)]) (B:=fun _:Unit=>[cl c1 60 [u1],Sl 4 1 boolC (u1) (goneM l.length us)]) (fun S h=>⟨(),h⟩) fun _=>?_
  refine WL.e e_not<|WL.e e_pick_t<|WL.e e_assign<|WL.next<|WP.ret ?_
  exact PO.finE Tryz.results33 (rv_tmp rv_nil) (by rw [hws,pick_eq g1];rfl) hK
 ·replace g1:x ∈ us:=by simpa using g1
  refine WL.skip<|WL.skip<|WL.skip<|WL.skip<|WL.skip<|WL.skip<|WL.skip<|WL.e e_pick_f<|WL.e e_assign<|WL.next<|WP.ret ?_
  exact PO.finE Tryz.results33 (rv_tmp rv_nil) (by simp [pickB,g1]) hK
end Go.SL
set_option linter.unusedSectionVars false
namespace Go.SL
open Go
theorem WP.rsh {α:Type} {P:Program} {r:Option Nat} {g:World} {Q:Post} {Γ:Env} {L M:List HP} {c:Code} {A:HP} {z:Nat} {enc:α→List Value} {u:Value} {xs:List α} (hA:RL A z enc u xs) (k:∀ a m c',u=.slice a m c'→WP P r g c Q Γ L) (hp:Pick L A M:=by repeat first | exact .z | apply Pick.s):WP P r g c Q Γ L:=fun a w ha hw=>by
  obtain ⟨S1,S2,_,_,_,h1,_⟩:=hp.to hw.heap
  rcases hA S1 h1 with ⟨_,_,b,c',e⟩ | ⟨b,o,c',l,t,e,_⟩
  · exact k _ _ _ e a w ha hw
  · exact k _ _ _ e a w ha hw
end Go.SL
namespace Go.SL.Fc
open Go Go.Proofs Go.SL
theorem k30:callable Tryz.prog 30=true:=by kernel_rfl
theorem k31:callable Tryz.prog 31=true:=by kernel_rfl
theorem k33:callable Tryz.prog 33=true:=by kernel_rfl
theorem k36:callable Tryz.prog 36=true:=by kernel_rfl
theorem k37:callable Tryz.prog 37=true:=by kernel_rfl
theorem k41:callable Tryz.prog 41=true:=by kernel_rfl
theorem s23:szOf Tryz.prog 23=some 1:=by kernel_rfl
theorem s60:szOf Tryz.prog 60=some 1:=by kernel_rfl
theorem s66:szOf Tryz.prog 66=some 1:=by kernel_rfl
theorem z23:zeroOf Tryz.prog 23=some [.slice none 0 0]:=by kernel_rfl
theorem z60:zeroOf Tryz.prog 60=some [.slice none 0 0]:=by kernel_rfl
theorem z66:zeroOf Tryz.prog 66=some [.slice none 0 0]:=by kernel_rfl
end Go.SL.Fc
namespace Go.SL
open Go Go.Proofs Fc
set_option maxHeartbeats 8000000 in
theorem JOrder_spec {g:World} {A:HP} {u:Value} {l:List DeedM} (hA:RL A 5 DeedM.c u l) (hn:l.length≤1000) (hu12:∀ u,(ofUnit l u).length≤12):Spec Tryz.prog g 14 [u] [A] fun K R=>(unitsOk l=false→K (.tuple #[.slice none 0 0,.bool false]) (A::R))∧(unitsOk l=true→¬ RkE l→K (.tuple #[.slice none 0 0,.bool false]) (A::R))∧(unitsOk l=true→RkE l→∀ a m c out,OutOk l out→K (.tuple #[.slice a m c,.bool true]) (Sl 3 1 natC (.slice a m c) (out)::A::R)):=by
 refine Spec.intro Tryz.func14 rfl Tryz.ntmps14 rfl fun R K hK=>?_
 refine WP.rsh hA fun a0 m0 c0 e0=>?_
 subst e0
 refine WP.seq<|WP.reg ?_
 refine WL.h (h_box fun b1=>?_)
 refine WL.e e_assign<|WL.e e_assign<|WL.next<|WP.seq<|WP.reg<|WL.e (e_load a22) ?_
 refine WL.h (h_call (Units_spec hA hn) k30 ?_)
 refine ⟨fun hbad=>?_,fun hok a m c=>?_⟩
 ·skip
  refine WL.e e_move<|WL.e e_extract<|WL.e e_extract<|WL.e e_assign<|WL.e e_assign<|WL.next<|WP.seq<|WP.seq<|WP.reg<|WL.e e_move<|WL.e e_not<|WL.next<|WP.cond_t rfl<|WP.seq<|WP.reg<|WL.e e_assign<|WL.e e_assign<|WL.next<|WP.ret<|PO.past nofun ?_
  exact PO.fin Tryz.results14 (rv_tmp (rv_tmp rv_nil)) (hK.1 hbad)
 ·skip
  refine WL.e e_move<|WL.e e_extract<|WL.e e_extract<|WL.e e_assign<|WL.e e_assign<|WL.next<|WP.seq<|WP.seq<|WP.reg<|WL.e e_move<|WL.e e_not<|WL.next<|WP.cond_f rfl<|WP.skip<|PO.next<|WP.seq<|WP.reg<|WL.e e_assign<|WL.e e_assign<|WL.next<|WP.seq<|WP.reg<|WL.e (e_load a22)<|WL.e (el_len (xs:=l) sl22 hA) ?_
  refine WL.h (hl_make (enc:=lsC) (n:=l.length) (⟨(),⟨none,0,0⟩,[]⟩:AhV) sl66 z23 (by omega) (fun a1 n1 c1=>?_))
  refine WL.h (h_alloc z66 fun b2=>?_)
  refine WL.h' (h_store s66 ?_)
  refine WL.next<|WP.seq<|WP.seq<|WP.reg<|WL.e (e_load a22)<|WL.e (el_len (xs:=l) sl22 hA)<|WL.e e_move<|WL.next<|WP.block<|WP.nils 35 1 u32C none ?_
  refine WP.nils 35 1 u32C none ?_
  refine WP.conv (fun S h=>ents_nils (n:=l.length) (E:=3) (z:=1) (enc:=natC) h) ?_
  refine WP.loopK (fun (z:Nat × SV × SV × List AhV)=>[(33,.int .i64 z.1),(6,z.2.1.v),(7,z.2.2.1.v)]) (fun (z:Nat × SV × SV × List AhV)=>cl b1 22 [.slice a0 m0 c0]::cl b2 66 [.slice a1 n1 c1]::Sl 23 1 lsC (.slice a1 n1 c1) (z.2.2.2)::Ents 3 1 natC (z.2.2.2)::Sl 35 1 u32C (z.2.1.v) (List.map (fun e=>no32 e.1) (edgesM l z.1 0))::Sl 35 1 u32C (z.2.2.1.v) (List.map (fun e=>no32 e.2) (edgesM l z.1 0))::Sl 3 1 natC (.slice a m c) (unitsM l)::A::R) [(1,_),(2,_),(3,_),(4,_),(8,_),(31,_),(32,_)] (fun (z:Nat × SV × SV × List AhV)=>z.1≤l.length∧AhOk l (edgesM l z.1 0) z.2.2.2) (fun (z:Nat × SV × SV × List AhV)=>l.length - z.1) (0,⟨none,0,0⟩,⟨none,0,0⟩,List.replicate l.length ⟨(),⟨none,0,0⟩,[]⟩) (⟨Nat.zero_le _,AhOk.init l⟩) ?_
  rintro ⟨i,f0,t0,es0⟩ ⟨hi,hB0⟩
  simp only at hi hB0
  dsimp only
  refine WP.seq<|WP.reg<|WL.e e_lss<|WL.next<|WP.seq ?_
  refine WP.cond rfl (fun h1=>?_) (fun h1=>?_)
  ·have hlth1:i < l.length:=by rw [decide_eq_true_eq] at h1;omega
   obtain ⟨d,hx⟩:∃ x,l[i]?=some x:=⟨_,List.getElem?_eq_getElem hlth1⟩
   refine WP.skip<|PO.next<|WP.seq<|WP.block<|WP.seq<|WP.reg<|WL.e e_move<|WL.e (el_ia (j:=i) (xs:=l) sl22 hA hlth1)<|WL.e (el_loadN (a:=d) a39 deedE hA hx) ?_
   refine WL.h (h_alloc z39 fun b3=>?_)
   refine WL.e e_assign ?_
   refine WL.h' (h_store s39 ?_)
   refine WL.next<|WP.seq<|WP.reg<|WL.e (e_load a22)<|WL.e (el_len (xs:=l) sl22 hA)<|WL.e e_move<|WL.next<|WP.block<|WP.loopK (fun (w:Nat × SV × SV × List AhV)=>[(40,.int .i64 w.1),(6,w.2.1.v),(7,w.2.2.1.v)]) (fun (w:Nat × SV × SV × List AhV)=>cl b3 39 [.int .u32 d.g.toNat,.int .u8 d.site.toNat,.int .u32 d.order.toNat,d.ops.v,d.res.v]::cl b1 22 [.slice a0 m0 c0]::cl b2 66 [.slice a1 n1 c1]::Sl 23 1 lsC (.slice a1 n1 c1) (w.2.2.2)::Ents 3 1 natC (w.2.2.2)::Sl 35 1 u32C (w.2.1.v) (List.map (fun e=>no32 e.1) (edgesM l i w.1))::Sl 35 1 u32C (w.2.2.1.v) (List.map (fun e=>no32 e.2) (edgesM l i w.1))::Sl 3 1 natC (.slice a m c) (unitsM l)::A::R) [(1,_),(2,_),(3,_),(4,_),(8,_),(9,_),(10,_),(31,_),(32,_),(33,_),(34,_),(35,_),(36,_),(37,_),(38,_),(39,_)] (fun (w:Nat × SV × SV × List AhV)=>w.1≤l.length∧AhOk l (edgesM l i w.1) w.2.2.2) (fun (w:Nat × SV × SV × List AhV)=>l.length - w.1) (0,f0,t0,es0) (⟨Nat.zero_le _,hB0⟩) ?_
   rintro ⟨k,f1,t1,es⟩ ⟨hk,hB⟩
   simp only at hk hB
   dsimp only
   refine WP.seq<|WP.reg<|WL.e e_lss<|WL.next<|WP.seq ?_
   refine WP.cond rfl (fun h2=>?_) (fun h2=>?_)
   ·have hlth2:k < l.length:=by rw [decide_eq_true_eq] at h2;omega
    obtain ⟨d2,hy⟩:∃ x,l[k]?=some x:=⟨_,List.getElem?_eq_getElem hlth2⟩
    refine WP.skip<|PO.next<|WP.seq<|WP.block<|WP.seq<|WP.reg<|WL.e e_move<|WL.e (el_ia (j:=k) (xs:=l) sl22 hA hlth2)<|WL.e (el_loadN (a:=d2) a39 deedE hA hy) ?_
    refine WL.h (h_alloc z39 fun b4=>?_)
    refine WL.e e_assign ?_
    refine WL.h' (h_store s39 ?_)
    refine WL.next<|WP.seq<|WP.draws mixedOk 23<|RW.e 0 rfl (e_fa f39_1)<|RW.e 1 rfl (e_load a5)<|RW.e 2 rfl (e_fa f39_1)<|RW.e 3 rfl (e_load a5)<|RW.e 4 rfl (e_eql8)<|RW.e 5 rfl e_move ?_
    refine RW.bool 50 rfl (fun g1=>?_) (fun g1=>?_)
    ·replace g1:d.site=d2.site:=by simpa using g1
     refine RW.e 6 rfl (e_fa f39_2)<|RW.e 7 rfl (e_load a35)<|RW.e 8 rfl (e_fa f39_2)<|RW.e 9 rfl (e_load a35)<|RW.e 10 rfl (e_lss32)<|RW.e 11 rfl e_pick_t<|RW.e 12 rfl e_move ?_
     refine RW.bool 57 rfl (fun g2=>?_) (fun g2=>?_)
     ·replace g2:d2.order < d.order:=by simpa using g2
      refine RW.e 13 rfl e_move<|RW.e 14 rfl e_move<|RW.e 15 rfl (el_ia (j:=i) (xs:=unitsM l) sl23 sl_rl (by rw [units_len];exact hlth1))<|RW.e 16 rfl (el_load0 (j:=i) (xs:=unitsM l) (a:=unitAt l i) a3 natE sl_rl (units_get hlth1))<|RW.e 17 rfl e_move<|RW.e 18 rfl e_move<|RW.e 19 rfl (el_ia (j:=k) (xs:=unitsM l) sl23 sl_rl (by rw [units_len];exact hlth2))<|RW.e 20 rfl (el_load0 (j:=k) (xs:=unitsM l) (a:=unitAt l k) a3 natE sl_rl (units_get hlth2))<|RW.e 21 rfl e_neq<|RW.e 22 rfl e_pick_t<|RW.done<|PO.next ?_
      refine WP.cond rfl (fun h3=>?_) (fun h3=>?_)
      ·replace h3:unitAt l i≠unitAt l k:=by simp at h3;omega
       have hE:edgeB l i k=true:=by simp [edgeB,hx,hy,g1,g2,h3]
       have hul:unitAt l i < l.length:=by have:=unitAt_le hlth1;omega
       have hel:=edges_len l i k
       have hmul:i * l.length≤1000 * 1000:=Nat.mul_le_mul (by omega) hn
       obtain ⟨e,A2,B2,he,hes,hset,hws⟩:=hB.at_ hul
       have hwl:e.ws.length≤1001000:=by rw [hws];have:=ahead_len (edgesM l i k) (unitAt l i);omega
       have hs1:List.map (fun e=>no32 e.1) (edgesM l i (k+1))=List.map (fun e=>no32 e.1) ((edgesM l i k))++[no32 (unitAt l i)]:=by rw [edges_step,if_pos hE];simp
       have hs2:List.map (fun e=>no32 e.2) (edgesM l i (k+1))=List.map (fun e=>no32 e.2) ((edgesM l i k))++[no32 (unitAt l k)]:=by rw [edges_step,if_pos hE];simp
       refine WP.opn (Ents_out (E:=3) (z:=1) (enc:=natC) hes) fun _=>?_
       refine WP.seq<|WP.draws mixedOk 20<|RW.e 0 rfl e_move<|RW.e 1 rfl e_move<|RW.e 2 rfl e_move<|RW.e 3 rfl (el_ia (j:=i) (xs:=unitsM l) sl23 sl_rl (by rw [units_len];exact hlth1))<|RW.e 4 rfl (el_load0 (j:=i) (xs:=unitsM l) (a:=unitAt l i) a3 natE sl_rl (units_get hlth1))<|RW.e 5 rfl (e_c32 (by rw [Tryz.underlying3];rfl) Tryz.underlying35)<|RW.e 6 rfl (e_add32 (b:=1))<|RW.e 9 rfl e_move<|RW.e 10 rfl e_move<|RW.e 11 rfl e_move<|RW.e 12 rfl (el_ia (j:=k) (xs:=unitsM l) sl23 sl_rl (by rw [units_len];exact hlth2))<|RW.e 13 rfl (el_load0 (j:=k) (xs:=unitsM l) (a:=unitAt l k) a3 natE sl_rl (units_get hlth2))<|RW.e 14 rfl (e_c32 (by rw [Tryz.underlying3];rfl) Tryz.underlying35)<|RW.e 15 rfl (e_add32 (b:=1)) ?_
       refine RW.any (is:=[7,16]) rfl ⟨?_,?_,trivial⟩
       ·skip
        refine RWat.h rfl rfl rfl ?_
        refine (h_bs sl33 z35 (.o (.tmp 74) rfl<|.n) fun b5=>?_)
        refine ⟨⟨⟨_,rfl,.inl ⟨rfl,(e_add32 (b:=1))⟩⟩,⟨_,rfl,.inl ⟨rfl,(e_c32 (by rw [Tryz.underlying3];rfl) Tryz.underlying35)⟩⟩,⟨_,rfl,.inl ⟨rfl,(el_load0 (j:=k) (xs:=unitsM l) (a:=unitAt l k) a3 natE sl_rl (units_get hlth2))⟩⟩,⟨_,rfl,.inl ⟨rfl,(el_ia (j:=k) (xs:=unitsM l) sl23 sl_rl (by rw [units_len];exact hlth2))⟩⟩,⟨_,rfl,.inl ⟨rfl,e_move⟩⟩,⟨_,rfl,.inl ⟨rfl,e_move⟩⟩,⟨_,rfl,.inl ⟨rfl,e_move⟩⟩,⟨_,rfl,.inl ⟨rfl,e_move⟩⟩,trivial⟩,?_⟩
        refine RW.any (is:=[8,16]) rfl ⟨?_,?_,trivial⟩
        ·skip
         refine RWat.h rfl rfl rfl ?_
         refine (hl_append (xs:=List.map (fun e=>no32 e.1) ((edgesM l i k))) (ys:=[no32 (unitAt l i)]) sl33 u32E z35 (lit_rl u32E [no32 (unitAt l i)] rfl) (by simp only [List.length_map,List.length_singleton];omega) (fun a5 n5 c5=>?_))
         refine ⟨⟨⟨_,rfl,.inl ⟨rfl,(e_add32 (b:=1))⟩⟩,⟨_,rfl,.inl ⟨rfl,(e_c32 (by rw [Tryz.underlying3];rfl) Tryz.underlying35)⟩⟩,⟨_,rfl,.inl ⟨rfl,(el_load0 (j:=k) (xs:=unitsM l) (a:=unitAt l k) a3 natE sl_rl (units_get hlth2))⟩⟩,⟨_,rfl,.inl ⟨rfl,(el_ia (j:=k) (xs:=unitsM l) sl23 sl_rl (by rw [units_len];exact hlth2))⟩⟩,⟨_,rfl,.inl ⟨rfl,e_move⟩⟩,⟨_,rfl,.inl ⟨rfl,e_move⟩⟩,⟨_,rfl,.inl ⟨rfl,e_move⟩⟩,trivial⟩,?_⟩
         refine RW.any (is:=[16]) rfl ⟨?_,trivial⟩
         refine RWat.h rfl rfl rfl ?_
         refine (h_bs sl33 z35 (.o (.tmp 83) rfl<|.n) fun b6=>?_)
         refine ⟨⟨⟨_,rfl,.inl ⟨rfl,e_move⟩⟩,trivial⟩,?_⟩
         refine RW.any (is:=[17]) rfl ⟨?_,trivial⟩
         refine RWat.h rfl rfl rfl ?_
         refine (hl_append (xs:=List.map (fun e=>no32 e.2) ((edgesM l i k))) (ys:=[no32 (unitAt l k)]) sl33 u32E z35 (lit_rl u32E [no32 (unitAt l k)] rfl) (by simp only [List.length_map,List.length_singleton];omega) (fun a6 n6 c6=>?_))
         refine ⟨trivial,?_⟩
         refine RW.any (is:=[18]) rfl ⟨?_,trivial⟩
         refine RWat.h rfl rfl rfl<|HO.of_eo e_assign ?_
         refine ⟨trivial,?_⟩
         refine RW.any (is:=[19]) rfl ⟨?_,trivial⟩
         refine RWat.h rfl rfl rfl<|HO.of_eo e_assign ?_
         refine ⟨trivial,?_⟩
         refine RW.done<|PO.next<|WP.draws mixedOk 20<|RW.e 0 rfl (e_load a66)<|RW.e 1 rfl e_move<|RW.e 2 rfl e_move<|RW.e 3 rfl (el_ia (j:=i) (xs:=unitsM l) sl23 sl_rl (by rw [units_len];exact hlth1))<|RW.e 4 rfl (el_load0 (j:=i) (xs:=unitsM l) (a:=unitAt l i) a3 natE sl_rl (units_get hlth1))<|RW.e 5 rfl (e_load a66)<|RW.e 6 rfl e_move<|RW.e 7 rfl e_move<|RW.e 8 rfl (el_ia (j:=i) (xs:=unitsM l) sl23 sl_rl (by rw [units_len];exact hlth1))<|RW.e 9 rfl (el_load0 (j:=i) (xs:=unitsM l) (a:=unitAt l i) a3 natE sl_rl (units_get hlth1))<|RW.e 10 rfl (el_ia (j:=unitAt l i) (xs:=es) sl66 sl_rl (idx_lt he))<|RW.e 11 rfl (el_load0 (j:=unitAt l i) (xs:=es) (a:=e) a23 lsE sl_rl he)<|RW.e 12 rfl e_move<|RW.e 13 rfl e_move<|RW.e 14 rfl (el_ia (j:=k) (xs:=unitsM l) sl23 sl_rl (by rw [units_len];exact hlth2))<|RW.e 15 rfl (el_load0 (j:=k) (xs:=unitsM l) (a:=unitAt l k) a3 natE sl_rl (units_get hlth2)) ?_
         refine RW.any (is:=[16]) rfl ⟨?_,trivial⟩
         refine RWat.h rfl rfl rfl ?_
         refine (h_bs sl23 z3 (.o (.tmp 101) rfl<|.n) fun b7=>?_)
         refine ⟨⟨⟨_,rfl,.inl ⟨rfl,(el_load0 (j:=unitAt l i) (xs:=es) (a:=e) a23 lsE sl_rl he)⟩⟩,⟨_,rfl,.inl ⟨rfl,(el_ia (j:=unitAt l i) (xs:=es) sl66 sl_rl (idx_lt he))⟩⟩,⟨_,rfl,.inl ⟨rfl,(el_load0 (j:=i) (xs:=unitsM l) (a:=unitAt l i) a3 natE sl_rl (units_get hlth1))⟩⟩,⟨_,rfl,.inl ⟨rfl,(el_ia (j:=i) (xs:=unitsM l) sl23 sl_rl (by rw [units_len];exact hlth1))⟩⟩,⟨_,rfl,.inl ⟨rfl,e_move⟩⟩,⟨_,rfl,.inl ⟨rfl,e_move⟩⟩,⟨_,rfl,.inl ⟨rfl,(e_load a66)⟩⟩,⟨_,rfl,.inl ⟨rfl,(el_load0 (j:=i) (xs:=unitsM l) (a:=unitAt l i) a3 natE sl_rl (units_get hlth1))⟩⟩,⟨_,rfl,.inl ⟨rfl,(el_ia (j:=i) (xs:=unitsM l) sl23 sl_rl (by rw [units_len];exact hlth1))⟩⟩,⟨_,rfl,.inl ⟨rfl,e_move⟩⟩,⟨_,rfl,.inl ⟨rfl,e_move⟩⟩,⟨_,rfl,.inl ⟨rfl,(e_load a66)⟩⟩,trivial⟩,?_⟩
         refine RW.any (is:=[17]) rfl ⟨?_,trivial⟩
         refine RWat.h rfl rfl rfl ?_
         refine (hl_append (xs:=e.ws) (ys:=[unitAt l k]) sl23 natE z3 (lit_rl natE [unitAt l k] rfl) (by simp only [List.length_singleton];omega) (fun a7 n7 c7=>?_))
         refine ⟨⟨⟨_,rfl,.inl ⟨rfl,(el_load0 (j:=i) (xs:=unitsM l) (a:=unitAt l i) a3 natE sl_rl (units_get hlth1))⟩⟩,⟨_,rfl,.inl ⟨rfl,(el_ia (j:=i) (xs:=unitsM l) sl23 sl_rl (by rw [units_len];exact hlth1))⟩⟩,⟨_,rfl,.inl ⟨rfl,e_move⟩⟩,⟨_,rfl,.inl ⟨rfl,e_move⟩⟩,⟨_,rfl,.inl ⟨rfl,(e_load a66)⟩⟩,trivial⟩,?_⟩
         refine RW.e 18 rfl (el_ia (j:=unitAt l i) (xs:=es) sl66 sl_rl (idx_lt he)) ?_
         refine RW.any (is:=[19]) rfl ⟨?_,trivial⟩
         refine RWat.h' rfl rfl rfl ?_
         refine (hl_store (j:=unitAt l i) (xs:=es) (⟨(),⟨a7,n7,c7⟩,e.ws++[unitAt l k]⟩:AhV) s23 lsE (idx_lt he) ?_)
         refine ⟨trivial,?_⟩
         refine RW.done<|PO.blockN<|PO.next<|WP.reg<|WL.e (e_add (c:=((k+1:Nat):Int)) rfl rfl (by rw [w_i64 (by omega) (by omega)];omega))<|WL.e e_move<|WL.nil<|PO.cls (A:=Ents 3 1 natC (A2++(⟨(),⟨a7,n7,c7⟩,e.ws++[unitAt l k]⟩:AhV)::B2)) (B:=[Sl 3 1 natC (.slice a7 n7 c7) (e.ws++[unitAt l k]),Ents 3 1 natC (A2++B2)]) (fun S h=>Ents_in (e:=(⟨(),⟨a7,n7,c7⟩,e.ws++[unitAt l k]⟩:AhV)) S h) ?_
         rw [← hset (⟨(),⟨a7,n7,c7⟩,e.ws++[unitAt l k]⟩:AhV),← hs1,← hs2]
         exact PO.againK (k+1,⟨a5,n5,c5⟩,⟨a6,n6,c6⟩,es.set (unitAt l i) (⟨(),⟨a7,n7,c7⟩,e.ws++[unitAt l k]⟩:AhV)) ⟨by simp only;omega,by rw [edges_step,if_pos hE];exact hB.step he ⟨a7,n7,c7⟩⟩ (by simp only;omega)
        ·skip
         refine RWat.h rfl rfl rfl ?_
         refine (h_bs sl33 z35 (.o (.tmp 83) rfl<|.n) fun b8=>?_)
         refine ⟨⟨⟨_,rfl,.inl ⟨rfl,e_move⟩⟩,⟨_,rfl,.inl ⟨rfl,e_move⟩⟩,trivial⟩,?_⟩
         refine RW.any (is:=[8]) rfl ⟨?_,trivial⟩
         refine RWat.h rfl rfl rfl ?_
         refine (hl_append (xs:=List.map (fun e=>no32 e.1) ((edgesM l i k))) (ys:=[no32 (unitAt l i)]) sl33 u32E z35 (lit_rl u32E [no32 (unitAt l i)] rfl) (by simp only [List.length_map,List.length_singleton];omega) (fun a5 n5 c5=>?_))
         refine ⟨⟨⟨_,rfl,.inl ⟨rfl,e_move⟩⟩,trivial⟩,?_⟩
         refine RW.any (is:=[17]) rfl ⟨?_,trivial⟩
         refine RWat.h rfl rfl rfl ?_
         refine (hl_append (xs:=List.map (fun e=>no32 e.2) ((edgesM l i k))) (ys:=[no32 (unitAt l k)]) sl33 u32E z35 (lit_rl u32E [no32 (unitAt l k)] rfl) (by simp only [List.length_map,List.length_singleton];omega) (fun a6 n6 c6=>?_))
         refine ⟨trivial,?_⟩
         refine RW.any (is:=[18]) rfl ⟨?_,trivial⟩
         refine RWat.h rfl rfl rfl<|HO.of_eo e_assign ?_
         refine ⟨trivial,?_⟩
         refine RW.any (is:=[19]) rfl ⟨?_,trivial⟩
         refine RWat.h rfl rfl rfl<|HO.of_eo e_assign ?_
         refine ⟨trivial,?_⟩
         refine RW.done<|PO.next<|WP.draws mixedOk 20<|RW.e 0 rfl (e_load a66)<|RW.e 1 rfl e_move<|RW.e 2 rfl e_move<|RW.e 3 rfl (el_ia (j:=i) (xs:=unitsM l) sl23 sl_rl (by rw [units_len];exact hlth1))<|RW.e 4 rfl (el_load0 (j:=i) (xs:=unitsM l) (a:=unitAt l i) a3 natE sl_rl (units_get hlth1))<|RW.e 5 rfl (e_load a66)<|RW.e 6 rfl e_move<|RW.e 7 rfl e_move<|RW.e 8 rfl (el_ia (j:=i) (xs:=unitsM l) sl23 sl_rl (by rw [units_len];exact hlth1))<|RW.e 9 rfl (el_load0 (j:=i) (xs:=unitsM l) (a:=unitAt l i) a3 natE sl_rl (units_get hlth1))<|RW.e 10 rfl (el_ia (j:=unitAt l i) (xs:=es) sl66 sl_rl (idx_lt he))<|RW.e 11 rfl (el_load0 (j:=unitAt l i) (xs:=es) (a:=e) a23 lsE sl_rl he)<|RW.e 12 rfl e_move<|RW.e 13 rfl e_move<|RW.e 14 rfl (el_ia (j:=k) (xs:=unitsM l) sl23 sl_rl (by rw [units_len];exact hlth2))<|RW.e 15 rfl (el_load0 (j:=k) (xs:=unitsM l) (a:=unitAt l k) a3 natE sl_rl (units_get hlth2)) ?_
         refine RW.any (is:=[16]) rfl ⟨?_,trivial⟩
         refine RWat.h rfl rfl rfl ?_
         refine (h_bs sl23 z3 (.o (.tmp 101) rfl<|.n) fun b9=>?_)
         refine ⟨⟨⟨_,rfl,.inl ⟨rfl,(el_load0 (j:=unitAt l i) (xs:=es) (a:=e) a23 lsE sl_rl he)⟩⟩,⟨_,rfl,.inl ⟨rfl,(el_ia (j:=unitAt l i) (xs:=es) sl66 sl_rl (idx_lt he))⟩⟩,⟨_,rfl,.inl ⟨rfl,(el_load0 (j:=i) (xs:=unitsM l) (a:=unitAt l i) a3 natE sl_rl (units_get hlth1))⟩⟩,⟨_,rfl,.inl ⟨rfl,(el_ia (j:=i) (xs:=unitsM l) sl23 sl_rl (by rw [units_len];exact hlth1))⟩⟩,⟨_,rfl,.inl ⟨rfl,e_move⟩⟩,⟨_,rfl,.inl ⟨rfl,e_move⟩⟩,⟨_,rfl,.inl ⟨rfl,(e_load a66)⟩⟩,⟨_,rfl,.inl ⟨rfl,(el_load0 (j:=i) (xs:=unitsM l) (a:=unitAt l i) a3 natE sl_rl (units_get hlth1))⟩⟩,⟨_,rfl,.inl ⟨rfl,(el_ia (j:=i) (xs:=unitsM l) sl23 sl_rl (by rw [units_len];exact hlth1))⟩⟩,⟨_,rfl,.inl ⟨rfl,e_move⟩⟩,⟨_,rfl,.inl ⟨rfl,e_move⟩⟩,⟨_,rfl,.inl ⟨rfl,(e_load a66)⟩⟩,trivial⟩,?_⟩
         refine RW.any (is:=[17]) rfl ⟨?_,trivial⟩
         refine RWat.h rfl rfl rfl ?_
         refine (hl_append (xs:=e.ws) (ys:=[unitAt l k]) sl23 natE z3 (lit_rl natE [unitAt l k] rfl) (by simp only [List.length_singleton];omega) (fun a7 n7 c7=>?_))
         refine ⟨⟨⟨_,rfl,.inl ⟨rfl,(el_load0 (j:=i) (xs:=unitsM l) (a:=unitAt l i) a3 natE sl_rl (units_get hlth1))⟩⟩,⟨_,rfl,.inl ⟨rfl,(el_ia (j:=i) (xs:=unitsM l) sl23 sl_rl (by rw [units_len];exact hlth1))⟩⟩,⟨_,rfl,.inl ⟨rfl,e_move⟩⟩,⟨_,rfl,.inl ⟨rfl,e_move⟩⟩,⟨_,rfl,.inl ⟨rfl,(e_load a66)⟩⟩,trivial⟩,?_⟩
         refine RW.e 18 rfl (el_ia (j:=unitAt l i) (xs:=es) sl66 sl_rl (idx_lt he)) ?_
         refine RW.any (is:=[19]) rfl ⟨?_,trivial⟩
         refine RWat.h' rfl rfl rfl ?_
         refine (hl_store (j:=unitAt l i) (xs:=es) (⟨(),⟨a7,n7,c7⟩,e.ws++[unitAt l k]⟩:AhV) s23 lsE (idx_lt he) ?_)
         refine ⟨trivial,?_⟩
         refine RW.done<|PO.blockN<|PO.next<|WP.reg<|WL.e (e_add (c:=((k+1:Nat):Int)) rfl rfl (by rw [w_i64 (by omega) (by omega)];omega))<|WL.e e_move<|WL.nil<|PO.cls (A:=Ents 3 1 natC (A2++(⟨(),⟨a7,n7,c7⟩,e.ws++[unitAt l k]⟩:AhV)::B2)) (B:=[Sl 3 1 natC (.slice a7 n7 c7) (e.ws++[unitAt l k]),Ents 3 1 natC (A2++B2)]) (fun S h=>Ents_in (e:=(⟨(),⟨a7,n7,c7⟩,e.ws++[unitAt l k]⟩:AhV)) S h) ?_
         rw [← hset (⟨(),⟨a7,n7,c7⟩,e.ws++[unitAt l k]⟩:AhV),← hs1,← hs2]
         exact PO.againK (k+1,⟨a5,n5,c5⟩,⟨a6,n6,c6⟩,es.set (unitAt l i) (⟨(),⟨a7,n7,c7⟩,e.ws++[unitAt l k]⟩:AhV)) ⟨by simp only;omega,by rw [edges_step,if_pos hE];exact hB.step he ⟨a7,n7,c7⟩⟩ (by simp only;omega)
       ·skip
        refine RWat.h rfl rfl rfl ?_
        refine (h_bs sl33 z35 (.o (.tmp 83) rfl<|.n) fun b10=>?_)
        refine ⟨⟨⟨_,rfl,.inl ⟨rfl,e_move⟩⟩,⟨_,rfl,.inl ⟨rfl,(e_add32 (b:=1))⟩⟩,⟨_,rfl,.inl ⟨rfl,(e_c32 (by rw [Tryz.underlying3];rfl) Tryz.underlying35)⟩⟩,⟨_,rfl,.inl ⟨rfl,(el_load0 (j:=i) (xs:=unitsM l) (a:=unitAt l i) a3 natE sl_rl (units_get hlth1))⟩⟩,⟨_,rfl,.inl ⟨rfl,(el_ia (j:=i) (xs:=unitsM l) sl23 sl_rl (by rw [units_len];exact hlth1))⟩⟩,⟨_,rfl,.inl ⟨rfl,e_move⟩⟩,⟨_,rfl,.inl ⟨rfl,e_move⟩⟩,⟨_,rfl,.inl ⟨rfl,e_move⟩⟩,trivial⟩,?_⟩
        refine RW.any (is:=[7]) rfl ⟨?_,trivial⟩
        refine RWat.h rfl rfl rfl ?_
        refine (h_bs sl33 z35 (.o (.tmp 74) rfl<|.n) fun b11=>?_)
        refine ⟨⟨⟨_,rfl,.inl ⟨rfl,e_move⟩⟩,⟨_,rfl,.inl ⟨rfl,e_move⟩⟩,trivial⟩,?_⟩
        refine RW.any (is:=[8]) rfl ⟨?_,trivial⟩
        refine RWat.h rfl rfl rfl ?_
        refine (hl_append (xs:=List.map (fun e=>no32 e.1) ((edgesM l i k))) (ys:=[no32 (unitAt l i)]) sl33 u32E z35 (lit_rl u32E [no32 (unitAt l i)] rfl) (by simp only [List.length_map,List.length_singleton];omega) (fun a5 n5 c5=>?_))
        refine ⟨⟨⟨_,rfl,.inl ⟨rfl,e_move⟩⟩,trivial⟩,?_⟩
        refine RW.any (is:=[17]) rfl ⟨?_,trivial⟩
        refine RWat.h rfl rfl rfl ?_
        refine (hl_append (xs:=List.map (fun e=>no32 e.2) ((edgesM l i k))) (ys:=[no32 (unitAt l k)]) sl33 u32E z35 (lit_rl u32E [no32 (unitAt l k)] rfl) (by simp only [List.length_map,List.length_singleton];omega) (fun a6 n6 c6=>?_))
        refine ⟨trivial,?_⟩
        refine RW.any (is:=[18]) rfl ⟨?_,trivial⟩
        refine RWat.h rfl rfl rfl<|HO.of_eo e_assign ?_
        refine ⟨trivial,?_⟩
        refine RW.any (is:=[19]) rfl ⟨?_,trivial⟩
        refine RWat.h rfl rfl rfl<|HO.of_eo e_assign ?_
        refine ⟨trivial,?_⟩
        refine RW.done<|PO.next<|WP.draws mixedOk 20<|RW.e 0 rfl (e_load a66)<|RW.e 1 rfl e_move<|RW.e 2 rfl e_move<|RW.e 3 rfl (el_ia (j:=i) (xs:=unitsM l) sl23 sl_rl (by rw [units_len];exact hlth1))<|RW.e 4 rfl (el_load0 (j:=i) (xs:=unitsM l) (a:=unitAt l i) a3 natE sl_rl (units_get hlth1))<|RW.e 5 rfl (e_load a66)<|RW.e 6 rfl e_move<|RW.e 7 rfl e_move<|RW.e 8 rfl (el_ia (j:=i) (xs:=unitsM l) sl23 sl_rl (by rw [units_len];exact hlth1))<|RW.e 9 rfl (el_load0 (j:=i) (xs:=unitsM l) (a:=unitAt l i) a3 natE sl_rl (units_get hlth1))<|RW.e 10 rfl (el_ia (j:=unitAt l i) (xs:=es) sl66 sl_rl (idx_lt he))<|RW.e 11 rfl (el_load0 (j:=unitAt l i) (xs:=es) (a:=e) a23 lsE sl_rl he)<|RW.e 12 rfl e_move<|RW.e 13 rfl e_move<|RW.e 14 rfl (el_ia (j:=k) (xs:=unitsM l) sl23 sl_rl (by rw [units_len];exact hlth2))<|RW.e 15 rfl (el_load0 (j:=k) (xs:=unitsM l) (a:=unitAt l k) a3 natE sl_rl (units_get hlth2)) ?_
        refine RW.any (is:=[16]) rfl ⟨?_,trivial⟩
        refine RWat.h rfl rfl rfl ?_
        refine (h_bs sl23 z3 (.o (.tmp 101) rfl<|.n) fun b12=>?_)
        refine ⟨⟨⟨_,rfl,.inl ⟨rfl,(el_load0 (j:=unitAt l i) (xs:=es) (a:=e) a23 lsE sl_rl he)⟩⟩,⟨_,rfl,.inl ⟨rfl,(el_ia (j:=unitAt l i) (xs:=es) sl66 sl_rl (idx_lt he))⟩⟩,⟨_,rfl,.inl ⟨rfl,(el_load0 (j:=i) (xs:=unitsM l) (a:=unitAt l i) a3 natE sl_rl (units_get hlth1))⟩⟩,⟨_,rfl,.inl ⟨rfl,(el_ia (j:=i) (xs:=unitsM l) sl23 sl_rl (by rw [units_len];exact hlth1))⟩⟩,⟨_,rfl,.inl ⟨rfl,e_move⟩⟩,⟨_,rfl,.inl ⟨rfl,e_move⟩⟩,⟨_,rfl,.inl ⟨rfl,(e_load a66)⟩⟩,⟨_,rfl,.inl ⟨rfl,(el_load0 (j:=i) (xs:=unitsM l) (a:=unitAt l i) a3 natE sl_rl (units_get hlth1))⟩⟩,⟨_,rfl,.inl ⟨rfl,(el_ia (j:=i) (xs:=unitsM l) sl23 sl_rl (by rw [units_len];exact hlth1))⟩⟩,⟨_,rfl,.inl ⟨rfl,e_move⟩⟩,⟨_,rfl,.inl ⟨rfl,e_move⟩⟩,⟨_,rfl,.inl ⟨rfl,(e_load a66)⟩⟩,trivial⟩,?_⟩
        refine RW.any (is:=[17]) rfl ⟨?_,trivial⟩
        refine RWat.h rfl rfl rfl ?_
        refine (hl_append (xs:=e.ws) (ys:=[unitAt l k]) sl23 natE z3 (lit_rl natE [unitAt l k] rfl) (by simp only [List.length_singleton];omega) (fun a7 n7 c7=>?_))
        refine ⟨⟨⟨_,rfl,.inl ⟨rfl,(el_load0 (j:=i) (xs:=unitsM l) (a:=unitAt l i) a3 natE sl_rl (units_get hlth1))⟩⟩,⟨_,rfl,.inl ⟨rfl,(el_ia (j:=i) (xs:=unitsM l) sl23 sl_rl (by rw [units_len];exact hlth1))⟩⟩,⟨_,rfl,.inl ⟨rfl,e_move⟩⟩,⟨_,rfl,.inl ⟨rfl,e_move⟩⟩,⟨_,rfl,.inl ⟨rfl,(e_load a66)⟩⟩,trivial⟩,?_⟩
        refine RW.e 18 rfl (el_ia (j:=unitAt l i) (xs:=es) sl66 sl_rl (idx_lt he)) ?_
        refine RW.any (is:=[19]) rfl ⟨?_,trivial⟩
        refine RWat.h' rfl rfl rfl ?_
        refine (hl_store (j:=unitAt l i) (xs:=es) (⟨(),⟨a7,n7,c7⟩,e.ws++[unitAt l k]⟩:AhV) s23 lsE (idx_lt he) ?_)
        refine ⟨trivial,?_⟩
        refine RW.done<|PO.blockN<|PO.next<|WP.reg<|WL.e (e_add (c:=((k+1:Nat):Int)) rfl rfl (by rw [w_i64 (by omega) (by omega)];omega))<|WL.e e_move<|WL.nil<|PO.cls (A:=Ents 3 1 natC (A2++(⟨(),⟨a7,n7,c7⟩,e.ws++[unitAt l k]⟩:AhV)::B2)) (B:=[Sl 3 1 natC (.slice a7 n7 c7) (e.ws++[unitAt l k]),Ents 3 1 natC (A2++B2)]) (fun S h=>Ents_in (e:=(⟨(),⟨a7,n7,c7⟩,e.ws++[unitAt l k]⟩:AhV)) S h) ?_
        rw [← hset (⟨(),⟨a7,n7,c7⟩,e.ws++[unitAt l k]⟩:AhV),← hs1,← hs2]
        exact PO.againK (k+1,⟨a5,n5,c5⟩,⟨a6,n6,c6⟩,es.set (unitAt l i) (⟨(),⟨a7,n7,c7⟩,e.ws++[unitAt l k]⟩:AhV)) ⟨by simp only;omega,by rw [edges_step,if_pos hE];exact hB.step he ⟨a7,n7,c7⟩⟩ (by simp only;omega)
      ·replace h3:unitAt l i=unitAt l k:=by simp at h3;omega
       refine WP.skip<|PO.blockN<|PO.next<|WP.reg<|WL.e (e_add (c:=((k+1:Nat):Int)) rfl rfl (by rw [w_i64 (by omega) (by omega)];omega))<|WL.e e_move<|WL.nil ?_
       have hE:edgeB l i k=false:=by simp [edgeB,hx,hy,h3]
       have hs:edgesM l i (k+1)=edgesM l i k:=by rw [edges_step,hE];simp
       rw [← hs] at hB ⊢
       exact PO.againK (k+1,f1,t1,es) ⟨by simp only;omega,hB⟩ (by simp only;omega)
     ·replace g2:¬ d2.order < d.order:=by simpa using g2
      refine RW.skip 13 rfl<|RW.skip 14 rfl<|RW.skip 15 rfl<|RW.skip 16 rfl<|RW.skip 17 rfl<|RW.skip 18 rfl<|RW.skip 19 rfl<|RW.skip 20 rfl<|RW.skip 21 rfl<|RW.e 22 rfl e_pick_f<|RW.done<|PO.next<|WP.cond_f rfl<|WP.skip<|PO.blockN<|PO.next<|WP.reg<|WL.e (e_add (c:=((k+1:Nat):Int)) rfl rfl (by rw [w_i64 (by omega) (by omega)];omega))<|WL.e e_move<|WL.nil ?_
      have hE:edgeB l i k=false:=by simp [edgeB,hx,hy,g2]
      have hs:edgesM l i (k+1)=edgesM l i k:=by rw [edges_step,hE];simp
      rw [← hs] at hB ⊢
      exact PO.againK (k+1,f1,t1,es) ⟨by simp only;omega,hB⟩ (by simp only;omega)
    ·replace g1:d.site≠d2.site:=by simpa using g1
     refine RW.skip 6 rfl<|RW.skip 7 rfl<|RW.skip 8 rfl<|RW.skip 9 rfl<|RW.skip 10 rfl<|RW.e 11 rfl e_pick_f<|RW.e 12 rfl e_move<|RW.skip 13 rfl<|RW.skip 14 rfl<|RW.skip 15 rfl<|RW.skip 16 rfl<|RW.skip 17 rfl<|RW.skip 18 rfl<|RW.skip 19 rfl<|RW.skip 20 rfl<|RW.skip 21 rfl<|RW.e 22 rfl e_pick_f<|RW.done<|PO.next<|WP.cond_f rfl<|WP.skip<|PO.blockN<|PO.next<|WP.reg ?_
     refine WL.e (e_add (c:=((k+1:Nat):Int)) rfl rfl (by rw [w_i64 (by omega) (by omega)];omega))<|WL.e e_move<|WL.nil ?_
     have hE:edgeB l i k=false:=by simp [edgeB,hx,hy,g1]
     have hs:edgesM l i (k+1)=edgesM l i k:=by rw [edges_step,hE];simp
     rw [← hs] at hB ⊢
     exact PO.againK (k+1,f1,t1,es) ⟨by simp only;omega,hB⟩ (by simp only;omega)
   ·obtain rfl:k=l.length:=by rw [decide_eq_false_iff_not] at h2;omega
    refine WP.exit<|PO.past nofun<|PO.round nofun<|PO.blockX<|PO.blockN<|PO.next<|WP.reg<|WL.e (e_add (c:=((i+1:Nat):Int)) rfl rfl (by rw [w_i64 (by omega) (by omega)];omega))<|WL.e e_move<|WL.nil ?_
    rw [← edges_next] at hB ⊢
    exact PO.againK (i+1,f1,t1,es) ⟨by simp only;omega,hB⟩ (by simp only;omega)
  ·obtain rfl:i=l.length:=by rw [decide_eq_false_iff_not] at h1;omega
   refine WP.exit<|PO.past nofun<|PO.round nofun<|PO.blockX<|PO.next<|WP.seq<|WP.seq<|WP.reg<|WL.e e_move<|WL.e e_move ?_
   refine WL.h (h_call (ROrder_spec (fs:=List.map (fun e=>no32 e.1) (edgesM l l.length 0)) (ts:=List.map (fun e=>no32 e.2) (edgesM l l.length 0)) sl_rl sl_rl (by simp) (by have:=edges_len l l.length 0;have:l.length * l.length≤1000 * 1000:=Nat.mul_le_mul hn hn;simp only [List.length_map];omega)) k31 ?_)
   refine ⟨fun hst=>?_,fun rk hrk a9 m9 c9=>?_⟩
   ·have hno:¬ RkE l:=fun ⟨rk,h⟩=>Stuck.not hst (rk:=rk) fun x y hxy=>h x y ((edgeL_rel _ x y).1 hxy)
    refine WL.e e_move<|WL.e e_extract<|WL.e e_extract<|WL.e e_assign<|WL.e e_assign<|WL.next<|WP.seq<|WP.reg<|WL.e e_move<|WL.e e_not<|WL.next<|WP.cond_t rfl<|WP.seq<|WP.reg<|WL.e e_assign<|WL.e e_assign<|WL.next<|WP.ret<|PO.past nofun ?_
    exact PO.fin Tryz.results14 (rv_tmp (rv_tmp rv_nil)) (hK.2.1 hok hno)
   ·have hR:RkE l:=⟨rk,fun x y h=>hrk x y ((edgeL_rel _ x y).2 h)⟩
    refine WL.e e_move<|WL.e e_extract<|WL.e e_extract<|WL.e e_assign<|WL.e e_assign<|WL.next<|WP.seq<|WP.reg<|WL.e e_move<|WL.e e_not<|WL.next<|WP.cond_f rfl<|WP.skip<|PO.next<|WP.seq<|WP.reg<|WL.e (e_load a22)<|WL.e (el_len (xs:=l) sl22 hA) ?_
    refine WL.h (hl_make (enc:=boolC) (n:=l.length) false sl60 z4 (by omega) (fun ag ng cg=>?_))
    refine WL.h (h_alloc z60 fun b13=>?_)
    refine WL.h' (h_store s60 ?_)
    refine WL.next<|WP.seq<|WP.reg<|WL.e e_assign<|WL.next<|WP.seq<|WP.block<|WP.nils 3 1 natC none ?_
    rw [gone_init]
    refine WP.loopK (fun (z:SV × List Nat × List Nat)=>[(16,z.1.v)]) (fun (z:SV × List Nat × List Nat)=>cl b13 60 [.slice ag ng cg]::Sl 4 1 boolC (.slice ag ng cg) (goneM l.length z.2.1)::cl b2 66 [.slice a1 n1 c1]::Sl 23 1 lsC (.slice a1 n1 c1) (es0)::Ents 3 1 natC (es0)::Sl 3 1 natC (z.1.v) (z.2.2)::cl b1 22 [.slice a0 m0 c0]::Sl 3 1 natC (.slice a m c) (unitsM l)::A::R) [(1,_),(2,_),(3,_),(4,_),(8,_),(15,_)] (fun (z:SV × List Nat × List Nat)=>OrdI l z.2.1 z.2.2) (fun (z:SV × List Nat × List Nat)=>l.length - z.2.2.length) (⟨none,0,0⟩,[],[]) (OrdI.init l) ?_
    rintro ⟨o,us,out⟩ hO
    simp only at hO
    dsimp only
    have hol:=hO.len
    refine WP.seq<|WP.seq<|WP.reg<|WL.e e_move<|WL.e (el_len (xs:=out) sl23 sl_rl)<|WL.e (e_load a22)<|WL.e (el_len (xs:=l) sl22 hA)<|WL.e e_lss<|WL.next ?_
    refine WP.cond rfl (fun h5=>?_) (fun h5=>?_)
    ·replace h5:out.length < l.length:=by rw [decide_eq_true_eq] at h5;omega
     obtain ⟨f,hf⟩:=hR.nat
     obtain ⟨j,hj1,hj2,hj3⟩:=hO.next h5 hf
     have hul:unitAt l j < l.length:=by have:=unitAt_le hj2;omega
     refine WP.skip<|PO.next<|WP.block<|WP.seq<|WP.reg<|WL.e e_move<|WL.e e_makeFunc<|WL.cls (A:=bun [cl b13 60 [.slice ag ng cg],Sl 4 1 boolC (.slice ag ng cg) (goneM l.length us),cl b2 66 [.slice a1 n1 c1],Sl 23 1 lsC (.slice a1 n1 c1) (es0),Ents 3 1 natC (es0)]) (B:=[cl b13 60 [.slice ag ng cg],Sl 4 1 boolC (.slice ag ng cg) (goneM l.length us),cl b2 66 [.slice a1 n1 c1],Sl 23 1 lsC (.slice a1 n1 c1) (es0),Ents 3 1 natC (es0)]) (fun S h=>h) ?_
     refine WL.h (h_call (IndexN_spec (A:=Sl 3 1 natC (.slice a m c) (unitsM l)) (B:=bun [cl b13 60 [.slice ag ng cg],Sl 4 1 boolC (.slice ag ng cg) (goneM l.length us),cl b2 66 [.slice a1 n1 c1],Sl 23 1 lsC (.slice a1 n1 c1) (es0),Ents 3 1 natC (es0)]) (xs:=unitsM l) (p:=pickB l us) sl_rl (by rw [units_len];omega) (fun x hx=>CallV.bun (CallV.of_spec (fs:=[]) (cs:=[.pointer (some ⟨b13,0,none⟩),.pointer (some ⟨b2,0,none⟩)]) (JOrd1_spec (c1:=b13) (c2:=b2) (us:=us) hB0 hn x (by obtain ⟨q,hq,rfl⟩:=List.mem_map.1 hx;have h1:=List.mem_range.1 hq;have h2:=unitAt_le h1;omega)) k33))) k32 ?_)
     rw [idx_of (us:=[]) hj1]
     show WL _ _ _ _ _ _ _ _
     refine WL.opn (A:=bun [cl b13 60 [.slice ag ng cg],Sl 4 1 boolC (.slice ag ng cg) (goneM l.length us),cl b2 66 [.slice a1 n1 c1],Sl 23 1 lsC (.slice a1 n1 c1) (es0),Ents 3 1 natC (es0)]) (B:=fun _:Unit=>[cl b13 60 [.slice ag ng cg],Sl 4 1 boolC (.slice ag ng cg) (goneM l.length us),cl b2 66 [.slice a1 n1 c1],Sl 23 1 lsC (.slice a1 n1 c1) (es0),Ents 3 1 natC (es0)]) (fun S h=>⟨(),h⟩) fun _=>?_
     refine WL.e e_assign<|WL.next<|WP.seq<|WP.reg<|WL.e e_move<|WL.e e_move<|WL.e (el_ia (j:=j) (xs:=unitsM l) sl23 sl_rl (by rw [units_len];exact hj2))<|WL.e (el_load0 (j:=j) (xs:=unitsM l) (a:=unitAt l j) a3 natE sl_rl (units_get hj2))<|WL.e e_assign<|WL.next<|WP.seq<|WP.reg<|WL.e (e_load a60)<|WL.e e_move<|WL.e (el_ia (j:=unitAt l j) (xs:=goneM l.length us) sl60 sl_rl (by rw [gone_len];exact hul)) ?_
     refine WL.h' (hl_store (j:=unitAt l j) (xs:=goneM l.length us) true s4 boolE (by rw [gone_len];exact hul) ?_)
     rw [gone_set hul]
     refine WL.next<|WP.seq<|WP.reg<|WL.e e_assign<|WL.next<|WP.seq<|WP.seq<|WP.reg<|WL.e (e_load a22)<|WL.e (el_len (xs:=l) sl22 hA)<|WL.e e_move<|WL.next<|WP.block<|WP.nils 3 1 natC none ?_
     refine WP.loopK (fun (w:Nat × SV)=>[(135,.int .i64 w.1),(19,w.2.v)]) (fun (w:Nat × SV)=>Sl 3 1 natC (w.2.v) (List.filter (fun q=>decide (unitAt l q=unitAt l j)) (List.range w.1))::cl b13 60 [.slice ag ng cg]::Sl 4 1 boolC (.slice ag ng cg) (goneM l.length (us++[unitAt l j]))::cl b2 66 [.slice a1 n1 c1]::Sl 23 1 lsC (.slice a1 n1 c1) (es0)::Ents 3 1 natC (es0)::Sl 3 1 natC (o.v) (out)::cl b1 22 [.slice a0 m0 c0]::Sl 3 1 natC (.slice a m c) (unitsM l)::A::R) [(1,_),(2,_),(3,_),(4,_),(8,_),(15,_),(16,_),(17,_),(18,_),(118,_),(119,_),(120,_),(121,_),(122,_),(123,_),(124,_),(125,_),(126,_),(127,_),(128,_),(129,_),(130,_),(131,_),(132,_),(133,_),(134,_)] (fun (w:Nat × SV)=>w.1≤l.length) (fun (w:Nat × SV)=>l.length - w.1) (0,⟨none,0,0⟩) (Nat.zero_le _) ?_
     rintro ⟨i,s⟩ hi
     simp only at hi
     dsimp only
     refine WP.seq<|WP.reg<|WL.e e_lss<|WL.next<|WP.seq ?_
     refine WP.cond rfl (fun h6=>?_) (fun h6=>?_)
     ·have hlth1:i < l.length:=by rw [decide_eq_true_eq] at h6;omega
      have hfl:(List.filter (fun q=>decide (unitAt l q=unitAt l j)) (List.range i)).length≤1000:=by have:=List.length_filter_le (fun q=>decide (unitAt l q=unitAt l j)) (List.range i);rw [List.length_range] at this;omega
      refine WP.skip<|PO.next<|WP.seq<|WP.block<|WP.seq<|WP.reg<|WL.e e_move<|WL.e e_assign<|WL.next<|WP.seq<|WP.reg<|WL.e e_move<|WL.e e_move<|WL.e (el_ia (j:=i) (xs:=unitsM l) sl23 sl_rl (by rw [units_len];exact hlth1))<|WL.e (el_load0 (j:=i) (xs:=unitsM l) (a:=unitAt l i) a3 natE sl_rl (units_get hlth1))<|WL.e e_move<|WL.e e_eql<|WL.next ?_
      refine WP.cond rfl (fun h7=>?_) (fun h7=>?_)
      ·replace h7:unitAt l i=unitAt l j:=by simp at h7;omega
       refine WP.reg<|WL.e e_move<|WL.e e_move ?_
       refine WL.h (h_bs sl23 z3 (.o (.tmp 145) rfl<|.n) fun b14=>?_)
       refine WL.h (hl_append (xs:=List.filter (fun q=>decide (unitAt l q=unitAt l j)) (List.range i)) (ys:=[i]) sl23 natE z3 (lit_rl natE [i] rfl) (by simp only [List.length_singleton];omega) (fun a5 n5 c5=>?_))
       refine WL.e e_assign<|WL.nil<|PO.blockN<|PO.next<|WP.reg<|WL.e (e_add (c:=((i+1:Nat):Int)) rfl rfl (by rw [w_i64 (by omega) (by omega)];omega))<|WL.e e_move<|WL.nil ?_
       rw [show List.filter (fun q=>decide (unitAt l q=unitAt l j)) (List.range i)++[i]=List.filter (fun q=>decide (unitAt l q=unitAt l j)) (List.range (i+1)) by rw [of_snoc,if_pos h7]]
       exact PO.againK (i+1,⟨a5,n5,c5⟩) (by simp only;omega) (by simp only;omega)
      ·replace h7:¬ unitAt l i=unitAt l j:=by simp at h7;omega
       refine WP.skip<|PO.blockN<|PO.next<|WP.reg<|WL.e (e_add (c:=((i+1:Nat):Int)) rfl rfl (by rw [w_i64 (by omega) (by omega)];omega))<|WL.e e_move<|WL.nil ?_
       rw [show List.filter (fun q=>decide (unitAt l q=unitAt l j)) (List.range i)=List.filter (fun q=>decide (unitAt l q=unitAt l j)) (List.range (i+1)) by rw [of_snoc,if_neg h7,List.append_nil]]
       exact PO.againK (i+1,s) (by simp only;omega) (by simp only;omega)
     ·obtain rfl:i=l.length:=by rw [decide_eq_false_iff_not] at h6;omega
      have hlo:∀ z ∈ ofUnit l (unitAt l j),z < l.length:=fun z hz=>List.mem_range.1 (List.mem_filter.1 hz).1
      have hnd:(ofUnit l (unitAt l j)).Nodup:=List.nodup_range.filter _
      refine WP.exit<|PO.past nofun<|PO.round nofun<|PO.blockX<|PO.next<|WP.seq<|WP.reg<|WL.e e_move<|WL.e e_makeFunc<|WL.cls (A:=bun [cl b1 22 [.slice a0 m0 c0],A]) (B:=[cl b1 22 [.slice a0 m0 c0],A]) (fun S h=>h) ?_
      refine WL.h (h_call (SortN_spec (B:=bun [cl b1 22 [.slice a0 m0 c0],A]) (cfD_on l) (ofUnit l (unitAt l j)) hlo (hu12 _) (fun x y hx hy=>CallV.bun (CallV.of_spec (fs:=[]) (cs:=[.pointer (some ⟨b1,0,none⟩)]) (JCmp_spec (c:=b1) hA x y hx hy) k37))) k36 ?_)
      intro zs hz1 hz2
      show WL _ _ _ _ _ _ _ _
      refine WL.opn (A:=bun [cl b1 22 [.slice a0 m0 c0],A]) (B:=fun _:Unit=>[cl b1 22 [.slice a0 m0 c0],A]) (fun S h=>⟨(),h⟩) fun _=>?_
      have hzl:=hz1.length_eq
      have hz12:=hu12 (unitAt l j)
      refine WL.next<|WP.reg<|WL.e e_move<|WL.e e_move ?_
      refine WL.h (hl_append (xs:=out) (ys:=zs) sl23 natE z3 sl_rl (by omega) (fun a6 n6 c6=>?_))
      refine WL.e e_assign<|WL.nil<|PO.blockN ?_
      exact PO.againK (⟨a6,n6,c6⟩,us++[unitAt l j],out++zs) (hO.step hok hj3 hz1 (sorted_before hok (fun z hz=>hlo z (hz1.mem_iff.1 hz)) (hz1.nodup_iff.2 hnd) hz2)) (by have:=hz1.length_eq;have:=ofUnit_pos hj2;simp only [List.length_append];omega)
    ·have hfull:=hO.full (by rw [decide_eq_false_iff_not] at h5;omega)
     refine WP.exit<|PO.past nofun<|PO.round nofun<|PO.blockX<|PO.next<|WP.seq<|WP.reg<|WL.e e_move ?_
     refine WL.h (h_call (ClipN_spec) k41 ?_)
     intro a8 m8 c8
     refine WL.e e_assign<|WL.e e_assign<|WL.next<|WP.ret ?_
     exact PO.fin Tryz.results14 (rv_tmp (rv_tmp rv_nil)) (hK.2.2 hok hR a8 m8 c8 out hfull)
end Go.SL
namespace Go.SL
open Go Go.Proofs
def LockM.c (l:LockM):List Value:=[.string l.s.a,.string l.s.b,.bool l.alone]
end Go.SL
namespace Go.SL.Fc
end Go.SL.Fc
namespace Go.SL
open Go Go.Proofs Fc
end Go.SL
namespace Go.SL.Fc
open Go Go.Proofs Go.SL
theorem p385:placesOf Tryz.prog 385=some [(0,1)]:=by kernel_rfl
theorem z385:zeroOf Tryz.prog 385=some [.map none]:=by kernel_rfl
end Go.SL.Fc
namespace Go.SL
open Go Go.Proofs Fc
def Lk (p:Nat) (L:LkT):HP:=fun S=>∃ x:Nat × List (EntV UInt32 LockM),stars [pu (List.map stE (x.2)=L),cl p 385 [.map (some x.1)],Mp eU32 (.map (some x.1)) (List.map kvE (x.2)),Ents 507 3 LockM.c (x.2)] S
theorem LNew_spec {g:World}:Spec Tryz.prog g 210 [] [] fun K R=>∀ p,K (.pointer (some ⟨p,0,none⟩)) (Lk p []::R):=by
 refine Spec.intro Tryz.func210 rfl Tryz.ntmps210 rfl fun R K hK=>?_
 refine WP.seq<|WP.reg<|WL.e e_assign<|WL.next<|WP.seq<|WP.reg ?_
 refine WL.h (h_makeMapB (ek:=eU32) fun m=>?_)
 refine WL.e (e_build z385 p385 (.o (.tmp 1) rfl<|.n)) ?_
 refine WL.h (h_box fun b1=>?_)
 refine WL.e e_assign<|WL.next<|WP.ret<|PO.conv (fun S h=>Ents_nil (κ:=UInt32) (E:=507) (z:=3) (enc:=LockM.c) h) ?_
 refine PO.conv (fun S h=>pu_stars (show List.map stE ([]:List (EntV UInt32 LockM))=[] from rfl) h) ?_
 refine PO.cls (A:=Lk b1 []) (B:=[pu (List.map stE ([])=[]),cl b1 385 [.map (some m)],Mp eU32 (.map (some m)) (List.map kvE ([])),Ents 507 3 LockM.c ([])]) (fun S h=>⟨(m,[]),h⟩) ?_
 exact PO.fin Tryz.results210 (rv_tmp rv_nil) (hK b1)
end Go.SL
namespace Go.SL
open Go
abbrev SortedU (xs:List UInt32):Prop:=xs.Pairwise fun x y=>x≤y
abbrev StrictU (xs:List UInt32):Prop:=xs.Pairwise fun x y=>x < y
theorem sorted_get {xs:List UInt32} (h:SortedU xs) {i j:Nat} {a b:UInt32} (hij:i≤j) (ha:xs[i]?=some a) (hb:xs[j]?=some b):a≤b:=by
  rcases Nat.lt_or_ge i j with hlt | hge
  · have h1:=idx_lt ha
    have h2:=idx_lt hb
    have:=List.pairwise_iff_getElem.1 h i j h1 h2 hlt
    rw [List.getElem?_eq_getElem h1] at ha
    rw [List.getElem?_eq_getElem h2] at hb
    cases ha;cases hb;exact this
  · obtain rfl:i=j:=by omega
    rw [ha] at hb;cases hb;exact UInt32.le_refl _
structure CmpI (xs ds:List UInt32) (i c:Nat):Prop where
  len:ds.length=xs.length
  i1:1≤i
  ic:i≤c
  cn:c≤xs.length
  str:StrictU (ds.take i)
  mem:∀ x,x ∈ ds.take i↔x ∈ xs.take c
  rest:∀ j,c - 1≤j→ds[j]?=xs[j]?
  last:ds[i - 1]?=xs[c - 1]?
theorem CmpI.start {xs:List UInt32} {i:Nat} (h:StrictU (xs.take i)) (h1:1≤i) {a:UInt32} (ha:xs[i]?=some a) (hb:xs[i - 1]?=some a):CmpI xs xs i (i+1):=by
  have:=idx_lt ha
  refine ⟨rfl,h1,Nat.le_succ _,by omega,h,fun x=>?_,fun _ _=>rfl,by rw [hb,Nat.add_sub_cancel,ha]⟩
  rw [take_snoc ha,List.mem_append]
  constructor
  · exact .inl
  · rintro (h | h)
    · exact h
    · simp at h;subst h
      exact List.mem_of_getElem? (i:=i - 1) (by rw [List.getElem?_take_of_lt (by omega)];exact hb)
theorem CmpI.same {xs ds:List UInt32} {i c:Nat} (h:CmpI xs ds i c) {a:UInt32} (ha:xs[c]?=some a) (hb:xs[c - 1]?=some a):CmpI xs ds i (c+1):=by
  have:=idx_lt ha
  have:=h.i1;have:=h.ic
  refine ⟨h.len,h.i1,by omega,by omega,h.str,fun x=>?_,fun j hj=>h.rest j (by omega),by rw [h.last,hb,Nat.add_sub_cancel,ha]⟩
  rw [h.mem,take_snoc ha,List.mem_append]
  constructor
  · exact .inl
  · rintro (h2 | h2)
    · exact h2
    · simp at h2;subst h2
      exact List.mem_of_getElem? (i:=c - 1) (by rw [List.getElem?_take_of_lt (by omega)];exact hb)
theorem CmpI.put {xs ds:List UInt32} (hs:SortedU xs) {i c:Nat} (h:CmpI xs ds i c) {a b:UInt32} (ha:xs[c]?=some a) (hb:xs[c - 1]?=some b) (hne:a≠b):CmpI xs (ds.set i a) (i+1) (c+1):=by
  have hc:=idx_lt ha
  have h1:=h.i1;have h2:=h.ic;have h3:=h.len
  have hba:b < a:=UInt32.lt_of_le_of_ne (sorted_get hs (Nat.sub_le _ _) hb ha) (fun e=>hne e.symm)
  have ht:(ds.set i a).take (i+1)=ds.take i++[a]:=by
    rw [take_snoc (List.getElem?_set_self (by omega)),List.take_set_of_le (Nat.le_refl _)]
  refine ⟨by rw [List.length_set];exact h3,by omega,by omega,by omega,?_,fun x=>?_,fun j hj=>?_,?_⟩
  · rw [ht,StrictU,List.pairwise_append]
    refine ⟨h.str,by simp,fun x hx y hy=>?_⟩
    simp at hy;subst hy
    have hx2:=(h.mem x).1 hx
    obtain ⟨j,hj⟩:=List.mem_iff_getElem?.1 hx2
    have hjc:j < c:=by have:=idx_lt hj;simp at this;omega
    rw [List.getElem?_take_of_lt hjc] at hj
    have:=sorted_get hs (show j≤c - 1 by omega) hj hb
    exact UInt32.lt_of_le_of_lt this hba
  · rw [ht,take_snoc ha,List.mem_append,List.mem_append,h.mem]
  · by_cases e:i=j
    · subst e
      have:i=c:=by omega
      subst this
      rw [List.getElem?_set_self (by omega),ha]
    · rw [List.getElem?_set_ne e];exact h.rest j (by omega)
  · rw [Nat.add_sub_cancel,Nat.add_sub_cancel,List.getElem?_set_self (by omega),ha]
end Go.SL
namespace Go.SL.Fc
end Go.SL.Fc
namespace Go.SL
open Go Go.Proofs Fc
end Go.SL
namespace Go.SL.Fc
end Go.SL.Fc
namespace Go.SL
open Go Go.Proofs Fc
end Go.SL
namespace Go.SL.Fc
open Go Go.Proofs Go.SL
theorem a312:aggOf Tryz.prog 312=some none:=by kernel_rfl
theorem f316_1:fldOf Tryz.prog 316 1=some 1:=by kernel_rfl
theorem f316_3:fldOf Tryz.prog 316 3=some 3:=by kernel_rfl
theorem k380:callable Tryz.prog 380=true:=by kernel_rfl
theorem pt254:isPtr Tryz.prog 254=true:=by kernel_rfl
theorem pt496:isPtr Tryz.prog 496=true:=by kernel_rfl
theorem zz496:(Tryz.prog.info? 496).bind (·.zero)=some (.pointer none):=by kernel_rfl
end Go.SL.Fc
namespace Go.SL
open Go Go.Proofs Fc
def TxA_ (t:TxT):HP:=fun S=>∃ x:SV × SV,stars [cl t.q 498 [x.1.v,x.2.v],Sl 388 3 ChgM.c x.1.v t.x.own,Sl 35 1 u32C x.2.v t.x.waits] S
def TPA (t:TxT):List HP:=[TxA_ t]
def As (p dp:Nat) (s:StV):HP:=fun S=>∃ x:Nat × Nat × Nat × Nat,stars [cl p 316 [.pointer (some ⟨x.1,0,none⟩),.pointer (some ⟨x.2.1,0,none⟩),.int .u32 (UInt32.ofNat s.H.length).toNat,.map (some x.2.2.2),.pointer (some ⟨x.2.2.1,0,none⟩)],cl x.1 246 [.pointer (some ⟨dp,0,none⟩),.int .i64 s.at_],Dk dp s.d,Mm x.2.1 s.rows,Mp eU32 (.map (some x.2.2.2)) (List.map kvU s.txs),Lk x.2.2.1 s.locks] S
theorem As_op {p dp:Nat} {s:StV}:∀ S,As p dp s S→∃ x:Nat × Nat × Nat × Nat,stars [cl p 316 [.pointer (some ⟨x.1,0,none⟩),.pointer (some ⟨x.2.1,0,none⟩),.int .u32 (UInt32.ofNat s.H.length).toNat,.map (some x.2.2.2),.pointer (some ⟨x.2.2.1,0,none⟩)],cl x.1 246 [.pointer (some ⟨dp,0,none⟩),.int .i64 s.at_],Dk dp s.d,Mm x.2.1 s.rows,Mp eU32 (.map (some x.2.2.2)) (List.map kvU s.txs),Lk x.2.2.1 s.locks] S:=fun _ h=>h
theorem Athere_spec {g:World} {p dp:Nat} {s:StV}:Spec Tryz.prog g 380 [.pointer (some ⟨p,0,none⟩)] [As p dp s] fun K R=>K (.bool true) (As p dp s::R):=by
 refine Spec.intro Tryz.func380 rfl Tryz.ntmps380 rfl fun R K hK=>?_
 refine WP.opn (As_op (p:=p) (dp:=dp) (s:=s)) fun x=>?_
 obtain ⟨lp,mp,kp,mb⟩:=x
 dsimp only
 refine WP.seq<|WP.reg<|WL.e e_assign<|WL.next<|WP.seq<|WP.reg<|WL.e e_move<|WL.e (e_pne pt254)<|WL.e e_move ?_
 refine WL.bool 5 rfl (fun h=>?_) (fun h=>?_)
 ·skip
  refine WL.e e_move<|WL.e e_nil<|WL.e (e_fa f316_3)<|WL.e (e_load a312)<|WL.e (e_mne Tryz.underlying312)<|WL.e e_pick_t<|WL.e e_assign<|WL.next<|WP.ret<|PO.cls (A:=As p dp (s)) (B:=[cl p 316 [.pointer (some ⟨lp,0,none⟩),.pointer (some ⟨mp,0,none⟩),.int .u32 (UInt32.ofNat s.H.length).toNat,.map (some mb),.pointer (some ⟨kp,0,none⟩)],cl lp 246 [.pointer (some ⟨dp,0,none⟩),.int .i64 s.at_],Dk dp s.d,Mm mp s.rows,Mp eU32 (.map (some mb)) (List.map kvU s.txs),Lk kp s.locks]) (fun S h=>⟨(lp,mp,kp,mb),h⟩) ?_
  exact PO.fin Tryz.results380 (rv_tmp rv_nil) hK
 ·cases h 
theorem ARows_spec {g:World} {p dp b:Nat} {s:StV} (hs:AlphaOk s b):Spec Tryz.prog g 378 [.pointer (some ⟨p,0,none⟩)] [As p dp s] fun K R=>∀ a m c,K (.slice a m c) (Sl 59 2 RowM.c (.slice a m c) s.rows::As p dp s::R):=by
 refine Spec.intro Tryz.func378 rfl Tryz.ntmps378 rfl fun R K hK=>?_
 refine WP.seq<|WP.reg<|WL.e e_assign<|WL.next<|WP.seq<|WP.seq<|WP.reg<|WL.e e_move ?_
 refine WL.h (h_call (Athere_spec) k380 ?_)
 refine WL.e e_not<|WL.next<|WP.cond_f rfl<|WP.opn (As_op (p:=p) (dp:=dp) (s:=s)) fun x=>?_
 obtain ⟨lp,mp,kp,mb⟩:=x
 dsimp only
 refine WP.skip<|PO.next<|WP.seq<|WP.reg<|WL.e e_move<|WL.e e_nil<|WL.e (e_fa f316_1)<|WL.e (e_load a108) ?_
 refine WL.h (h_call (Rows_spec (l:=s.rows) (by have:=hs.st.rows_le;have:=hs.st.bb;omega)) k59 ?_)
 intro a9 m9 c9
 refine WL.e e_assign<|WL.next<|WP.ret<|PO.cls (A:=As p dp (s)) (B:=[cl p 316 [.pointer (some ⟨lp,0,none⟩),.pointer (some ⟨mp,0,none⟩),.int .u32 (UInt32.ofNat s.H.length).toNat,.map (some mb),.pointer (some ⟨kp,0,none⟩)],cl lp 246 [.pointer (some ⟨dp,0,none⟩),.int .i64 s.at_],Dk dp s.d,Mm mp s.rows,Mp eU32 (.map (some mb)) (List.map kvU s.txs),Lk kp s.locks]) (fun S h=>⟨(lp,mp,kp,mb),h⟩) ?_
 exact PO.fin Tryz.results378 (rv_tmp rv_nil) (hK a9 m9 c9)
end Go.SL
