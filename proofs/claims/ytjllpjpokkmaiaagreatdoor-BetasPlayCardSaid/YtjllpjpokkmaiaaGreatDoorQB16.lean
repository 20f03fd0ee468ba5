import Derived.Test.YtjllpjpokkmaiaaGreatDoorQB15
import Derived.Shelf.Strconv.Itoa3
import Derived.Laws.RangeString
import Derived.Lib.ItoaLen
set_option linter.unusedSimpArgs false
set_option linter.unusedVariables false
namespace Go.SL.Fc
end Go.SL.Fc
namespace Go.SL
open Go Go.Proofs Fc
theorem SameIds_spec {g:World} {A B:HP} {u v:Value} {xs ys:List UInt32} (hA:RL A 1 u32C u xs) (hB:RL B 1 u32C v ys) (hn:xs.length≤68719476736):Spec Tryz.prog g 25 [u,v] [A,B] fun K R=>K (.bool (decide (xs=ys))) (A::B::R):=by
 refine Spec.intro Tryz.func25 rfl Tryz.ntmps25 rfl fun R K hK=>?_
 refine WP.seq<|WP.reg<|WL.e e_assign<|WL.next<|WP.seq<|WP.seq<|WP.reg<|WL.e e_move<|WL.e (el_len sl67 hA)<|WL.e e_move<|WL.e (el_len sl67 hB)<|WL.e e_neq<|WL.next ?_
 refine WP.cond rfl (fun h1=>?_) (fun h1=>?_)
 ·replace h1:xs≠ys:=fun e=>by subst e;simp at h1
  refine WP.seq<|WP.reg<|WL.e e_assign<|WL.next<|WP.ret<|PO.past nofun ?_
  exact PO.finE Tryz.results25 (rv_tmp rv_nil) (by rw [decide_eq_false h1];rfl) hK
 ·replace h1:xs.length=ys.length:=by simp at h1;omega
  refine WP.skip<|PO.next<|WP.seq<|WP.seq<|WP.reg<|WL.e e_assign<|WL.next<|WP.block<|WP.loopK (fun (i:Nat)=>[(5,.int .i64 i)]) (fun (i:Nat)=>A::B::R) [(0,_),(1,_)] (fun (i:Nat)=>i≤xs.length∧xs.take i=ys.take i) (fun (i:Nat)=>xs.length - i) 0 (⟨Nat.zero_le _,rfl⟩) ?_
  rintro i ⟨hi,he⟩
  refine WP.seq<|WP.seq<|WP.reg<|WL.e e_move<|WL.e e_move<|WL.e (el_len sl67 hA)<|WL.e e_lss<|WL.next ?_
  refine WP.cond rfl (fun h2=>?_) (fun h2=>?_)
  ·have hlt:i < xs.length:=by rw [decide_eq_true_eq] at h2;omega
   obtain ⟨x,hx⟩:∃ x,xs[i]?=some x:=⟨_,List.getElem?_eq_getElem hlt⟩
   obtain ⟨y,hy⟩:∃ y,ys[i]?=some y:=⟨_,List.getElem?_eq_getElem (by omega)⟩
   refine WP.skip<|PO.next<|WP.seq<|WP.block<|WP.seq<|WP.draws mixedOk 9<|RW.e 0 rfl e_move<|RW.e 1 rfl e_move<|RW.e 2 rfl (el_ia (j:=i) sl67 hA hlt)<|RW.e 3 rfl (el_load0 (j:=i) (a:=x) a48 u32E hA hx)<|RW.e 4 rfl e_move<|RW.e 5 rfl e_move<|RW.e 6 rfl (el_ia (j:=i) sl67 hB (by omega))<|RW.e 7 rfl (el_load0 (j:=i) (a:=y) a48 u32E hB hy)<|RW.e 8 rfl (e_neq32)<|RW.done<|PO.next ?_
   refine WP.cond rfl (fun h3=>?_) (fun h3=>?_)
   ·replace h3:xs≠ys:=fun e=>by subst e;rw [hx] at hy;cases hy;simp at h3
    refine WP.seq<|WP.reg<|WL.e e_assign<|WL.next<|WP.ret<|PO.blockR<|PO.past nofun<|PO.round nofun<|PO.blockR<|PO.past nofun ?_
    exact PO.finE Tryz.results25 (rv_tmp rv_nil) (by rw [decide_eq_false h3];rfl) hK
   ·replace h3:x=y:=by simpa using h3
    refine WP.skip<|PO.blockN<|PO.next<|WP.reg<|WL.e e_move<|WL.e (e_add (c:=((i+1:Nat):Int)) rfl rfl (by rw [w_i64 (by omega) (by omega)];omega))<|WL.e e_assign<|WL.nil ?_
    exact PO.againK (i+1) ⟨by omega,by rw [take_snoc hx,take_snoc hy,he,h3]⟩ (by omega)
  ·have hge:xs.length≤i:=by rw [decide_eq_false_iff_not] at h2;omega
   replace h2:xs=ys:=by rwa [List.take_of_length_le hge,List.take_of_length_le (by omega)] at he
   refine WP.exit<|PO.past nofun<|PO.round nofun<|PO.blockX<|PO.next<|WP.seq<|WP.reg<|WL.e e_assign<|WL.next<|WP.ret ?_
   exact PO.finE Tryz.results25 (rv_tmp rv_nil) (by rw [decide_eq_true h2];rfl) hK
theorem ClipU_spec {g:World} {u:Value} {xs:List UInt32}:Spec Tryz.prog g 65 [u] [Sl 48 1 u32C u xs] fun K R=>∀ a m c,K (.slice a m c) (Sl 48 1 u32C (.slice a m c) xs::R):=by
 refine Spec.intro Tryz.func65 rfl Tryz.ntmps65 rfl fun R K hK=>?_
 refine WP.seq<|WP.reg<|WL.e e_assign<|WL.next<|WP.seq<|WP.reg<|WL.e e_move<|WL.e e_move<|WL.e (el_len (xs:=xs) sl67 sl_rl)<|WL.e e_move<|WL.e (el_len (xs:=xs) sl67 sl_rl)<|WL.e (el_to3 (hi:=xs.length) (xs:=xs) sl67 sl_rl (Nat.le_refl _))<|WL.e e_assign<|WL.next<|WP.ret<|PO.conv (conv1 (A:=Sl 48 1 u32C u xs) (B:=Sl 48 1 u32C (subV u 0 xs.length (some xs.length) 1) xs) (fun S h=>by have h2:=sl_to3 (i:=xs.length) u32E h (Nat.le_refl _);rwa [List.take_length] at h2) (by repeat first | exact .z | apply Put.s)) ?_
 refine PO.sh (u:=subV u 0 xs.length (some xs.length) 1) fun a9 m9 c9 e9=>?_
 rw [e9]
 exact PO.fin Tryz.results65 (rv_tmp rv_nil) (hK a9 m9 c9)
def idC (t:TxT):List Value:=u32C t.id
theorem idE:EncOk 1 idC:=⟨fun _=>rfl,fun _=>rfl⟩
end Go.SL
namespace Go.SL.Fc
open Go Go.Proofs Go.SL
theorem a67:aggOf Tryz.prog 67=some none:=by kernel_rfl
theorem k146:callable Tryz.prog 146=true:=by kernel_rfl
theorem k147:callable Tryz.prog 147=true:=by kernel_rfl
theorem k148:callable Tryz.prog 148=true:=by kernel_rfl
theorem k200:callable Tryz.prog 200=true:=by kernel_rfl
theorem k53:callable Tryz.prog 53=true:=by kernel_rfl
theorem k65:callable Tryz.prog 65=true:=by kernel_rfl
theorem k66:callable Tryz.prog 66=true:=by kernel_rfl
theorem k67:callable Tryz.prog 67=true:=by kernel_rfl
theorem s67:szOf Tryz.prog 67=some 1:=by kernel_rfl
theorem s77:szOf Tryz.prog 77=some 1:=by kernel_rfl
end Go.SL.Fc
namespace Go.SL
open Go Go.Proofs Fc
theorem CloneP_spec {g:World} {A:HP} {u:Value} {xs:List (List UInt8)} (hA:RL A 64 pieceC u xs) (hb:xs.length≤68719476736):Spec Tryz.prog g 53 [u] [A] fun K R=>∀ a m c,K (.slice a m c) (Sl 122 64 pieceC (.slice a m c) xs::A::R):=by
 refine Spec.intro Tryz.func53 rfl Tryz.ntmps53 rfl fun R K hK=>?_
 refine WP.seq<|WP.reg<|WL.e e_assign<|WL.next<|WP.seq<|WP.seq<|WP.reg<|WL.e e_move<|WL.e (e_slnil sl77 hA)<|WL.next ?_
 refine WP.cond rfl (fun h=>?_) (fun h=>?_)
 ·refine WP.know (φ:=xs=[]) (Pick.know (A:=A) (by exact .z) fun S hS=>?_) fun hx=>?_
  ·rcases hA S hS with ⟨h0,_⟩ | ⟨b,o,c,l,t,e,_⟩
   ·simpa using h0
   ·rw [e] at h;cases h
  subst hx
  refine WP.nils 122 64 pieceC none ?_
  refine WP.seq<|WP.reg<|WL.e e_assign<|WL.next<|WP.ret<|PO.past nofun ?_
  exact PO.fin Tryz.results53 (rv_tmp rv_nil) (hK none 0 0)
 ·skip
  refine WP.skip<|PO.next<|WP.seq<|WP.reg ?_
  refine WL.h (h_bs0 sl77 (enc:=pieceC) fun a1 n1 c1=>?_)
  refine WL.e e_move ?_
  refine WL.h (hl_append (xs:=[]) (ys:=xs) sl77 pieceE z122 hA (by simp;omega) fun a2 n2 c2=>?_)
  rw [List.nil_append]
  refine WL.e e_assign<|WL.next<|WP.ret ?_
  exact PO.fin Tryz.results53 (rv_tmp rv_nil) (hK a2 n2 c2)
theorem Fail_spec {g:World} {p:Nat} {d:DiskM} (keep torn:Int) (ht:-1≤torn) (hd:d.ok) (hw:d.waits=[]):Spec Tryz.prog g 15 [.pointer (some ⟨p,0,none⟩),.int .u64 keep,.int .i64 torn] [Dk p d] fun K R=>∀ q,K (.tuple #[.pointer (some ⟨q,0,none⟩),.int .i64 0]) (Dk q ⟨d.sure,d.sure,[]⟩::Dk p d::R):=by
 refine Spec.intro Tryz.func15 rfl Tryz.ntmps15 rfl fun R K hK=>?_
 refine WP.seq<|WP.reg<|WL.e e_assign<|WL.e e_assign<|WL.next<|WP.seq<|WP.block<|WP.seq<|WP.reg<|WL.e e_move ?_
 refine WL.h (h_call (Size_spec) k52 ?_)
 refine WL.e e_eql<|WL.e e_assign<|WL.next ?_
 refine WP.cond rfl (fun h=>?_) (fun h=>?_)
 ·(rw [beq_iff_eq] at h;have:=hd.pos;omega)
 ·skip
  refine WP.seq<|WP.reg<|WL.e e_move<|WL.e e_lss<|WL.e e_assign<|WL.next ?_
  refine WP.cond rfl (fun h2=>?_) (fun h2=>?_)
  ·(rw [decide_eq_true_eq] at h2;omega)
  ·refine WP.opn (Dk_op (p:=p) (d:=d)) fun x=>?_
   obtain ⟨s1,s2,s3⟩:=x
   dsimp only
   refine WP.skip<|PO.blockN<|PO.next<|WP.seq<|WP.reg<|WL.e e_move<|WL.e e_nil<|WL.e (e_fa f80_0)<|WL.e (e_load a77) ?_
   refine WL.h (h_call (CloneP_spec (u:=s1.v) (sl_rl (E:=122) (xs:=d.sure)) (by have:=hd.le;omega)) k53 ?_)
   intro a1 n1 c1
   refine WL.e (e_build z80 p80 (.o (.tmp 23) rfl<|.z (.slice none 0 0)<|.z (.slice none 0 0)<|.n)) ?_
   refine WL.h (h_box fun b1=>?_)
   refine WL.e e_assign<|WL.next<|WP.seq<|WP.seq<|WP.reg<|WL.e e_move<|WL.e e_nil<|WL.e (e_fa f80_2)<|WL.e (e_load a78)<|WL.e (el_len (xs:=d.waits) sl78 sl_rl)<|WL.e e_move<|WL.next<|WP.block<|WP.loopK (fun (_:Unit)=>[(31,.int .i64 0)]) (fun (_:Unit)=>cl p 80 [s1.v,s2.v,s3.v]::Sl 122 64 pieceC s1.v d.sure::Sl 122 64 pieceC s2.v d.seen::Sl 124 65 waitC s3.v d.waits::cl b1 80 [.slice a1 n1 c1,.slice none 0 0,.slice none 0 0]::Sl 122 64 pieceC (.slice a1 n1 c1) d.sure::R) [(1,_),(2,_),(6,_),(7,_),(8,_),(29,_),(30,_)] (fun (_:Unit)=>True) (fun (_:Unit)=>0) () (trivial) ?_
   intro _ _
   refine WP.seq<|WP.reg<|WL.e e_lss<|WL.next<|WP.seq ?_
   refine WP.cond rfl (fun h1=>?_) (fun h1=>?_)
   ·(rw [hw] at h1;simp at h1)
   ·skip
    refine WP.exit<|PO.past nofun<|PO.round nofun<|PO.blockX<|PO.next<|WP.seq<|WP.reg<|WL.e e_move<|WL.e e_move<|WL.e e_nil<|WL.e (e_fa f80_0)<|WL.e (e_load a77) ?_
    refine WL.h (h_call (CloneP_spec (u:=.slice a1 n1 c1) (sl_rl (E:=122) (xs:=d.sure)) (by have:=hd.le;omega)) k53 ?_)
    intro a2 n2 c2
    refine WL.e e_nil<|WL.e (e_fa f80_1) ?_
    refine WL.h' (h_store s77 ?_)
    refine WL.next<|WP.seq<|WP.reg<|WL.e e_move<|WL.e e_assign<|WL.e e_assign<|WL.next<|WP.ret<|PO.nils 124 65 waitC none ?_
    refine PO.cls (A:=Dk b1 ⟨d.sure,d.sure,[]⟩) (B:=[cl b1 80 [.slice a1 n1 c1,.slice a2 n2 c2,.slice none 0 0],Sl 122 64 pieceC (.slice a1 n1 c1) d.sure,Sl 122 64 pieceC (.slice a2 n2 c2) d.sure,Sl 124 65 waitC (.slice none 0 0) []]) (fun S h=>⟨(⟨a1,n1,c1⟩,⟨a2,n2,c2⟩,⟨none,0,0⟩),h⟩) ?_
    refine PO.cls (A:=Dk p d) (B:=[cl p 80 [s1.v,s2.v,s3.v],Sl 122 64 pieceC s1.v d.sure,Sl 122 64 pieceC s2.v d.seen,Sl 124 65 waitC s3.v d.waits]) (fun S h=>⟨(s1,s2,s3),h⟩) ?_
    exact PO.fin Tryz.results15 (rv_tmp (rv_tmp rv_nil)) (hK b1)
theorem BKeys_spec {g:World} {m:Nat}:Spec Tryz.prog g 67 [.map (some m)] [] fun K R=>∀ b,K (.func (.func 148) #[] #[.pointer (some ⟨b,0,none⟩)]) (cl b 87 [.map (some m)]::R):=by
 refine Spec.intro Tryz.func67 rfl Tryz.ntmps67 rfl fun R K hK=>?_
 refine WP.seq<|WP.reg ?_
 refine WL.h (h_box fun b1=>?_)
 refine WL.e e_assign<|WL.next<|WP.seq<|WP.reg<|WL.e e_makeFunc<|WL.e e_assign<|WL.next<|WP.ret ?_
 exact PO.fin Tryz.results67 (rv_tmp rv_nil) (hK b1)
theorem BKeys_iter {g:World} {b m:Nat} {ts:List (TxT)}:Iter Tryz.prog g 148 (fun y=>[]++[y]++[.pointer (some ⟨b,0,none⟩)]) [cl b 87 [.map (some m)],Mp eU32 (.map (some m)) (List.map kvU ts)] idC (fun _=>pu True) (fun xs=>xs.Perm ts) (fun pre=>∃ r,(pre++r).Perm ts) [cl b 87 [.map (some m)],Mp eU32 (.map (some m)) (List.map kvU ts)]:=by
 intro y J X cont hy
 refine Spec.intro Tryz.func148 rfl Tryz.ntmps148 rfl fun R K hK=>?_
 refine WP.seq<|WP.reg<|WL.e (e_load a87) ?_
 refine WL.h (h_range (kvs:=List.map kvU ts) Tryz.underlying87 fun it=>?_)
 refine WL.next<|WP.block<|WP.loopK (fun (x:List (TxT) × List (TxT) × Option (UInt32 × Value))=>[]) (fun (x:List (TxT) × List (TxT) × Option (UInt32 × Value))=>J x.2.1::MpIt eU32 (.map (some m)) it (List.map kvU ts) (List.map kvU x.1) x.2.2::cl b 87 [.map (some m)]::R) [(0,_),(5,_)] (fun (x:List (TxT) × List (TxT) × Option (UInt32 × Value))=>(x.2.1++x.1).Perm ts∧Hist cont x.2.1) (fun (x:List (TxT) × List (TxT) × Option (UInt32 × Value))=>x.1.length) (ts,[],none) (⟨.refl _,Hist.nil⟩) ?_
 rintro ⟨left,pre,cur⟩ ⟨hx1,hx2⟩
 simp only at hx1 hx2
 dsimp only
 refine WP.seq<|WP.reg ?_
 refine WL.h (h_next (fun h0=>?_) (fun a y0 b0 hx=>?_))
 ·have hl0:left=[]:=by simpa using h0
  subst hl0
  refine WL.e e_extract<|WL.next<|WP.seq<|WP.cond_f rfl<|WP.exit<|PO.past nofun<|PO.round nofun<|PO.blockX ?_
  exact PO.fin Tryz.results148 rv_nil (hK.1 pre (by simpa using hx1) hx2)
 ·obtain ⟨A1,y,B1,hl,rfl,rfl,rfl⟩:=map_mid hx
  have hpp:(pre++([y]++(A1++B1))).Perm ts:=by refine List.Perm.trans ?_ hx1;rw [hl];exact List.Perm.append_left _ (List.perm_middle (a:=y) (l₁:=A1) (l₂:=B1)).symm
  refine WL.e e_extract<|WL.next<|WP.seq<|WP.cond_t rfl<|WP.skip<|PO.next<|WP.block<|WP.seq<|WP.reg<|WL.e e_entry<|WL.e e_extract<|WL.e e_assign<|WL.next<|WP.seq<|WP.reg<|WL.e e_move<|WL.e e_move ?_
  refine WL.h (HO.conv (fun S h=>pu_stars trivial h) (h_cally (hy pre y ⟨_,by rw [List.append_assoc];exact hpp⟩ hx2) ?_))
  refine ⟨fun hc=>?_,fun hc=>?_⟩
  ·skip
   refine WL.e e_not<|WL.next<|WP.cond_f rfl<|WP.skip<|PO.blockN ?_
   rw [← List.map_append]
   exact PO.againK (A1++B1,pre++[y],_) ⟨by simp only;rw [List.append_assoc];exact hpp,hx2.snoc hc⟩ (by simp only [hl,List.length_append,List.length_cons];omega)
  ·skip
   refine WL.e e_not<|WL.next<|WP.cond_t rfl<|WP.ret<|PO.blockR<|PO.round nofun<|PO.blockR<|PO.conv (conv1 (A:=MpIt eU32 (.map (some m)) it (List.map kvU ts) _ _) (B:=Mp eU32 (.map (some m)) (List.map kvU ts)) MpIt_Mp (by repeat first | exact .z | apply Put.s)) ?_
   exact PO.fin Tryz.results148 rv_nil (hK.2 pre y ⟨_,by rw [List.append_assoc];exact hpp⟩ hx2 hc)
def BKJ (b:Nat) (pre:List (TxT)):HP:=fun S=>∃ sv:SV,stars [cl b 67 [sv.v],Sl 48 1 idC sv.v pre] S
theorem BKA_spec {g:World} {b m:Nat} {ts:List (TxT)} (hn:ts.length≤68719476736):Spec Tryz.prog g 200 [.slice none 0 0,.func (.func 148) #[] #[.pointer (some ⟨b,0,none⟩)]] [cl b 87 [.map (some m)],Mp eU32 (.map (some m)) (List.map kvU ts)] fun K R=>∀ a n c xs,xs.Perm ts→K (.slice a n c) (Sl 48 1 idC (.slice a n c) xs::cl b 87 [.map (some m)]::Mp eU32 (.map (some m)) (List.map kvU ts)::R):=by
 refine Spec.intro Tryz.func200 rfl Tryz.ntmps200 rfl fun R K hK=>?_
 refine WP.seq<|WP.reg ?_
 refine WL.h (h_box fun b1=>?_)
 refine WL.e e_assign<|WL.next<|WP.seq<|WP.seq<|WP.reg<|WL.e e_move<|WL.next<|WP.block<|WP.nils 48 1 idC none ?_
 refine WP.cls (A:=BKJ b1 []) (B:=[cl b1 67 [.slice none 0 0],Sl 48 1 idC (.slice none 0 0) ([])]) (fun S h=>⟨⟨none,0,0⟩,h⟩) ?_
 refine WP.range (R:=?RR) (f:=148) (fs:=[]) (cs:=[.pointer (some ⟨b,0,none⟩)]) (BKJ b1) (fun _ _ _=>pu True) (fun _ _=>True) (BKeys_iter (b:=b) (m:=m) (ts:=ts)) k148 ?hLL ?_ ?_ ?_ (fun _=>rfl)
 case hLL=>repeat first | exact .nil | exact Pick.z | apply Pick.s | apply Split.cons
 ·rintro lb db fn tmps pre x R2 hp hh
  refine WP.opn (B:=fun sv:SV=>[cl b1 67 [sv.v],Sl 48 1 idC (sv.v) (pre)]) (fun _ h=>h) fun sv=>?_
  have hlen:pre.length+1≤68719476736:=by obtain ⟨r,hr⟩:=hp;have:=hr.length_eq;simp only [List.length_append,List.length_cons,List.length_nil] at this;omega
  refine WP.reg<|WL.e e_assign<|WL.nil<|PO.asg rfl (by repeat first | exact .z | apply Put.s)<|WP.block<|WP.reg<|WL.e (e_load a67)<|WL.e e_move ?_
  refine WL.h (h_bs sl67 z48 (.o (.tmp 9) rfl<|.n) fun b2=>?_)
  refine WL.h (hl_append (xs:=pre) (ys:=[x]) sl67 idE z48 (lit_rl idE [x] rfl) (by simp;omega) (fun a5 n5 c5=>?_))
  refine WL.h' (h_store s67 ?_)
  refine WL.nil<|PO.blockN<|PO.cls (A:=BKJ b1 (pre++[x])) (B:=[cl b1 67 [.slice a5 n5 c5],Sl 48 1 idC (.slice a5 n5 c5) (pre++[x])]) (fun S h=>⟨⟨a5,n5,c5⟩,h⟩) ?_
  exact PO.rnd trivial (by repeat first | exact .refl | exact Pick.z | apply Pick.s | apply Sub.cons | apply Sub.drop)
 ·rintro db xs hp hh
  refine PO.opn (B:=fun sv:SV=>[cl b1 67 [sv.v],Sl 48 1 idC (sv.v) (xs)]) (fun _ h=>h) fun sv=>?_
  obtain ⟨a9,n9,c9⟩:=sv
  refine PO.blockN<|PO.next<|WP.seq<|WP.reg<|WL.e (e_load a67)<|WL.e e_assign<|WL.next<|WP.ret ?_
  exact PO.finM (by repeat first | exact .z | apply Put.s) Tryz.results200 (rv_tmp rv_nil) (hK a9 n9 c9 xs hp)
 ·exact fun _ _ _ _ _ _ hc=>absurd trivial hc
theorem BKC_spec {g:World} {b m:Nat} {ts:List (TxT)} (hn:ts.length≤68719476736):Spec Tryz.prog g 146 [.func (.func 148) #[] #[.pointer (some ⟨b,0,none⟩)]] [cl b 87 [.map (some m)],Mp eU32 (.map (some m)) (List.map kvU ts)] fun K R=>∀ a n c xs,xs.Perm ts→K (.slice a n c) (Sl 48 1 idC (.slice a n c) xs::cl b 87 [.map (some m)]::Mp eU32 (.map (some m)) (List.map kvU ts)::R):=by
 refine Spec.intro Tryz.func146 rfl Tryz.ntmps146 rfl fun R K hK=>?_
 refine WP.seq<|WP.reg<|WL.e e_assign<|WL.next<|WP.seq<|WP.reg<|WL.e e_move ?_
 refine WL.h (h_call (BKA_spec hn) k200 ?_)
 intro a n c xs hp
 refine WL.e e_assign<|WL.next<|WP.ret ?_
 exact PO.fin Tryz.results146 (rv_tmp rv_nil) (hK a n c xs hp)
theorem BSortedU_spec {g:World} {b m:Nat} {ts:List TxT} (hn:ts.length≤68719476736):Spec Tryz.prog g 66 [.func (.func 148) #[] #[.pointer (some ⟨b,0,none⟩)]] [cl b 87 [.map (some m)],Mp eU32 (.map (some m)) (List.map kvU ts)] fun K R=>∀ a n c ys,ys.Perm (ts.map (·.id))→(ys.Pairwise fun x y=>x≤y)→K (.slice a n c) (Sl 48 1 u32C (.slice a n c) (ys)::cl b 87 [.map (some m)]::Mp eU32 (.map (some m)) (List.map kvU ts)::R):=by
 refine Spec.intro Tryz.func66 rfl Tryz.ntmps66 rfl fun R K hK=>?_
 refine WP.seq<|WP.reg<|WL.e e_assign<|WL.next<|WP.seq<|WP.reg<|WL.e e_move ?_
 refine WL.h (h_call (BKC_spec hn) k146 ?_)
 intro a n c xs hp
 refine WL.e e_assign<|WL.next<|WP.seq<|WP.reg<|WL.e e_move<|WL.conv (conv1 (A:=Sl 48 1 idC (.slice a n c) xs) (B:=Sl 48 1 u32C (.slice a n c) (xs.map (·.id))) (fun S h=>sl_map (enc:=u32C) (f:=fun t:TxT=>t.id) h) (by repeat first | exact .z | apply Put.s)) ?_
 refine WL.h (h_call (Sort32_spec (xs.map (·.id)) (by rw [List.length_map,hp.length_eq];exact hn)) k147 ?_)
 intro ys h1 h2
 refine WL.next<|WP.seq<|WP.reg<|WL.e e_move<|WL.e e_assign<|WL.next<|WP.ret ?_
 exact PO.fin Tryz.results66 (rv_tmp rv_nil) (hK a n c ys (h1.trans (hp.map _)) h2)
theorem BOpen_spec {g:World} {p dp:Nat} {s:StV} (hn:s.txs.length≤68719476736):Spec Tryz.prog g 22 [.pointer (some ⟨p,0,none⟩)] [Bs p dp s] fun K R=>∀ a n c ys,ys.Perm (s.txs.map (·.id))→(ys.Pairwise fun x y=>x≤y)→K (.slice a n c) (Sl 48 1 u32C (.slice a n c) (ys)::Bs p dp s::R):=by
 refine Spec.intro Tryz.func22 rfl Tryz.ntmps22 rfl fun R K hK=>?_
 refine WP.seq<|WP.reg<|WL.e e_assign<|WL.next<|WP.seq<|WP.seq<|WP.reg<|WL.e e_move ?_
 refine WL.h (h_call (Bthere_spec) k38 ?_)
 refine WL.e e_not<|WL.next<|WP.cond_f rfl<|WP.opn (Bs_op (p:=p) (dp:=dp) (s:=s)) fun x=>?_
 obtain ⟨lp,pp,mb⟩:=x
 dsimp only
 refine WP.skip<|PO.next<|WP.seq<|WP.reg<|WL.e e_move<|WL.e e_nil<|WL.e (e_fa f89_2)<|WL.e (e_load a87) ?_
 refine WL.h (h_call (BKeys_spec (m:=mb)) k67 ?_)
 intro b
 refine WL.h (h_call (BSortedU_spec (b:=b) (m:=mb) (ts:=s.txs) hn) k66 ?_)
 intro a1 n1 c1 ys h1 h2
 refine WL.h (h_call (ClipU_spec) k65 ?_)
 intro a2 n2 c2
 refine WL.e e_assign<|WL.next<|WP.ret<|PO.cls (A:=Bs p dp (s)) (B:=[cl p 89 [.pointer (some ⟨lp,0,none⟩),.pointer (some ⟨pp,0,none⟩),.map (some mb)],cl lp 147 [.pointer (some ⟨dp,0,none⟩),.int .i64 s.at_],Dk dp s.d,Pa pp s.H s.trim,Mp eU32 (.map (some mb)) (List.map kvU s.txs)]) (fun S h=>⟨(lp,pp,mb),h⟩) ?_
 exact PO.fin Tryz.results22 (rv_tmp rv_nil) (hK a2 n2 c2 ys h1 h2)
end Go.SL
set_option linter.unusedSectionVars false
namespace Go.SL
open Go
def Ge (A B:HP):Prop:=∀ S,B S→∃ S1,le S1 S∧A S1
theorem Ge.refl (A:HP):Ge A A:=fun S h=>⟨S,le_refl S,h⟩
theorem Ge.trans {A B C:HP} (h:Ge A B) (h':Ge B C):Ge A C:=fun S hS=>by
  obtain ⟨S1,h1,h2⟩:=h' S hS
  obtain ⟨S2,h3,h4⟩:=h S1 h2
  exact ⟨S2,le_trans h3 h1,h4⟩
theorem Ge.one {A:HP} {L:List HP}:Ge A (bun (A::L)):=fun S h=>by
  obtain ⟨S1,S2,_,h1,_,h2,_⟩:=h
  exact ⟨S1,h1,h2⟩
theorem Ge.two {A B:HP} {L:List HP}:Ge B (bun (A::B::L)):=fun S h=>by
  obtain ⟨S1,S2,_,_,h1,_,S3,S4,_,h2,_,h3,_⟩:=h
  exact ⟨S3,le_trans h2 h1,h3⟩
theorem RdS.le {S T:Piece} {z n:Nat} {u:Value} {cs:List Value} (h:RdS S z u n cs) (hl:SL.le S T):RdS T z u n cs:=by
  rcases h with h | ⟨b,o,c,l,t,h1,h2,h3,h4⟩
  · exact .inl h
  · exact .inr ⟨b,o,c,l,t,h1,h2,hl _ _ h3,h4⟩
theorem Rd.ge {A B:HP} {z n:Nat} {u:Value} {cs:List Value} (h:Rd A z u n cs) (hg:Ge A B):Rd B z u n cs:=fun S hS=>by
  obtain ⟨S1,h1,h2⟩:=hg S hS
  exact (h S1 h2).le h1
theorem RL.ge {α:Type} {A B:HP} {z:Nat} {enc:α→List Value} {u:Value} {xs:List α} (h:RL A z enc u xs) (hg:Ge A B):RL B z enc u xs:=Rd.ge h hg
def Gr {α:Type} (E z:Nat) (enc:α→List Value) (l:Value) (ws:List α) (u:Value) (xs:List α):HP:=fun S=>
  (Sl E z enc u xs S∧∃ a c,u=.slice a xs.length c∧l=.slice a ws.length c∧ws=xs.take ws.length∧ws.length≤xs.length)∨stars [Sl E z enc u xs,Sl E z enc l ws] S
section
variable {α : Type} {E z : Nat} {enc : α → List Value} {l u : Value} {ws xs : List α}
theorem own_len {n:Nat} {cs:List Value} {a:Option Addr} {m c:Nat} {S:Piece} (h:Own E z (.slice a m c) n cs S):m=n:=by
  rcases h with ⟨rfl,_,a',e⟩ | ⟨b,o,c',l,e,_⟩ <;> cases e <;> rfl
theorem Gr_in {a:Option Addr} {m c:Nat} {S:Piece} (h:Sl E z enc (.slice a m c) ws S):Gr E z enc (.slice a m c) ws (.slice a m c) ws S:=by
  have e:=own_len h
  exact .inl ⟨h,a,c,by rw [e],by rw [e],by simp,Nat.le_refl _⟩
theorem Gr_u:RL (Gr E z enc l ws u xs) z enc u xs:=fun S h=>by
  rcases h with ⟨h,_⟩ | ⟨S1,_,_,h1,_,h2,_⟩
  · exact sl_rl S h
  · exact (sl_rl S1 h2).le h1
theorem own_pre (he:EncOk z enc) {a:Option Addr} {m c:Nat} (hm:m≤xs.length) {S:Piece} (h:Sl E z enc (.slice a xs.length c) xs S):Sl E z enc (.slice a m c) (xs.take m) S:=by
  unfold Sl at h ⊢
  have hl:(xs.take m).length=m:=by simp;omega
  rcases h with ⟨h1,h2,a',e⟩ | ⟨b,o,c',l,e,h1,h2,h3,h4,h5⟩
  · obtain rfl:xs=[]:=List.length_eq_zero_iff.1 h1
    obtain rfl:m=0:=by simpa using hm
    cases e
    exact .inl ⟨by simp,by simp,_,rfl⟩
  · cases e
    refine .inr ⟨b,o,c,l,by rw [hl],by omega,h2,h3,h4,?_⟩
    rw [hl,← flat_take he,h5,List.take_take,Nat.min_eq_left (Nat.mul_le_mul_right z hm)]
theorem Gr_l (he:EncOk z enc):RL (Gr E z enc l ws u xs) z enc l ws:=fun S h=>by
  rcases h with ⟨h,a,c,rfl,rfl,h1,h2⟩ | ⟨_,S2,_,_,h1,_,S3,_,_,h2,_,h3,_⟩
  · have:=own_pre he h2 h
    rw [← h1] at this
    exact sl_rl S this
  · exact (sl_rl S3 h3).le (le_trans h2 h1)
end
section
variable {P : Program} {r : Option Nat} {g : World} {Γ : Env} {L M : List HP} {A : HP} {dst : Option Tmp} {t : TypeId} {pos : String} {aft : Array Edge} {gd : Option (Nat × Bool)}
theorem run_append2 {T T2 E z y n k:Nat} {u v:Value} {cs ds:List Value} {zs:List Value} {R:List HP} {w:World} (hs:slOf P T=some (E,z,y)) (h2:∃ d,P.underlying T2=some d∧∀ q,d≠.int q) (hz:zeroOf P E=some zs) (hzz:zs.length=z)
    (hw:Sat g L w) (p1:Pick L (Own E z u n cs) R) (hlen:(Builtin.lenOf v).run P w=.ok k w) (hdsd:∀ d,(Builtin.firstCells z k v).run P { w with drawn:=d }=.ok ds.toArray { w with drawn:=d }) (hdl:ds.length=k * z) (h1:ones ds=true) (hz0:0 < z) (hb:n+k≤68719476736) (hy:y≤512) :
    ∃ u' w',(Builtin.append_ #[T,T2] t #[u,v]).run P w=.ok u' w'∧((Sat g (Own E z u' (n+k) (cs++ds)::R) w'∧∃ a c,u=.slice a n c∧u'=.slice a (n+k) c)∨Sat g (Own E z u' (n+k) (cs++ds)::Own E z u n cs::R) w'):=by
  have hds:(Builtin.firstCells z k v).run P w=.ok ds.toArray w:=hdsd w.drawn
  unfold slOf at hs
  split at hs
  case h_2=>cases hs
  case h_1 hu=>
  simp only [Option.map_eq_some_iff] at hs
  obtain ⟨inf,hinf,hs⟩:=hs
  cases hs
  have hsz:szOf P E=some inf.size:=by simp [szOf,hinf]
  obtain ⟨d2,hd2,hni⟩:=h2
  have hown:=hw.rd p1 own_rd
  have hshape:∃ a c,u=.slice a n c∧n≤c∧(Builtin.firstCells inf.size n u).run P w=.ok cs.toArray w:=by
    have hr:=(hown.read (P:=P)).2
    rcases hown with ⟨rfl,_,a,c,rfl⟩ | ⟨b,o,c,l,t,rfl,hn,_⟩
    · exact ⟨a,c,rfl,Nat.zero_le _,hr⟩
    · exact ⟨_,c,rfl,hn,hr⟩
  obtain ⟨S1,S2,hd,l1,l2,hOw,hR⟩:=p1.to hw.heap
  by_cases hfit:∃ b o c l,u=.slice (some ⟨b,o,none⟩) n c∧n+k≤c∧c < 9223372036854775808∧S1 b=some (.cells (List.toArray l) E (0,0))∧o+c * inf.size≤l.length∧cs=(l.drop o).take (n * inf.size)
  · 
    obtain ⟨b,o,c,l,rfl,hnk,hc,hS,hl,rfl⟩:=hfit
    have hm1:(n+k) * inf.size≤c * inf.size:=Nat.mul_le_mul_right _ hnk
    rw [Nat.add_mul] at hm1
    obtain ⟨w',hr,a1,a2,a3,a4,a5,a6⟩:=run_storeCells (P:=P) (T:=E) ds 0 (o+n * inf.size) l w (l1 _ _ hS) (by rw [Nat.add_zero];omega) (ones_ok h1)
    rw [Nat.add_zero] at a5
    refine ⟨.slice (some ⟨b,o,none⟩) (n+k) c,w',?_,.inl ⟨?_,_,_,rfl,rfl⟩⟩
    · simp only [Builtin.append_,List.getElem?_toArray,List.getElem?_cons_zero,List.getElem?_cons_succ,Sem.run_bind,run_underlying hu,Result.andThen_ok,run_sizeOf hsz,run_underlying hd2]
      simp [hlen,hnk,hds,add_none,hr]
    · refine ⟨a1.trans hw.os,a2.trans hw.tape,a3.trans hw.output,a4 ▸ hw.size,?_⟩
      have hS2:S2 b=none:=by
        rcases hd b with h0 | h0
        · rw [hS] at h0;cases h0
        · exact h0
      refine ⟨fun i=>if i=b then some (.cells (splice l (o+n * inf.size) ds).toArray E (0,0)) else none,S2,fun i=>?_,fun i x hx=>?_,fun i x hx=>?_,.inr ⟨b,o,c,splice l (o+n * inf.size) ds,rfl,hnk,hc,by simp,?_,?_⟩,hR⟩
      · by_cases hi:i=b
        · subst hi;exact .inr hS2
        · left;simp [hi]
      · by_cases hi:i=b
        · subst hi;simp at hx;subst hx;exact a5
        · simp [hi] at hx
      · have hi:i≠b:=fun e=>by subst e;rw [hS2] at hx;cases hx
        show w'.heap[i]?=some x
        rw [a6 i hi];exact l2 i x hx
      · rw [splice_len _ _ _ (by omega)];exact hl
      · apply List.ext_getElem?
        intro i
        rw [td_get,splice_get _ _ _ (by omega),List.getElem?_append]
        simp only [List.length_take,List.length_drop]
        rw [Nat.min_eq_left (show n * inf.size≤l.length - o by omega),Nat.add_mul]
        by_cases hi:i < n * inf.size
        · rw [if_pos hi,if_pos (show i < n * inf.size+k * inf.size by omega),if_pos (show o+i < o+n * inf.size by omega),td_get,if_pos hi]
        · rw [if_neg hi,if_neg (show ¬ o+i < o+n * inf.size by omega)]
          by_cases h2:i < n * inf.size+k * inf.size
          · rw [if_pos h2,if_pos (show o+i < o+n * inf.size+ds.length by omega)];congr 1;omega
          · rw [if_neg h2,List.getElem?_eq_none (by omega)]
  · obtain ⟨a,c,rfl,hnc,hcs⟩:=hshape
    by_cases hk:n+k≤c
    · 
      have h0:n=0∧k=0∧cs=[]∧c=0:=by
        rcases hOw with ⟨rfl,rfl,a',e⟩ | ⟨b,o,c',l,e,h3,h4,h5,h6,h7⟩
        · cases e;exact ⟨rfl,by omega,rfl,rfl⟩
        · cases e;exact absurd ⟨b,o,c,l,rfl,hk,h4,h5,h6,h7⟩ hfit
      obtain ⟨rfl,rfl,rfl,rfl⟩:=h0
      have hd0:ds=[]:=by cases ds with
        | nil=>rfl
        | cons x l=>simp at hdl
      subst hd0
      refine ⟨.slice a 0 0,w,?_,.inl ⟨hw.conv fun S hS=>p1.to hS,_,_,rfl,rfl⟩⟩
      simp only [Builtin.append_,List.getElem?_toArray,List.getElem?_cons_zero,List.getElem?_cons_succ,Sem.run_bind,run_underlying hu,Result.andThen_ok,run_sizeOf hsz,run_underlying hd2]
      cases a <;> simp [hlen,hds,storeCells]
    · 
      have hkc:c < n+k:=by omega
      have hnext:=nextcap_le hkc
      unfold zeroOf at hz
      cases hzi:(P.info? E).bind (·.zero) with
      | none=>rw [hzi] at hz;cases hz
      | some zv=>
      rw [hzi] at hz
      simp at hz
      have hz':zv.cells=zs.toArray:=by rw [← hz]
      have hmul:Builtin.nextslicecap (n+k) c * inf.bytes≤(2 * (n+k)+192) * 512:=Nat.mul_le_mul hnext hy
      let q:Question:=.appendCap (n+k) c E
      let nc:=q.cut (w.tape w.drawn q)
      have hnc2:nc=n+k+(w.tape w.drawn q) % (2 ^ 63 - (n+k)):=rfl
      have hlt:(w.tape w.drawn q) % (2 ^ 63 - (n+k)) < 2 ^ 63 - (n+k):=Nat.mod_lt _ (by omega)
      let row:=(cs++ds++(Builtin.zeroCells zs.toArray (nc - (n+k))).toList)
      have hcl:cs.length=n * inf.size:=hown.len
      refine ⟨.slice (some ⟨w.heap.size,0,none⟩) (n+k) nc,w.drew.alloc (.cells row.toArray E (0,0)),?_,.inr ?_⟩
      · simp only [Builtin.append_,List.getElem?_toArray,List.getElem?_cons_zero,List.getElem?_cons_succ,Sem.run_bind,run_underlying hu,Result.andThen_ok,run_sizeOf hsz,run_underlying hd2]
        have e1:¬ (9223372036854775807 < (n:Int)+k∧inf.bytes=0):=by omega
        have e2:¬ 2 ^ 48 < Builtin.nextslicecap (n+k) c * inf.bytes:=by omega
        have hcs':(Builtin.firstCells inf.size n (.slice a n c)).run P w.drew=.ok cs.toArray w.drew:=by
          have:RdS (heapOf w.drew) inf.size (.slice a n c) n cs:=hown
          exact (this.read (P:=P)).2
        have hds':(Builtin.firstCells inf.size k v).run P w.drew=.ok ds.toArray w.drew:=hdsd (w.drawn+1)
        have e3:¬ n+k≤c:=hk
        simp [hlen,e3,e1,e2,run_typeInfo hinf,Question.forced,hcs',hds',run_zeroValue hzi,newRow,hz',row,nc,q]
        congr 2;apply Array.ext';simp
      · have h:=(hw.draw (w.drawn+1)).conv fun S hS=>p1.to hS
        have h':=h.push (.cells row.toArray E (0,0))
        obtain ⟨T1,T2,hd',m1,m2,hA1,hA2⟩:=h'.heap
        refine ⟨h'.os,h'.tape,h'.output,h'.size,T1,T2,hd',m1,m2,.inr ⟨w.heap.size,0,nc,row,rfl,by omega,by omega,hA1,?_,?_⟩,hA2⟩
        · simp only [row,List.length_append,Array.length_toList,mod_arr_len,List.size_toArray,hcl,hdl,hzz]
          rw [Nat.zero_add,← Nat.add_mul,← Nat.add_mul]
          exact Nat.mul_le_mul_right _ (by omega)
        · rw [List.drop_zero]
          simp only [row]
          rw [List.take_append_of_le_length (by simp [hcl,hdl,Nat.add_mul]),List.take_of_length_le (by simp [hcl,hdl,Nat.add_mul])]
variable {α : Type} {enc : α → List Value}
theorem gr_step {E z:Nat} (he:EncOk z enc) {l u u':Value} {ws xs ys:List α} {R:List HP} {w w':World} (hb:xs.length+ys.length≤68719476736)
    (hrun:∀ R':List HP,Sat g (Sl E z enc u xs::R') w→(Sat g (Sl E z enc u' (xs++ys)::R') w'∧∃ a c,u=.slice a xs.length c∧u'=.slice a (xs.length+ys.length) c)∨Sat g (Sl E z enc u' (xs++ys)::Sl E z enc u xs::R') w')
    (hw:Sat g (Gr E z enc l ws u xs::R) w):Sat g (Gr E z enc l ws u' (xs++ys)::R) w':=by
  obtain ⟨S1,S2,hd,l1,l2,hG,hR⟩:=hw.heap
  rcases hG with ⟨hA,a,c,hu,hl,hws,hle⟩ | hB
  · have h1:Sat g (Sl E z enc u xs::R) w:=⟨hw.os,hw.tape,hw.output,hw.size,S1,S2,hd,l1,l2,hA,hR⟩
    rcases hrun R h1 with ⟨h2,a',c',e1,e2⟩ | h2
    · rw [hu] at e1
      cases e1
      obtain ⟨T1,T2,hd',m1,m2,hA',hR'⟩:=h2.heap
      refine ⟨h2.os,h2.tape,h2.output,h2.size,T1,T2,hd',m1,m2,.inl ⟨hA',a,c,?_,hl,?_,?_⟩,hR'⟩
      · rw [e2,List.length_append]
      · rw [List.take_append_of_le_length hle];exact hws
      · rw [List.length_append];omega
    · refine h2.conv fun S hS=>?_
      have hS2:stars (Sl E z enc u' (xs++ys)::Sl E z enc l ws::R) S:=by
        refine stars_cons (fun T hT=>?_) hS
        obtain ⟨T1,T2,a1,a2,a3,a4,a5⟩:=hT
        refine ⟨T1,T2,a1,a2,a3,?_,a5⟩
        rw [hu] at a4
        have:=own_pre (m:=ws.length) he hle a4
        rw [← hws,← hl] at this
        exact this
      have h3:=bun_stars (L:=[Sl E z enc u' (xs++ys),Sl E z enc l ws]) (M:=R) hS2
      obtain ⟨T1,T2,a1,a2,a3,a4,a5⟩:=h3
      exact ⟨T1,T2,a1,a2,a3,.inr a4,a5⟩
  · have h1:Sat g (Sl E z enc u xs::Sl E z enc l ws::R) w:=by
      refine ⟨hw.os,hw.tape,hw.output,hw.size,?_⟩
      exact stars_bun (L:=[Sl E z enc u xs,Sl E z enc l ws]) ⟨S1,S2,hd,l1,l2,hB,hR⟩
    have h2:Sat g (Sl E z enc u' (xs++ys)::Sl E z enc l ws::R) w':=by
      rcases hrun _ h1 with ⟨h2,_⟩ | h2
      · exact h2
      · exact h2.conv fun S hS=>stars_cons (fun T hT=>stars_tail hT) hS
    refine h2.conv fun S hS=>?_
    have h3:=bun_stars (L:=[Sl E z enc u' (xs++ys),Sl E z enc l ws]) (M:=R) hS
    obtain ⟨T1,T2,a1,a2,a3,a4,a5⟩:=h3
    exact ⟨T1,T2,a1,a2,a3,.inr a4,a5⟩
theorem Gr_shape {E z:Nat} {l u:Value} {ws xs:List α} {S:Piece} (h:Gr E z enc l ws u xs S):∃ a m c,u=.slice a m c:=by
  rcases h with ⟨h,_⟩ | ⟨_,_,_,_,_,h,_⟩ <;> exact own_shape h
theorem hl_append_gr {T E z y:Nat} {x xv:Operand} {l u v:Value} {ws xs ys:List α} {zs:List Value} {R N:List HP} {B:HP} {K:Value→List HP→Prop} (hs:slOf P T=some (E,z,y)) (he:EncOk z enc) (hz:zeroOf P E=some zs) (hB:RL B z enc v ys) (hb:xs.length+ys.length≤68719476736)
    (hK:∀ a m c,K (.slice a m c) (Gr E z enc l ws (.slice a m c) (xs++ys)::R)) (hzz:zs.length=z:=by rfl) (hz0:0 < z:=by decide) (hy:y≤512:=by decide)
    (hx:ev Γ x=some u:=by rfl) (hv:ev Γ xv=some v:=by rfl) (p1:Pick L (Gr E z enc l ws u xs) R:=by repeat first | exact .z | apply Pick.s) (p2:Pick L B N:=by repeat first | exact .z | apply Pick.s):HO P r g ⟨dst,.call ⟨.builtin .append,#[x,xv],#[T,T]⟩,t,pos,aft,gd⟩ Γ L K:=by
  have h0:HO P r g ⟨dst,.call ⟨.builtin .append,#[x,xv],#[T,T]⟩,t,pos,aft,gd⟩ Γ L (fun v M=>M=Gr E z enc l ws v (xs++ys)::R):=
    HO.run (by simp) fun a w ha hw=>by
      have hr:∀ d,_:=fun d=>((hw.draw d).rd p2 hB).read (P:=P)
      have key:∃ u' w',(Builtin.append_ #[T,T] t #[u,v]).run P w=.ok u' w'∧∀ R':List HP,Sat g (Sl E z enc u xs::R') w→(Sat g (Sl E z enc u' (xs++ys)::R') w'∧∃ a c,u=.slice a xs.length c∧u'=.slice a (xs.length+ys.length) c)∨Sat g (Sl E z enc u' (xs++ys)::Sl E z enc u xs::R') w':=by
        have step:∀ R':List HP,Sat g (Sl E z enc u xs::R') w→∃ u' w',(Builtin.append_ #[T,T] t #[u,v]).run P w=.ok u' w'∧((Sat g (Sl E z enc u' (xs++ys)::R') w'∧∃ a c,u=.slice a xs.length c∧u'=.slice a (xs.length+ys.length) c)∨Sat g (Sl E z enc u' (xs++ys)::Sl E z enc u xs::R') w'):=fun R' h=>by
          have:=run_append2 (t:=t) (ds:=ys.flatMap enc) (k:=ys.length) hs (notInt_sl hs) hz hzz h .z (((hw.rd p2 hB).read (P:=P)).1) (fun d=>(hr d).2) (flat_len he ys) (ones_flat he ys) hz0 hb hy
          unfold Sl
          rw [List.length_append,List.flatMap_append]
          exact this
        obtain ⟨S1,S2,hd,l1,l2,hG,hR⟩:=p1.to hw.heap
        have h1:∃ R',Sat g (Sl E z enc u xs::R') w:=by
          rcases hG with ⟨hA,_⟩ | hB'
          · exact ⟨R,hw.os,hw.tape,hw.output,hw.size,S1,S2,hd,l1,l2,hA,hR⟩
          · exact ⟨_,hw.os,hw.tape,hw.output,hw.size,stars_bun (L:=[Sl E z enc u xs,Sl E z enc l ws]) ⟨S1,S2,hd,l1,l2,hB',hR⟩⟩
        obtain ⟨R1,h1⟩:=h1
        obtain ⟨u',w',e,_⟩:=step R1 h1
        refine ⟨u',w',e,fun R' h=>?_⟩
        obtain ⟨u2,w2,e2,h2⟩:=step R' h
        rw [e] at e2
        cases e2
        exact h2
      obtain ⟨u',w',hrun,hst⟩:=key
      refine ⟨u',_,w',?_,rfl,gr_step he hb hst (hw.conv fun S hS=>p1.to hS)⟩
      have hm:(#[x,xv]:Array Operand).map a.eval=#[u,v]:=by simp [ev_ok hx ha,ev_ok hv ha]
      show (do let d ← resolve a.eval ⟨.builtin .append,#[x,xv],#[T,T]⟩ t;invoke d.target d.args:Sem Next).run P w=_
      simp only [resolve,hm,Sem.run_bind,Sem.run_pure,Result.andThen_ok,invoke,builtin,hrun]
  refine HO.sat h0 fun v M w hM hw=>?_
  subst hM
  obtain ⟨S1,S2,_,_,_,h1,_⟩:=hw.heap
  obtain ⟨a,m,c,rfl⟩:=Gr_shape h1
  exact hK a m c
end
end Go.SL
namespace Go.SL
open Go Go.Proofs Go.Sort Go.Shelf
def Tab (P:Program) (A:HP):Prop:=∀ (S:Piece) (w:World),A S→le S (heapOf w)→Lib.TabIs P w "internal/strconv.uint64pow10" .u64 Lib.pow10Tab
theorem sat_grow {g w:World} {L:List HP} (h:Sat g L w) (os:Array Obj):Sat g L (grow w os):=
  ⟨h.os,h.tape,h.output,by have:=h.size;simp [grow];omega,stars_le h.heap fun b o hb=>by
    have hlt:b < w.heap.size:=by
      rcases Nat.lt_or_ge b w.heap.size with h' | h'
      · exact h'
      · simp [heapOf,Array.getElem?_eq_none h'] at hb
    show (w.heap++os)[b]?=some o
    rw [Array.getElem?_append_left hlt];exact hb⟩
def itoaB (n:Nat):ByteArray:=⟨(Lib.itoa (n:Int)).toArray⟩
theorem itoa_spec {P:Program} {ρ:Ren} {g:World} (La:LaysM.n171 P ρ) {A:HP} (hT:Tab P A) (n:Nat) (hn:n≤9223372036854775807):Spec P g (ρ.f 171) [.int .i64 n] [A] fun K R=>K (.string (itoaB n)) (A::R):=by
  intro R K w hw hK
  obtain ⟨S1,S2,_,l1,_,hA,_⟩:=hw.heap
  refine (Any.strconv_Itoa La (n:Int) (by omega) (by omega) w (hT S1 w hA l1)).mono ?_
  rintro e w' ⟨rfl,k,os,rfl⟩
  exact ⟨_,_,rfl,hK,sat_grow (hw.draw _) os⟩
def Mb {α:Type} (F:α→HP) (hs:List α):HP:=bun (hs.map F)
theorem Mb_nil {α:Type} {F:α→HP} {L:List HP} {S:Piece} (h:stars L S):stars (Mb F []::L) S:=bun_stars (L:=[]) h
theorem Mb_out {α:Type} {F:α→HP} {hs A B:List α} {x:α} (h:hs=A++x::B):∀ S,Mb F hs S→∃ _:Unit,stars [F x,Mb F (A++B)] S:=fun S hS=>by
  subst h
  have hS:stars ((A++x::B).map F) S:=hS
  rw [List.map_append,List.map_cons] at hS
  obtain ⟨S1,S2,a,b,c,d,e⟩:=stars_unmove hS
  refine ⟨(),S1,S2,a,b,c,d,?_⟩
  rw [Mb,List.map_append]
  exact bun_stars (M:=[]) (S:=S2) (by simpa using e)
theorem Mb_in {α:Type} {F:α→HP} {A B:List α} {x:α}:∀ S,stars [F x,Mb F (A++B)] S→Mb F (A++x::B) S:=fun S hS=>by
  show stars ((A++x::B).map F) S
  rw [List.map_append,List.map_cons]
  refine stars_move ?_
  obtain ⟨S1,S2,a,b,c,d,e⟩:=hS
  refine ⟨S1,S2,a,b,c,d,?_⟩
  rw [Mb,List.map_append] at e
  have:=stars_bun (M:=[]) e
  simpa using this
end Go.SL
namespace Go.SL
open Go
theorem ba_get (a:ByteArray) (i:Nat):a.toList[i]?=a[i]?:=by
  rw [ByteArray.toList_eq]
  obtain ⟨⟨l⟩⟩:=a
  by_cases h:i < l.length
  · rw [getElem?_pos (⟨⟨l⟩⟩:ByteArray) i (by simpa [ByteArray.size] using h)]
    rw [List.getElem?_eq_getElem h];rfl
  · rw [getElem?_neg (⟨⟨l⟩⟩:ByteArray) i (by simpa [ByteArray.size] using h)]
    exact List.getElem?_eq_none (Nat.le_of_not_lt h)
theorem ba_size (a:ByteArray):a.toList.length=a.size:=by
  rw [ByteArray.toList_eq]
  obtain ⟨⟨l⟩⟩:=a
  rfl
theorem less_skip:∀ (i:Nat) (l m:List UInt8),l.take i=m.take i→i≤l.length→i≤m.length→Op.bytesLess l m=Op.bytesLess (l.drop i) (m.drop i)
  | 0,l,m,_,_,_=>by simp
  | i+1,[],m,_,h,_=>by simp at h
  | i+1,_::_,[],_,_,h=>by simp at h
  | i+1,x::l,y::m,h,h1,h2=>by
    simp only [List.take_succ_cons,List.cons.injEq] at h
    obtain ⟨rfl,h⟩:=h
    rw [List.drop_succ_cons,List.drop_succ_cons,← less_skip i l m h (by simpa using h1) (by simpa using h2)]
    have:¬ x < x:=by rw [UInt8.lt_iff_toNat_lt];omega
    simp [Op.bytesLess,this]
theorem less_at {a b:ByteArray} {i:Nat} {x y:UInt8} (h:a.toList.take i=b.toList.take i) (hx:a[i]?=some x) (hy:b[i]?=some y) (hne:x≠y):sLt a b=decide (x < y):=by
  rw [← ba_get] at hx hy
  have h1:=(List.getElem?_eq_some_iff.1 hx).1
  have h2:=(List.getElem?_eq_some_iff.1 hy).1
  unfold sLt
  rw [less_skip i _ _ h (by omega) (by omega),List.drop_eq_getElem_cons h1,List.drop_eq_getElem_cons h2]
  rw [(List.getElem?_eq_some_iff.1 hx).2,(List.getElem?_eq_some_iff.1 hy).2]
  have hne':(x == y)=false:=by simpa using hne
  simp [Op.bytesLess,hne']
theorem less_end {a b:ByteArray} {i:Nat} (h:a.toList.take i=b.toList.take i) (h1:i≤a.size) (h2:i≤b.size) (he:a.size=i∨b.size=i):sLt a b=decide (a.size < b.size):=by
  unfold sLt
  rw [less_skip i _ _ h (by rw [ba_size];exact h1) (by rw [ba_size];exact h2)]
  rcases he with e | e
  · rw [List.drop_of_length_le (by rw [ba_size];omega)]
    cases hd:b.toList.drop i with
    | nil=>have:=congrArg List.length hd;rw [List.length_drop,ba_size] at this;simp at this;simp [Op.bytesLess];omega
    | cons y m=>have:=congrArg List.length hd;rw [List.length_drop,ba_size] at this;simp at this;simp [Op.bytesLess];omega
  · rw [show b.toList.drop i=[] from List.drop_of_length_le (by rw [ba_size];omega)]
    have:¬ a.size < b.size:=by omega
    cases a.toList.drop i <;> simp [Op.bytesLess,this]
theorem take_step {a b:ByteArray} {i:Nat} {x:UInt8} (h:a.toList.take i=b.toList.take i) (hx:a[i]?=some x) (hy:b[i]?=some x):a.toList.take (i+1)=b.toList.take (i+1):=by
  rw [← ba_get] at hx hy
  rw [List.take_add_one,List.take_add_one,h,hx,hy]
def keyByte (c:UInt8):Bool:=(decide (97≤c) && decide (c≤122)) || (decide (48≤c) && decide (c≤57)) || c == 95
theorem keyByte_rune {c:UInt8}:keyRune (c.toNat:Int)=keyByte c:=by
  unfold keyRune keyByte
  have e:((c.toNat:Int) == 95)=(c == 95):=by
    rw [Bool.eq_iff_iff]
    simp only [beq_iff_eq]
    rw [← UInt8.toNat_inj]
    show (c.toNat:Int)=95↔c.toNat=95
    omega
  rw [e]
  simp only [UInt8.le_iff_toNat_le]
  congr 1
  rw [Bool.eq_iff_iff]
  simp only [Bool.or_eq_true,Bool.and_eq_true,decide_eq_true_eq]
  show (((c.toNat:Int)≥97∧(c.toNat:Int)≤122)∨((c.toNat:Int)≥48∧(c.toNat:Int)≤57))↔((97≤c.toNat∧c.toNat≤122)∨(48≤c.toNat∧c.toNat≤57))
  omega
theorem rune_high {r:Nat} (h:128≤r):keyRune (r:Int)=false:=by
  unfold keyRune
  rw [Bool.eq_false_iff]
  intro e
  simp only [Bool.or_eq_true,Bool.and_eq_true,decide_eq_true_eq,beq_iff_eq] at e
  omega
theorem byte_high {c:UInt8} (h:128≤c.toNat):keyByte c=false:=by
  rw [← keyByte_rune];exact rune_high h
theorem allFrom_bytes (s:ByteArray):∀ (k i:Nat),s.size≤i+k→allFrom keyRune s k i=(s.toList.drop i).all keyByte
  | 0,i,h=>by
    rw [List.drop_of_length_le (by rw [ba_size];omega)];rfl
  | k+1,i,h=>by
    unfold allFrom
    by_cases hi:i < s.size
    · rw [if_pos hi]
      have hl:i < s.toList.length:=by rw [ba_size];exact hi
      rw [List.drop_eq_getElem_cons hl,List.all_cons]
      have hc:s.toList[i]=s[i]'hi:=by
        have:=ba_get s i
        rw [List.getElem?_eq_getElem hl,getElem?_pos s i hi] at this
        exact Option.some.inj this
      rw [hc]
      by_cases ha:(s[i]'hi).toNat < 128
      · rw [decode_ascii s i hi ha,keyByte_rune,allFrom_bytes s k (i+1) (by omega)]
      · have hh:=decode_high s i hi (by omega)
        rw [rune_high hh.1,byte_high (by omega)]
        rfl
    · rw [if_neg hi,List.drop_of_length_le (by rw [ba_size];omega)];rfl
theorem keyOk_bytes (s:ByteArray):keyOk s=(decide (1≤s.size) && decide (s.size≤16) && s.toList.all keyByte):=by
  unfold keyOk allR
  rw [allFrom_bytes s s.size 0 (by omega),List.drop_zero]
  congr 1
  have e1:sEq s ⟨#[]⟩=decide (s.size=0):=by
    rw [Bool.eq_iff_iff,decide_eq_true_eq]
    unfold sEq
    rw [beq_iff_eq,← ba_size s]
    show s.toList=(⟨#[]⟩:ByteArray).toList↔_
    rw [ByteArray.toList_eq ⟨#[]⟩]
    show s.toList=[]↔_
    exact List.length_eq_zero_iff.symm
  rw [e1]
  rw [Bool.eq_iff_iff]
  simp only [Bool.and_eq_true,Bool.not_eq_true',decide_eq_false_iff_not,decide_eq_true_eq]
  omega
theorem all_step {s:ByteArray} {i:Nat} {c:UInt8} (h:(s.toList.take i).all keyByte=true) (hc:s[i]?=some c) (hk:keyByte c=true):(s.toList.take (i+1)).all keyByte=true:=by
  rw [← ba_get] at hc
  rw [List.take_add_one,hc,List.all_append,h]
  simp [hk]
theorem all_bad {s:ByteArray} {i:Nat} {c:UInt8} (hc:s[i]?=some c) (hk:keyByte c=false):keyOk s=false:=by
  rw [← ba_get] at hc
  rw [keyOk_bytes]
  have:s.toList.all keyByte=false:=by
    rw [List.all_eq_false]
    exact ⟨c,List.mem_of_getElem? hc,by rw [hk];decide⟩
  rw [this,Bool.and_false]
theorem all_done {s:ByteArray} {i:Nat} (h:(s.toList.take i).all keyByte=true) (hi:s.size≤i):keyOk s=(decide (1≤s.size) && decide (s.size≤16)):=by
  rw [List.take_of_length_le (by rw [ba_size];exact hi)] at h
  rw [keyOk_bytes,h,Bool.and_true]
theorem sIn_lt (k a b:ByteArray):sIn k a b=(!sLt k a && !sLt b k):=by
  rw [Bool.eq_iff_iff,sIn_iff]
  simp
def hasS (a:SpanM):Bool:=!sLt a.b a.a
theorem meet_ref (a b:SpanM):(hasS a && hasS b && (sIn a.a b.a b.b || sIn b.a a.a a.b))=meet a b:=by
  unfold meet hasS
  rw [sMax_iff]
  simp only [sIn_lt]
  by_cases h:sLt a.a b.a=true
  · rw [if_pos h]
    have h2:=sLt_asymm h
    simp only [h,h2,sLt_irrefl,Bool.not_true,Bool.not_false,Bool.false_and,Bool.false_or,Bool.true_and,Bool.and_true]
    cases h3:sLt a.b b.a with
    | true=>simp
    | false=>
      have h4:sLt a.b a.a=false:=by
        cases h5:sLt a.b a.a with
        | false=>rfl
        | true=>
          rw [sLt_trans h5 h] at h3;cases h3
      simp [h4]
  · have h':sLt a.a b.a=false:=by simpa using h
    rw [if_neg h]
    simp only [h',sLt_irrefl,Bool.not_false,Bool.true_and]
    cases h3:sLt b.b a.a with
    | true=>
      simp only [Bool.not_true,Bool.and_false,Bool.false_or]
      rcases sLt_tri b.a a.a with h4 | h4 | h4
      · rw [h4];simp
      · rw [h4,sLt_irrefl,h3];simp
      · rw [h4] at h';cases h'
    | false=>
      have h4:sLt b.b b.a=false:=by
        cases h5:sLt b.b b.a with
        | false=>rfl
        | true=>
          rcases sLt_tri b.a a.a with h6 | h6 | h6
          · rw [sLt_trans h5 h6] at h3;cases h3
          · rw [← h6,h5] at h3;cases h3
          · rw [h6] at h';cases h'
      simp [h4]
theorem kb_letter {c:UInt8} (h:(decide ((c.toNat:Int) < 97) || decide ((c.toNat:Int) > 122))=false):keyByte c=true:=by
  rw [← keyByte_rune];unfold keyRune
  simp only [Bool.or_eq_false_iff,decide_eq_false_iff_not] at h
  simp only [Bool.or_eq_true,Bool.and_eq_true,decide_eq_true_eq]
  omega
theorem kb_digit {c:UInt8} (h:(decide ((c.toNat:Int) < 48) || decide ((c.toNat:Int) > 57))=false):keyByte c=true:=by
  rw [← keyByte_rune];unfold keyRune
  simp only [Bool.or_eq_false_iff,decide_eq_false_iff_not] at h
  simp only [Bool.or_eq_true,Bool.and_eq_true,decide_eq_true_eq]
  omega
theorem kb_under {c:UInt8} (h:c=95):keyByte c=true:=by subst h;rfl
theorem kb_bad {c:UInt8} (h1:(decide ((c.toNat:Int) < 97) || decide ((c.toNat:Int) > 122))=true) (h2:(decide ((c.toNat:Int) < 48) || decide ((c.toNat:Int) > 57))=true) (h3:c≠95):keyByte c=false:=by
  rw [← keyByte_rune];unfold keyRune
  have h4:(c.toNat:Int)≠95:=fun e=>h3 (UInt8.toNat_inj.1 (by show c.toNat=95;omega))
  simp only [Bool.or_eq_true,decide_eq_true_eq] at h1 h2
  rw [Bool.eq_false_iff]
  intro e
  simp only [Bool.or_eq_true,Bool.and_eq_true,decide_eq_true_eq,beq_iff_eq] at e
  omega
theorem opOk_bad {x:OpM} (h:keyOk x.key=false):opOk x=false:=by simp [opOk,h]
theorem opOk_get {x:OpM} (hk:keyOk x.key=true) (h:x.kind=1∨x.kind=3):opOk x=(sEq x.to ⟨#[]⟩ && x.val == 0):=by
  unfold opOk
  rcases h with h | h <;> simp [h,hk]
theorem opOk_put {x:OpM} (hk:keyOk x.key=true) (h:x.kind=2):opOk x=sEq x.to ⟨#[]⟩:=by
  unfold opOk
  simp [h,hk]
theorem opOk_scan {x:OpM} (hk:keyOk x.key=true) (h:x.kind=4):opOk x=(keyOk x.to && x.val == 0):=by
  unfold opOk
  simp [h,hk]
theorem opOk_none {x:OpM} (h1:x.kind≠1) (h2:x.kind≠2) (h3:x.kind≠3) (h4:x.kind≠4):opOk x=false:=by
  unfold opOk
  rw [Bool.eq_false_iff]
  intro e
  simp only [Bool.and_eq_true,decide_eq_true_eq] at e
  obtain ⟨⟨⟨⟨e1,e2⟩,_⟩,_⟩,_⟩:=e
  have:x.kind.toNat=1∨x.kind.toNat=2∨x.kind.toNat=3∨x.kind.toNat=4:=by omega
  rcases this with h | h | h | h
  · exact h1 (UInt8.toNat_inj.1 h)
  · exact h2 (UInt8.toNat_inj.1 h)
  · exact h3 (UInt8.toNat_inj.1 h)
  · exact h4 (UInt8.toNat_inj.1 h)
end Go.SL
namespace Go.SL
open Go
theorem low_of {l:List RowM} {k:ByteArray} {i:Nat} (hi:i≤l.length) (h1:∀ r ∈ l.take i,sLt r.key k=true) (h2:∀ x,l[i]?=some x→sLt x.key k=false):lowI l k=i:=by
  unfold lowI
  conv=>lhs;rw [← List.take_append_drop i l]
  rw [List.takeWhile_append_of_pos (fun r hr=>h1 r hr),List.length_append,List.length_take_of_le hi]
  cases hd:l.drop i with
  | nil=>simp
  | cons x t=>
    have:l[i]?=some x:=by rw [← List.head?_drop,hd];rfl
    rw [List.takeWhile_cons,h2 x this];simp
theorem has_of {l:List RowM} {k:ByteArray} {i:Nat} {x:RowM} (h:lowI l k=i) (hx:l[i]?=some x):hasI l k=sEq x.key k:=by unfold hasI;rw [h,hx]
theorem has_end {l:List RowM} {k:ByteArray} {i:Nat} (h:lowI l k=i) (hx:l[i]?=none):hasI l k=false:=by unfold hasI;rw [h,hx]
theorem gt_t {a b:ByteArray} (h:(!(sLt a b || sEq a b))=true):sLt b a=true:=by
  simp only [Bool.not_eq_true',Bool.or_eq_false_iff] at h
  rcases sLt_tri a b with e | e | e
  · rw [h.1] at e;cases e
  · rw [sEq_iff.2 e] at h;cases h.2
  · exact e
theorem gt_f {a b:ByteArray} (h:(!(sLt a b || sEq a b))=false):sLt b a=false:=by
  simp only [Bool.not_eq_false',Bool.or_eq_true] at h
  rcases h with h | h
  · exact sLt_asymm h
  · rw [sEq_iff.1 h];exact sLt_irrefl b
theorem find_step {l:List RowM} {k:ByteArray} {i:Nat} {x:RowM} (h:∀ r ∈ l.take i,sLt r.key k=true) (hx:l[i]?=some x) (h1:sEq x.key k=false) (h2:sLt k x.key=false):∀ r ∈ l.take (i+1),sLt r.key k=true:=by
  rw [take_snoc hx]
  intro r hr
  rcases List.mem_append.1 hr with hr | hr
  · exact h r hr
  · simp only [List.mem_singleton] at hr
    subst hr
    rcases sLt_tri r.key k with h3 | h3 | h3
    · exact h3
    · rw [sEq_iff.2 h3] at h1;cases h1
    · rw [h3] at h2;cases h2
theorem setR_has {l:List RowM} {k:ByteArray} (v:UInt32) (h:hasI l k=true):setR l k v=l.take (lowI l k)++[⟨k,v⟩]++l.drop (lowI l k+1):=by
  rw [setR,if_pos h,List.set_eq_take_append_cons_drop,if_pos (has_lt h)];simp
theorem setR_not {l:List RowM} {k:ByteArray} (v:UInt32) (h:hasI l k=false):setR l k v=l.take (lowI l k)++[⟨k,v⟩]++l.drop (lowI l k):=by
  rw [setR,if_neg (by simp [h])];simp
theorem dropR_has {l:List RowM} {k:ByteArray} (h:hasI l k=true):dropR l k=l.take (lowI l k)++l.drop (lowI l k+1):=by
  rw [dropR,if_pos h,List.eraseIdx_eq_take_drop_succ]
theorem dropR_not {l:List RowM} {k:ByteArray} (h:hasI l k=false):dropR l k=l:=by rw [dropR,if_neg (by simp [h])]
theorem scanMore {l:List RowM} {s:SpanM} {most i:Nat} {x:RowM} (hx:l[i]?=some x) (h:inSpan s x.key=true) (hl:(scanR (l.take i) s most).length < most):scanR (l.take (i+1)) s most=scanR (l.take i) s most++[x]:=by
  unfold scanR at hl ⊢
  rw [take_snoc hx,List.filter_append,List.filter_cons,if_pos h,List.filter_nil]
  rw [List.length_take] at hl
  rw [List.take_of_length_le (l:=List.filter _ (l.take i)) (by omega),List.take_of_length_le (by simp;omega)]
theorem scan_out {l:List RowM} {s:SpanM} {most i:Nat} {x:RowM} (hx:l[i]?=some x) (h:inSpan s x.key=false):scanR (l.take (i+1)) s most=scanR (l.take i) s most:=by
  unfold scanR
  rw [take_snoc hx,List.filter_append,List.filter_cons,if_neg (by simp [h]),List.filter_nil,List.append_nil]
theorem scan_full {l:List RowM} {s:SpanM} {most i:Nat} (hl:most≤(scanR (l.take i) s most).length):scanR l s most=scanR (l.take i) s most:=by
  unfold scanR at hl ⊢
  rw [List.length_take] at hl
  conv=>lhs;rw [← List.take_append_drop i l]
  rw [List.filter_append,List.take_append_of_le_length (by omega)]
theorem scan_end {l:List RowM} {s:SpanM} {most i:Nat} (hl:l.length≤i):scanR l s most=scanR (l.take i) s most:=by rw [List.take_of_length_le hl]
theorem scan_len {l:List RowM} {s:SpanM} {most:Nat}:(scanR l s most).length≤l.length:=by
  unfold scanR;rw [List.length_take];have:=List.length_filter_le (fun r=>inSpan s r.key) l;omega
def kSz (l:List RowM):Prop:=∀ r ∈ l,r.key.size≤1000
theorem setR_len (l:List RowM) (k:ByteArray) (v:UInt32):(setR l k v).length≤l.length+1:=by
  unfold setR
  have:=lowI_le l k
  split
  · simp
  · simp;omega
theorem dropR_len (l:List RowM) (k:ByteArray):(dropR l k).length≤l.length:=by
  unfold dropR
  split
  · rw [List.length_eraseIdx];split <;> omega
  · omega
theorem setR_sz {l:List RowM} {k:ByteArray} {v:UInt32} (h:kSz l) (hk:k.size≤1000):kSz (setR l k v):=by
  unfold setR
  intro r hr
  split at hr
  · rcases List.mem_or_eq_of_mem_set hr with hr | rfl
    · exact h r hr
    · exact hk
  · simp only [List.mem_append,List.mem_cons] at hr
    rcases hr with hr | rfl | hr
    · exact h r (List.mem_of_mem_take hr)
    · exact hk
    · exact h r (List.mem_of_mem_drop hr)
theorem dropR_sz {l:List RowM} {k:ByteArray} (h:kSz l):kSz (dropR l k):=by
  unfold dropR
  intro r hr
  split at hr
  · exact h r (List.mem_of_mem_eraseIdx hr)
  · exact h r hr
theorem applyC_len (l:List RowM) (c:ChgM):(applyC l c).length≤l.length+1:=by
  unfold applyC
  split
  · have:=dropR_len l c.key;omega
  · exact setR_len _ _ _
theorem applyC_sz {l:List RowM} {c:ChgM} (h:kSz l) (hc:c.key.size≤1000):kSz (applyC l c):=by
  unfold applyC
  split
  · exact dropR_sz h
  · exact setR_sz h hc
theorem changeR_len (cs:List ChgM):∀ l:List RowM,(changeR l cs).length≤l.length+cs.length:=by
  induction cs with
  | nil=>intro l;exact Nat.le_refl _
  | cons c cs ih=>
    intro l
    have h1:=ih (applyC l c)
    have h2:=applyC_len l c
    show (changeR (applyC l c) cs).length≤_
    rw [List.length_cons];omega
theorem changeR_sz {cs:List ChgM} (hc:∀ c ∈ cs,c.key.size≤1000):∀ {l:List RowM},kSz l→kSz (changeR l cs):=by
  induction cs with
  | nil=>intro l h;exact h
  | cons c cs ih=>intro l h;exact ih (fun c' h'=>hc c' (by simp [h'])) (applyC_sz h (hc c (by simp)))
theorem keyOk_sz {k:ByteArray} (h:keyOk k=true):k.size≤1000:=by
  unfold keyOk at h;simp at h;omega
theorem opOk_sz {x:OpM} (h:opOk x=true):(spanOf x).a.size≤1000∧(spanOf x).b.size≤1000:=by
  have h':=h
  unfold opOk at h'
  simp only [Bool.and_eq_true] at h'
  obtain ⟨⟨⟨_,h1⟩,h2⟩,_⟩:=h'
  refine ⟨keyOk_sz h1,?_⟩
  unfold spanOf
  split
  case isTrue e=>rw [if_pos e] at h2;exact keyOk_sz h2
  case isFalse=>exact keyOk_sz h1
end Go.SL
namespace Go.SL
open Go
theorem Mb_head {α:Type} {F:α→HP} {hs B:List α} {x:α} (h:hs=x::B):∀ S,Mb F hs S→∃ _:Unit,stars [F x,Mb F B] S:=fun S hS=>Mb_out (A:=[]) h S hS
theorem Mb_snoc {α:Type} {F:α→HP} {A:List α} {x:α}:∀ S,stars [F x,Mb F A] S→Mb F (A++[x]) S:=fun S hS=>Mb_in (A:=A) (B:=[]) S (by rw [List.append_nil];exact hS)
theorem mb_ge {α:Type} {F:α→HP} {hs:List α} {x:α} (h:x ∈ hs):Ge (F x) (Mb F hs):=fun S hS=>by
  obtain ⟨A,B,e⟩:=List.append_of_mem h
  obtain ⟨_,S1,S2,_,h1,_,h2,_⟩:=Mb_out e S hS
  exact ⟨S1,h1,h2⟩
structure HeldV (α:Type) where
  l:SV
  long:SV
  n:Nat
  ws:List α
  xs:List α
section
variable {α : Type}
def hdC (h:HeldV α):List Value:=[h.l.v,h.long.v,.int .i64 h.n]
theorem hdE:EncOk 3 (hdC (α:=α)):=⟨fun _=>rfl,fun _=>rfl⟩
def Hd0 (E z:Nat) (enc:α→List Value) (h:HeldV α):HP:=Sl E z enc h.l.v h.ws
def Hd1 (E z:Nat) (enc:α→List Value) (h:HeldV α):HP:=Gr E z enc h.l.v h.ws h.long.v h.xs
def fillH (mk:Nat→α) (h:HeldV α):HeldV α:={ h with ws:=List.replicate h.ws.length (mk h.n) }
def Kp (h:HeldV α):Prop:=h.n≤1000∧h.ws.length≤1000000000
def Fil (mk:Nat→α) (h:HeldV α):Prop:=Kp h∧h.ws=List.replicate h.ws.length (mk h.n)
def Grw (mk:Nat→α) (h:HeldV α):Prop:=Kp h∧h.ws=List.replicate h.ws.length (mk h.n)∧h.xs=List.replicate (h.ws.length+40) (mk h.n)
theorem fil_fill {mk:Nat→α} {hs:List (HeldV α)} (h:∀ x ∈ hs,Kp x):∀ x ∈ hs.map (fillH mk),Fil mk x:=fun x hx=>by
  obtain ⟨y,hy,rfl⟩:=List.mem_map.1 hx
  have:=h y hy
  exact ⟨⟨this.1,by simpa [fillH] using this.2⟩,by simp [fillH]⟩
theorem hd_fill (mk:Nat→α) (hs:List (HeldV α)):(hs.map (fillH mk)).flatMap hdC=hs.flatMap hdC:=by
  rw [List.flatMap_map];rfl
theorem drop_at {β:Type} {l:List β} {i:Nat} {x:β} (hx:l[i]?=some x):l.drop i=x::l.drop (i+1):=by
  have hlt:=idx_lt hx
  rw [List.drop_eq_getElem_cons hlt]
  rw [List.getElem?_eq_getElem hlt] at hx
  cases hx;rfl
theorem rep_set {β:Type} {ws:List β} {j:Nat} {m:β} (h:j < ws.length):(List.replicate j m++ws.drop j).set j m=List.replicate (j+1) m++ws.drop (j+1):=by
  have e:=drop_at (List.getElem?_eq_getElem h)
  rw [List.set_append_right _ _ (by simp),List.length_replicate,Nat.sub_self,e,List.set_cons_zero,List.replicate_succ',List.append_assoc];rfl
theorem rep_all {β:Type} {ws:List β} {j:Nat} {m:β} (h:ws.length=j):List.replicate j m++ws.drop j=List.replicate ws.length m:=by
  subst h;simp
theorem rep_snoc {β:Type} {n j:Nat} {m:β}:List.replicate (n+j) m++[m]=List.replicate (n+(j+1)) m:=by
  rw [← Nat.add_assoc,List.replicate_succ']
theorem rep_at {β:Type} {n j:Nat} {m:β} (h:j < n):(List.replicate n m)[j]?=some m:=by simp [h]
end
def mkId (n:Nat):UInt32:=UInt32.ofNat (1000+n)
def wdB (n:Nat):ByteArray:=(⟨#[35]⟩:ByteArray)++itoaB n
def mkRow (n:Nat):RowM:=⟨wdB n,0⟩
theorem wd_size (n:Nat) (h:n≤1000):(⟨#[35]⟩:ByteArray).size+(itoaB n).size < 9223372036854775808:=by
  have h1:(itoaB n).size≤21:=Go.Lib.itoa_length_le (n:Int) (by omega) (by omega)
  have h2:(⟨#[35]⟩:ByteArray).size=1:=rfl
  omega
end Go.SL
namespace Go.SL.Fc
open Go Go.Proofs Go.SL
theorem k202:callable Tryz.prog 202=true:=by kernel_rfl
theorem k234:callable Tryz.prog 234=true:=by kernel_rfl
end Go.SL.Fc
namespace Go.SL
open Go Go.Proofs Fc
open Go.RowKit Go.Shelf in
def laysItoa_ren:Go.Shelf.Ren:=⟨fun | 129=>219 | 171=>234 | 243=>256 | 246=>266 | 283=>270 | 284=>271 | 285=>272 | 286=>273 | 317=>274 | 318=>275 | 319=>276 | 320=>277 | 337=>278 | 338=>279 | n=>n,fun | 0=>0 | 2=>2 | 3=>3 | 4=>4 | 5=>5 | 9=>9 | 20=>20 | 37=>90 | 46=>269 | 51=>48 | 53=>52 | 171=>349 | 173=>351 | 212=>354 | 213=>355 | 232=>357 | 233=>121 | n=>n,fun | 17=>0 | 18=>1 | 19=>2 | n=>n⟩
theorem laysItoa:Go.Proofs.LaysM.n171 Tryz.prog laysItoa_ren where
 i0:=by kernel_rfl
 i2:=by kernel_rfl
 i3:=by kernel_rfl
 i4:=by kernel_rfl
 i5:=by kernel_rfl
 i9:=by kernel_rfl
 i20:=by kernel_rfl
 i37:=by kernel_rfl
 i46:=by kernel_rfl
 i51:=by kernel_rfl
 i53:=by kernel_rfl
 i171:=by kernel_rfl
 i173:=by kernel_rfl
 i212:=by kernel_rfl
 i232:=by kernel_rfl
 i233:=by kernel_rfl
 m17:=by kernel_rfl
 m18:=by kernel_rfl
 m19:=by kernel_rfl
 mixed:=by kernel_rfl
 f129:=Tryz.func219.trans (congrArg some (by kernel_rfl))
 f171:=Tryz.func234.trans (congrArg some (by kernel_rfl))
 f243:=Tryz.func256.trans (congrArg some (by kernel_rfl))
 f246:=Tryz.func266.trans (congrArg some (by kernel_rfl))
 f283:=Tryz.func270.trans (congrArg some (by kernel_rfl))
 f284:=Tryz.func271.trans (congrArg some (by kernel_rfl))
 f285:=Tryz.func272.trans (congrArg some (by kernel_rfl))
 f286:=Tryz.func273.trans (congrArg some (by kernel_rfl))
 f317:=Tryz.func274.trans (congrArg some (by kernel_rfl))
 f318:=Tryz.func275.trans (congrArg some (by kernel_rfl))
 f319:=Tryz.func276.trans (congrArg some (by kernel_rfl))
 f320:=Tryz.func277.trans (congrArg some (by kernel_rfl))
 f337:=Tryz.func278.trans (congrArg some (by kernel_rfl))
 f338:=Tryz.func279.trans (congrArg some (by kernel_rfl))
 t0:=Tryz.underlying0
 a0:=Tryz.isAgg0
 z0:=Tryz.sizeOf0
 v0:=Tryz.zeroValue0
 t2:=Tryz.underlying2
 a2:=Tryz.isAgg2
 z2:=Tryz.sizeOf2
 v2:=Tryz.zeroValue2
 t3:=Tryz.underlying3
 a3:=Tryz.isAgg3
 z3:=Tryz.sizeOf3
 v3:=Tryz.zeroValue3
 t4:=Tryz.underlying4
 a4:=Tryz.isAgg4
 z4:=Tryz.sizeOf4
 v4:=Tryz.zeroValue4
 t5:=Tryz.underlying5
 a5:=Tryz.isAgg5
 z5:=Tryz.sizeOf5
 v5:=Tryz.zeroValue5
 t9:=Tryz.underlying9
 a9:=Tryz.isAgg9
 z9:=Tryz.sizeOf9
 v9:=Tryz.zeroValue9
 t20:=Tryz.underlying20
 a20:=Tryz.isAgg20
 z20:=Tryz.sizeOf20
 v20:=Tryz.zeroValue20
 t37:=Tryz.underlying90
 a37:=Tryz.isAgg90
 z37:=Tryz.sizeOf90
 v37:=Tryz.zeroValue90
 t46:=Tryz.underlying269
 a46:=Tryz.isAgg269
 z46:=Tryz.sizeOf269
 v46:=Tryz.zeroValue269
 t51:=Tryz.underlying48
 a51:=Tryz.isAgg48
 z51:=Tryz.sizeOf48
 v51:=Tryz.zeroValue48
 t53:=Tryz.underlying52
 a53:=Tryz.isAgg52
 z53:=Tryz.sizeOf52
 v53:=Tryz.zeroValue52
 t171:=Tryz.underlying349
 a171:=Tryz.isAgg349
 z171:=Tryz.sizeOf349
 v171:=Tryz.zeroValue349
 t173:=Tryz.underlying351
 a173:=Tryz.isAgg351
 z173:=Tryz.sizeOf351
 v173:=Tryz.zeroValue351
 t212:=Tryz.underlying354
 a212:=Tryz.isAgg354
 z212:=Tryz.sizeOf354
 v212:=Tryz.zeroValue354
 t213:=Tryz.underlying355
 a213:=Tryz.isAgg355
 z213:=Tryz.sizeOf355
 t232:=Tryz.underlying357
 a232:=Tryz.isAgg357
 z232:=Tryz.sizeOf357
 v232:=Tryz.zeroValue357
 t233:=Tryz.underlying121
 a233:=Tryz.isAgg121
 z233:=Tryz.sizeOf121
 v233:=Tryz.zeroValue121
 g17:=by kernel_rfl
 g18:=by kernel_rfl
 g19:=by kernel_rfl
theorem itoaS {g:World} {A:HP} (hT:Tab Tryz.prog A) (n:Nat) (hn:n≤1000):Spec Tryz.prog g 234 [.int .i64 n] [A] fun K R=>K (.string (itoaB n)) (A::R):=itoa_spec laysItoa hT n (by omega)
theorem word_spec {g:World} {A:HP} (hT:Tab Tryz.prog A) (n:Nat) (hn:n≤1000):Spec Tryz.prog g 202 [.int .i64 n] [A] fun K R=>K (.string (wdB n)) (A::R):=by
 refine Spec.intro Tryz.func202 rfl Tryz.ntmps202 rfl fun R K hK=>?_
 refine WP.seq<|WP.reg<|WL.e e_assign<|WL.next<|WP.seq<|WP.reg<|WL.e e_move ?_
 refine WL.h (h_call (itoaS hT n hn) k234 ?_)
 refine WL.e (e_sadd rfl rfl (wd_size n hn))<|WL.e e_assign<|WL.next<|WP.ret ?_
 exact PO.fin Tryz.results202 (rv_tmp rv_nil) hK
theorem markId_spec {g:World} (n:Nat) (hn:n≤1000):Spec Tryz.prog g 150 [.int .i64 n] [] fun K R=>K (.int .u32 (mkId n).toNat) R:=by
 refine Spec.intro Tryz.func150 rfl Tryz.ntmps150 rfl fun R K hK=>?_
 refine WP.seq<|WP.reg<|WL.e e_assign<|WL.next<|WP.seq<|WP.reg<|WL.e e_move<|WL.e (e_add (c:=((1000+n:Nat):Int)) rfl rfl (by rw [w_i64 (by omega) (by omega)];omega))<|WL.e (e_conv (by rw [Tryz.underlying3];rfl) Tryz.underlying48 rfl rfl)<|WL.e e_assign<|WL.next<|WP.ret ?_
 exact PO.fin Tryz.results150 (rv_tmp rv_nil) hK
theorem isId_spec {g:World} (x:UInt32) (n:Nat) (hn:n≤1000):Spec Tryz.prog g 162 [.int .u32 x.toNat,.int .i64 n] [] fun K R=>K (.bool (x == mkId n)) R:=by
 refine Spec.intro Tryz.func162 rfl Tryz.ntmps162 rfl fun R K hK=>?_
 refine WP.seq<|WP.reg<|WL.e e_assign<|WL.next<|WP.seq<|WP.reg<|WL.e e_move<|WL.e e_move<|WL.e (e_add (c:=((1000+n:Nat):Int)) rfl rfl (by rw [w_i64 (by omega) (by omega)];omega))<|WL.e (e_conv (by rw [Tryz.underlying3];rfl) Tryz.underlying48 rfl rfl)<|WL.e (e_eql32 (b:=mkId n))<|WL.e e_assign<|WL.next<|WP.ret ?_
 exact PO.fin Tryz.results162 (rv_tmp rv_nil) hK
theorem markRow_spec {g:World} {A:HP} (hT:Tab Tryz.prog A) (n:Nat) (hn:n≤1000):Spec Tryz.prog g 153 [.int .i64 n] [A] fun K R=>K (mkRow n).v (A::R):=by
 refine Spec.intro Tryz.func153 rfl Tryz.ntmps153 rfl fun R K hK=>?_
 refine WP.seq<|WP.reg ?_
 refine WL.h (h_alloc z142 fun b1=>?_)
 refine WL.next<|WP.seq<|WP.reg<|WL.e e_move ?_
 refine WL.h (h_call (word_spec hT n hn) k202 ?_)
 refine WL.e (e_build z142 p142 (.o (.tmp 4) rfl<|.z (.int .u32 0)<|.n)) ?_
 refine WL.h' (h_store s142 ?_)
 refine WL.next<|WP.ret ?_
 exact PO.fin Tryz.results153 (rv_cellN a142 rv_nil) hK
theorem isRow_spec {g:World} {A:HP} (hT:Tab Tryz.prog A) (x:RowM) (n:Nat) (hn:n≤1000):Spec Tryz.prog g 165 [x.v,.int .i64 n] [A] fun K R=>K (.bool (sEq x.key (wdB n))) (A::R):=by
 refine Spec.intro Tryz.func165 rfl Tryz.ntmps165 rfl fun R K hK=>?_
 refine WP.seq<|WP.reg ?_
 refine WL.h (h_box fun b1=>?_)
 refine WL.e e_assign<|WL.next<|WP.seq<|WP.draws mixedOk 6<|RW.e 0 rfl (e_fa f142_0)<|RW.e 1 rfl (e_load a9)<|RW.e 2 rfl e_move ?_
 refine RW.any (is:=[3]) rfl ⟨?_,trivial⟩
 refine RWat.h rfl rfl rfl ?_
 refine (h_call (word_spec hT n hn) k202 ?_)
 refine ⟨⟨⟨_,rfl,.inl ⟨rfl,(e_load a9)⟩⟩,⟨_,rfl,.inl ⟨rfl,(e_fa f142_0)⟩⟩,trivial⟩,?_⟩
 refine RW.e 4 rfl e_seq<|RW.e 5 rfl e_assign<|RW.done<|PO.next<|WP.ret ?_
 exact PO.fin Tryz.results165 (rv_tmp rv_nil) hK
end Go.SL
