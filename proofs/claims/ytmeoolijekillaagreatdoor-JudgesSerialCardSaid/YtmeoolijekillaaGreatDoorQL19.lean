import Derived.Test.YtmeoolijekillaaGreatDoorQL18
set_option linter.unusedSimpArgs false
set_option linter.unusedVariables false
namespace Go.SL.Fc
open Go Go.Proofs Go.SL
theorem a119:aggOf Tryz.prog 119=some (some 1):=by kernel_rfl
theorem a120:aggOf Tryz.prog 120=some (some 5):=by kernel_rfl
theorem a125:aggOf Tryz.prog 125=some none:=by kernel_rfl
theorem k109:callable Tryz.prog 109=true:=by kernel_rfl
theorem k110:callable Tryz.prog 110=true:=by kernel_rfl
theorem k111:callable Tryz.prog 111=true:=by kernel_rfl
theorem k112:callable Tryz.prog 112=true:=by kernel_rfl
theorem k172:callable Tryz.prog 172=true:=by kernel_rfl
theorem k173:callable Tryz.prog 173=true:=by kernel_rfl
theorem k53:callable Tryz.prog 53=true:=by kernel_rfl
theorem k54:callable Tryz.prog 54=true:=by kernel_rfl
theorem k55:callable Tryz.prog 55=true:=by kernel_rfl
theorem k56:callable Tryz.prog 56=true:=by kernel_rfl
theorem k57:callable Tryz.prog 57=true:=by kernel_rfl
theorem k58:callable Tryz.prog 58=true:=by kernel_rfl
theorem k60:callable Tryz.prog 60=true:=by kernel_rfl
theorem k61:callable Tryz.prog 61=true:=by kernel_rfl
theorem k62:callable Tryz.prog 62=true:=by kernel_rfl
theorem k63:callable Tryz.prog 63=true:=by kernel_rfl
theorem p119:placesOf Tryz.prog 119=some [(0,1)]:=by kernel_rfl
theorem p119_0:partOf Tryz.prog 119 0=some (0,none):=by kernel_rfl
theorem s119:szOf Tryz.prog 119=some 1:=by kernel_rfl
theorem s120:szOf Tryz.prog 120=some 5:=by kernel_rfl
theorem s125:szOf Tryz.prog 125=some 1:=by kernel_rfl
theorem z119:zeroOf Tryz.prog 119=some [.nilFunc]:=by kernel_rfl
theorem z120:zeroOf Tryz.prog 120=some [.nilFunc,.nilFunc,.nilFunc,.nilFunc,.nilFunc]:=by kernel_rfl
theorem z125:zeroOf Tryz.prog 125=some [.nilFunc]:=by kernel_rfl
end Go.SL.Fc
namespace Go.SL
open Go Go.Proofs Fc
theorem MGet_spec {g:World} {p:Nat} {l:List RowM} (k:ByteArray) (hl:Rising l) (hn:l.length≤68719476736):Spec Tryz.prog g 54 [.pointer (some ⟨p,0,none⟩),.string k] [Mm p l] fun K R=>∀ v:UInt32,K (.tuple #[.int .u32 v.toNat,.bool (hasI l k)]) (Mm p l::R):=by
  refine Spec.intro Tryz.func54 rfl Tryz.ntmps54 rfl fun R K hK=>?_
  refine WP.seq<|WP.reg<|WL.e e_assign<|WL.e e_assign<|WL.next<|WP.seq<|WP.seq<|WP.reg<|WL.e e_move ?_
  refine WL.h (h_call (Mthere_spec) k104 ?_)
  refine WL.e e_not<|WL.next<|WP.cond_f rfl<|WP.skip<|PO.next<|WP.seq<|WP.reg<|WL.e e_move<|WL.e e_move ?_
  refine WL.h (h_call (find_spec k hl hn) k105 ?_)
  refine WL.e e_move<|WL.e e_extract<|WL.e e_extract<|WL.e e_assign<|WL.e e_assign<|WL.next<|WP.seq<|WP.seq<|WP.reg<|WL.e e_move<|WL.e e_not<|WL.next ?_
  refine WP.cond rfl (fun h1=>?_) (fun h1=>?_)
  · replace h1:hasI l k=false:=by simpa using h1
    refine WP.seq<|WP.reg<|WL.e e_assign<|WL.e e_assign<|WL.next<|WP.ret<|PO.past nofun ?_
    exact PO.finE Tryz.results54 (rv_tmp (rv_tmp rv_nil)) (by rw [h1];rfl) (hK 0)
  · replace h1:hasI l k=true:=by simpa using h1
    obtain ⟨v,hv⟩:=has_at h1
    refine WP.opn (Mm_op (p:=p) (l:=l)) fun s=>?_
    refine WP.skip<|PO.next<|WP.seq<|WP.reg<|WL.e e_move<|WL.e e_nil<|WL.e (e_fa f188_0)<|WL.e (e_load a24)<|WL.e e_move<|WL.e (el_ia (j:=lowI l k) (xs:=l) sl24 sl_rl (idx_lt hv))<|WL.e (el_fa (z:=2) (j:=lowI l k) (xs:=l) f59_1 sl_rl (idx_lt hv))<|WL.e (el_load (j:=lowI l k) (f:=1) (xs:=l) (a:=⟨k,v⟩) a35 rowE sl_rl hv)<|WL.e e_assign<|WL.e e_assign<|WL.next<|WP.ret<|PO.cls (A:=Mm p l) (B:=[cl p 188 [s.v,.bool true],Sl 59 2 RowM.c (s.v) l]) (fun S h=>⟨s,h⟩) ?_
    exact PO.finE Tryz.results54 (rv_tmp (rv_tmp rv_nil)) (by rw [h1];rfl) (hK v)
theorem scans_spec {g:World} {p:Nat} {M:List RowM} (x:OpM) (hx:opOk x=true) (hr:Rising M) (hn:M.length≤1000000) (hw:writes x=false):Spec Tryz.prog g 109 [.pointer (some ⟨p,0,none⟩),x.v] [Mm p M] fun K R=>∀ a n c,K (.slice a n c) (Sl 59 2 RowM.c (.slice a n c) (doneO M x).1::Mm p (doneO M x).2::R):=by
  refine Spec.intro Tryz.func109 rfl Tryz.ntmps109 rfl fun R K hK=>?_
  refine WP.seq<|WP.reg ?_
  refine WL.h (h_box fun b1=>?_)
  refine WL.e e_assign<|WL.next<|WP.seq<|WP.reg<|WL.e e_move<|WL.e (e_loadN a115) ?_
  refine WL.h (h_call (Of_spec _) k173 ?_)
  refine WL.h (h_call (Scan_spec (spanOf x) 256 hr (by omega) (by decide)) k172 ?_)
  intro a n c
  refine WL.e e_assign<|WL.next<|WP.ret ?_
  exact PO.fin Tryz.results109 (rv_tmp rv_nil) (by have:=hK a n c;rw [done_read hr hx hw] at this;exact this)
theorem puts_spec {g:World} {p:Nat} {M:List RowM} (x:OpM) (hx:opOk x=true) (hr:Rising M) (hn:M.length≤1000000) (hk:x.kind=2):Spec Tryz.prog g 110 [.pointer (some ⟨p,0,none⟩),x.v] [Mm p M] fun K R=>∀ a n c,K (.slice a n c) (Sl 59 2 RowM.c (.slice a n c) (doneO M x).1::Mm p (doneO M x).2::R):=by
  refine Spec.intro Tryz.func110 rfl Tryz.ntmps110 rfl fun R K hK=>?_
  refine WP.seq<|WP.reg ?_
  refine WL.h (h_box fun b1=>?_)
  refine WL.e e_assign<|WL.next<|WP.seq<|WP.reg<|WL.e e_move<|WL.e (e_fa f115_1)<|WL.e (e_load a9)<|WL.e (e_fa f115_3)<|WL.e (e_load a35) ?_
  refine WL.h (h_call (MPut_spec x.key x.val hr (by omega) (key_of hx)) k55 ?_)
  refine WL.next<|WP.seq<|WP.reg<|WL.e e_assign<|WL.next<|WP.ret<|PO.nils 59 2 RowM.c none ?_
  exact PO.fin Tryz.results110 (rv_tmp rv_nil) (by have:=hK none 0 0;rw [show doneO M x=([],setR M x.key x.val) by simp [doneO,hk]] at this;exact this)
theorem dels_spec {g:World} {p:Nat} {M:List RowM} (x:OpM) (hx:opOk x=true) (hr:Rising M) (hn:M.length≤1000000) (hk:x.kind=3):Spec Tryz.prog g 111 [.pointer (some ⟨p,0,none⟩),x.v] [Mm p M] fun K R=>∀ a n c,K (.slice a n c) (Sl 59 2 RowM.c (.slice a n c) (doneO M x).1::Mm p (doneO M x).2::R):=by
  refine Spec.intro Tryz.func111 rfl Tryz.ntmps111 rfl fun R K hK=>?_
  refine WP.seq<|WP.reg ?_
  refine WL.h (h_box fun b1=>?_)
  refine WL.e e_assign<|WL.next<|WP.seq<|WP.reg<|WL.e e_move<|WL.e (e_fa f115_1)<|WL.e (e_load a9) ?_
  refine WL.h (h_call (MDel_spec x.key hr (by omega) (key_of hx)) k112 ?_)
  intro e0
  refine WL.next<|WP.seq<|WP.reg<|WL.e e_assign<|WL.next<|WP.ret<|PO.nils 59 2 RowM.c none ?_
  exact PO.fin Tryz.results111 (rv_tmp rv_nil) (by have:=hK none 0 0;rw [show doneO M x=([],dropR M x.key) by simp [doneO,hk]] at this;exact this)
def dVals:List Value:=[.nilFunc,.func (.func 109) #[] #[],.func (.func 110) #[] #[],.func (.func 111) #[] #[],.func (.func 109) #[] #[]]
theorem deeds_spec {g:World}:Spec Tryz.prog g 57 [] [] fun K R=>K (.agg dVals.toArray) R:=by
  refine Spec.intro Tryz.func57 rfl Tryz.ntmps57 rfl fun R K hK=>?_
  refine WP.seq<|WP.reg ?_
  refine WL.h (h_alloc z120 fun b1=>?_)
  refine WL.next<|WP.seq<|WP.reg<|WL.e (e_build z119 p119 (.o (.func 109) rfl<|.n))<|WL.e (e_build z119 p119 (.o (.func 109) rfl<|.n))<|WL.e (e_build z119 p119 (.o (.func 110) rfl<|.n))<|WL.e (e_build z119 p119 (.o (.func 111) rfl<|.n))<|WL.e (e_buildA z120 Tryz.underlying120 s119 (.z (.nilFunc)<|.a1 (.tmp 1) rfl<|.a1 (.tmp 3) rfl<|.a1 (.tmp 4) rfl<|.a1 (.tmp 2) rfl<|.n)) ?_
  refine WL.h' (h_store s120 ?_)
  refine WL.next<|WP.ret ?_
  exact PO.fin Tryz.results57 (rv_cellN a120 rv_nil) hK
theorem dcall {g:World} {p:Nat} {M:List RowM} (x:OpM) (hx:opOk x=true) (hr:Rising M) (hn:M.length≤1000000):∃ y,x.kind.toNat < 5∧dVals[x.kind.toNat]?=some y∧CallV Tryz.prog g y [.pointer (some ⟨p,0,none⟩),x.v] [Mm p M] fun K R=>∀ a n c,K (.slice a n c) (Sl 59 2 RowM.c (.slice a n c) (doneO M x).1::Mm p (doneO M x).2::R):=by
  rcases kinds hx with ⟨_,e | e⟩ | ⟨hw,e | e⟩
  · exact ⟨_,by rw [e];decide,by rw [e];rfl,CallV.of_spec (fs:=[]) (cs:=[]) (puts_spec x hx hr hn e) k110⟩
  · exact ⟨_,by rw [e];decide,by rw [e];rfl,CallV.of_spec (fs:=[]) (cs:=[]) (dels_spec x hx hr hn e) k111⟩
  · exact ⟨_,by rw [e];decide,by rw [e];rfl,CallV.of_spec (fs:=[]) (cs:=[]) (scans_spec x hx hr hn hw) k109⟩
  · exact ⟨_,by rw [e];decide,by rw [e];rfl,CallV.of_spec (fs:=[]) (cs:=[]) (scans_spec x hx hr hn hw) k109⟩
theorem ClipRes_spec {g:World} {u:Value} {xs:List ResV}:Spec Tryz.prog g 58 [u] [Sl 123 1 resC u xs] fun K R=>∀ a m c,K (.slice a m c) (Sl 123 1 resC (.slice a m c) xs::R):=by
  refine Spec.intro Tryz.func58 rfl Tryz.ntmps58 rfl fun R K hK=>?_
  refine WP.seq<|WP.reg<|WL.e e_assign<|WL.next<|WP.seq<|WP.reg<|WL.e e_move<|WL.e e_move<|WL.e (el_len (xs:=xs) sl37 sl_rl)<|WL.e e_move<|WL.e (el_len (xs:=xs) sl37 sl_rl)<|WL.e (el_to3 (hi:=xs.length) (xs:=xs) sl37 sl_rl (Nat.le_refl _))<|WL.e e_assign<|WL.next<|WP.ret<|PO.conv (conv1 (A:=Sl 123 1 resC u xs) (B:=Sl 123 1 resC (subV u 0 xs.length (some xs.length) 1) xs) (fun S h=>by have h2:=sl_to3 (i:=xs.length) resE h (Nat.le_refl _);rwa [List.take_length] at h2) (by repeat first | exact .z | apply Put.s)) ?_
  refine PO.sh (u:=subV u 0 xs.length (some xs.length) 1) fun a9 m9 c9 e9=>?_
  rw [e9]
  exact PO.fin Tryz.results58 (rv_tmp rv_nil) (hK a9 m9 c9)
set_option maxHeartbeats 2000000 in
theorem pRun_spec {g:World} {A:HP} {u v:Value} {rows:List RowM} {l:List OpM} (hA:RL A 2 RowM.c u rows) (hB:RL A 4 OpM.c v l) (hr:Rising rows) (hk:KeysOk rows) (hn:rows.length+l.length≤1000000) :
    Spec Tryz.prog g 19 [u,v] [A] fun K R=>(l.all opOk=false→K (.tuple #[.slice none 0 0,.slice none 0 0,.int .i64 1]) (A::R))∧(l.all opOk=true→∀ (s1 s2:SV) B,Ge A B→RsL B s1.v (runM rows l).1→RL B 2 RowM.c s2.v (runM rows l).2→K (.tuple #[s1.v,s2.v,.int .i64 0]) (B::R)):=by
  refine Spec.intro Tryz.func19 rfl Tryz.ntmps19 rfl fun R K hK=>?_
  refine WP.seq<|WP.reg<|WL.e e_assign<|WL.e e_assign<|WL.e e_assign<|WL.next<|WP.seq<|WP.reg ?_
  refine WL.h (h_call (MNew_spec) k53 ?_)
  intro p
  refine WL.e e_assign<|WL.next<|WP.seq<|WP.seq<|WP.reg<|WL.e e_move<|WL.e (el_len (xs:=rows) sl24 hA)<|WL.e e_move<|WL.next<|WP.block<|WP.loopK (fun (i:Nat)=>[(17,.int .i64 i),(4,.slice none 0 0)]) (fun (i:Nat)=>Mm p (rows.take i)::A::R) [(1,_),(7,_),(15,_),(16,_)] (fun (i:Nat)=>i≤rows.length) (fun (i:Nat)=>rows.length - i) 0 (Nat.zero_le _) ?_
  intro i hi
  refine WP.seq<|WP.reg<|WL.e e_lss<|WL.next<|WP.seq ?_
  refine WP.cond rfl (fun h1=>?_) (fun h1=>?_)
  · have hlt:i < rows.length:=by rw [decide_eq_true_eq] at h1;omega
    obtain ⟨x,hx⟩:∃ x,rows[i]?=some x:=⟨_,List.getElem?_eq_getElem hlt⟩
    have hrt:=hr.sublist (List.take_sublist i _)
    refine WP.skip<|PO.next<|WP.seq<|WP.block<|WP.seq<|WP.reg<|WL.e (el_ia (j:=i) (xs:=rows) sl24 hA hlt)<|WL.e (el_loadN (j:=i) (a:=x) (xs:=rows) a59 rowE hA hx) ?_
    refine WL.h (h_alloc z59 fun b1=>?_)
    refine WL.h' (h_store s59 ?_)
    refine WL.next<|WP.seq<|WP.reg<|WL.e e_move<|WL.e (e_fa f59_0)<|WL.e (e_load a9) ?_
    refine WL.h (h_call (MGet_spec x.key hrt (by simp;omega)) k54 ?_)
    intro gv
    rw [has_app (rising_take hr hx)]
    refine WL.e e_move<|WL.e e_extract<|WL.e e_extract<|WL.e e_assign<|WL.e e_assign<|WL.next<|WP.seq<|WP.reg<|WL.e e_move<|WL.e e_move ?_
    refine WL.bool 29 rfl (fun g1=>?_) (fun g1=>?_)
    · cases g1 
    · skip
      refine WL.e e_move<|WL.e (e_fa f59_0)<|WL.e (e_load a9)<|WL.e (e_fa f59_1)<|WL.e (e_load a35) ?_
      refine WL.h (h_call (MPut_spec x.key x.val hrt (by simp;omega) (hk x (List.mem_of_getElem? hx))) k55 ?_)
      refine WL.e e_neq<|WL.e e_pick_f<|WL.next<|WP.cond_f rfl<|WP.skip<|PO.blockN<|PO.next<|WP.reg<|WL.e (e_add (c:=((i+1:Nat):Int)) rfl rfl (by rw [w_i64 (by omega) (by omega)];omega))<|WL.e e_move<|WL.nil ?_
      rw [setR_app (rising_take hr hx),show rows.take i++[⟨x.key,x.val⟩]=rows.take (i+1) from (take_snoc hx).symm]
      exact PO.againK (i+1) (by omega) (by omega)
  · rw [List.take_of_length_le (show rows.length≤i by rw [decide_eq_false_iff_not] at h1;omega)]
    refine WP.exit<|PO.past nofun<|PO.round nofun<|PO.blockX<|PO.next<|WP.seq<|WP.seq<|WP.reg<|WL.e e_move<|WL.e (el_len (xs:=l) sl36 hB)<|WL.e e_move<|WL.next<|WP.block<|WP.nils 123 1 resC none ?_
    refine WP.conv (fun S h=>ResR_nil h) ?_
    refine WP.loopK (fun (z:Nat × SV × List ResV)=>[(41,.int .i64 z.1),(4,z.2.1.v)]) (fun (z:Nat × SV × List ResV)=>Sl 123 1 resC (z.2.1.v) (z.2.2)::ResR z.2.2::Mm p ((runM rows (l.take z.1)).2)::A::R) [(7,_),(39,_),(40,_)] (fun (z:Nat × SV × List ResV)=>z.1≤l.length∧z.2.2.map (·.2)=(runM rows (l.take z.1)).1∧(l.take z.1).all opOk=true) (fun (z:Nat × SV × List ResV)=>l.length - z.1) (0,⟨none,0,0⟩,[]) (⟨Nat.zero_le _,rfl,rfl⟩) ?_
    rintro ⟨i,sv,ts⟩ ⟨hi,ht,ho⟩
    simp only at hi ht ho
    dsimp only
    obtain ⟨hr1,hr2,hr3⟩:=runM_rows hr (l.take i)
    rw [List.length_take] at hr2
    refine WP.seq<|WP.reg<|WL.e e_lss<|WL.next<|WP.seq ?_
    refine WP.cond rfl (fun h2=>?_) (fun h2=>?_)
    · have hlt:i < l.length:=by rw [decide_eq_true_eq] at h2;omega
      obtain ⟨x,hx⟩:∃ x,l[i]?=some x:=⟨_,List.getElem?_eq_getElem hlt⟩
      refine WP.skip<|PO.next<|WP.seq<|WP.block<|WP.seq<|WP.reg<|WL.e (el_ia (j:=i) (xs:=l) sl36 hB hlt)<|WL.e (el_loadN (j:=i) (a:=x) (xs:=l) a115 opE hB hx) ?_
      refine WL.h (h_alloc z115 fun b2=>?_)
      refine WL.h' (h_store s115 ?_)
      refine WL.next<|WP.seq<|WP.seq<|WP.reg<|WL.e (e_loadN a115) ?_
      refine WL.h (h_call (opCheck_spec _) k56 ?_)
      refine WL.e e_not<|WL.next ?_
      refine WP.cond rfl (fun h3=>?_) (fun h3=>?_)
      · replace h3:opOk x=false:=by simpa using h3
        refine WP.seq<|WP.reg<|WL.e e_assign<|WL.e e_assign<|WL.e e_assign<|WL.next<|WP.ret<|PO.past nofun<|PO.blockR<|PO.past nofun<|PO.round nofun<|PO.blockR<|PO.past nofun ?_
        exact PO.fin Tryz.results19 (rv_tmp (rv_tmp (rv_tmp rv_nil))) (hK.1 (List.all_eq_false.2 ⟨x,List.mem_of_getElem? hx,by rw [h3];decide⟩))
      · replace h3:opOk x=true:=by simpa using h3
        obtain ⟨y,hy5,hy,hd⟩:=dcall (g:=g) (p:=p) x h3 hr1 (by omega)
        refine WP.skip<|PO.next<|WP.draws mixedOk 13<|RW.e 0 rfl e_move<|RW.e 2 rfl (e_fa f115_0)<|RW.e 3 rfl (e_load a113)<|RW.e 6 rfl e_move<|RW.e 7 rfl (e_loadN a115) ?_
        refine RW.any (is:=[1]) rfl ⟨?_,trivial⟩
        refine RWat.h rfl rfl rfl ?_
        refine (h_call (deeds_spec) k57 ?_)
        refine ⟨⟨⟨_,rfl,.inl ⟨rfl,(e_loadN a115)⟩⟩,⟨_,rfl,.inl ⟨rfl,e_move⟩⟩,⟨_,rfl,.inl ⟨rfl,(e_load a113)⟩⟩,⟨_,rfl,.inl ⟨rfl,(e_fa f115_0)⟩⟩,⟨_,rfl,.inl ⟨rfl,e_move⟩⟩,trivial⟩,?_⟩
        refine RW.e 4 rfl (e_ixA Tryz.underlying120 a119 s119 hy5 hy)<|RW.e 5 rfl (e_field1 p119_0) ?_
        refine RW.any (is:=[8]) rfl ⟨?_,trivial⟩
        refine RWat.h rfl rfl rfl ?_
        refine (h_cally hd ?_)
        intro a5 n5 c5
        refine ⟨⟨⟨_,rfl,.inl ⟨rfl,e_move⟩⟩,trivial⟩,?_⟩
        refine RW.e 9 rfl (e_build z123 p123 (.o (.tmp 56) rfl<|.n)) ?_
        refine RW.any (is:=[10]) rfl ⟨?_,trivial⟩
        refine RWat.h rfl rfl rfl ?_
        refine (h_bs sl37 z123 (.a1 (.tmp 57) rfl<|.n) fun b3=>?_)
        refine ⟨⟨⟨_,rfl,.inl ⟨rfl,e_move⟩⟩,trivial⟩,?_⟩
        refine RW.any (is:=[11]) rfl ⟨?_,trivial⟩
        refine RWat.h rfl rfl rfl ?_
        refine (hl_append (xs:=ts) (ys:=[((⟨a5,n5,c5⟩:SV),(doneO (runM rows (l.take i)).2 x).1)]) sl37 resE z123 (lit_rl resE [((⟨a5,n5,c5⟩:SV),(doneO (runM rows (l.take i)).2 x).1)] rfl) (by have:=congrArg List.length ht;rw [List.length_map,hr3,List.length_take] at this;simp only [List.length_cons,List.length_nil];omega) (fun a2 n2 c2=>?_))
        refine ⟨trivial,?_⟩
        refine RW.any (is:=[12]) rfl ⟨?_,trivial⟩
        refine RWat.h rfl rfl rfl<|HO.of_eo e_assign ?_
        refine ⟨trivial,?_⟩
        refine RW.done<|PO.blockN<|PO.next<|WP.reg<|WL.e (e_add (c:=((i+1:Nat):Int)) rfl rfl (by rw [w_i64 (by omega) (by omega)];omega))<|WL.e e_move<|WL.nil ?_
        have hm2:=runM_take rows hx
        refine PO.cls (A:=ResR (ts++[((⟨a5,n5,c5⟩:SV),(doneO (runM rows (l.take i)).2 x).1)])) (B:=[ResR ts,Sl 59 2 RowM.c (.slice a5 n5 c5) ((doneO (runM rows (l.take i)).2 x).1)]) (ResR_snoc (l:=ts) (x:=((⟨a5,n5,c5⟩:SV),(doneO (runM rows (l.take i)).2 x).1))) ?_
        refine PO.conv (conv1 (A:=Mm p (doneO (runM rows (l.take i)).2 x).2) (B:=Mm p (runM rows (l.take (i+1))).2) (fun S h=>by rw [hm2];exact h) (by repeat first | exact .z | apply Put.s)) ?_
        exact PO.againK (i+1,⟨a2,n2,c2⟩,ts++[((⟨a5,n5,c5⟩:SV),(doneO (runM rows (l.take i)).2 x).1)]) ⟨by simp only;omega,by simp only;rw [hm2,List.map_append,ht];rfl,all_snoc ho hx h3⟩ (by simp only;omega)
    · rw [List.take_of_length_le (show l.length≤i by rw [decide_eq_false_iff_not] at h2;omega)] at ht ho ⊢
      refine WP.exit<|PO.past nofun<|PO.round nofun<|PO.blockX<|PO.next<|WP.seq<|WP.reg<|WL.e e_move ?_
      refine WL.h (h_call (ClipRes_spec (xs:=ts)) k58 ?_)
      intro a7 n7 c7
      refine WL.e e_move ?_
      refine WL.h (h_call (Rows_spec (l:=(runM rows l).2) (by have:=(runM_rows hr l).2.1;omega)) k59 ?_)
      intro a9 n9 c9
      refine WL.e e_assign<|WL.e e_assign<|WL.e e_assign<|WL.next<|WP.ret<|PO.cls (A:=bun [A,Sl 123 1 resC (.slice a7 n7 c7) (ts),ResR ts,Sl 59 2 RowM.c (.slice a9 n9 c9) (runM rows l).2]) (B:=[A,Sl 123 1 resC (.slice a7 n7 c7) (ts),ResR ts,Sl 59 2 RowM.c (.slice a9 n9 c9) (runM rows l).2]) (fun S h=>h) ?_
      exact PO.fin Tryz.results19 (rv_tmp (rv_tmp (rv_tmp rv_nil))) (hK.2 ho ⟨a7,n7,c7⟩ ⟨a9,n9,c9⟩ _ Ge.one ⟨ts,RL.ge sl_rl Ge.two,fun r hr=>RL.ge (res_rl hr) (Ge.mem (.tail _ (.tail _ (.head _)))),ht⟩ (RL.ge sl_rl (Ge.mem (.tail _ (.tail _ (.tail _ (.head _)))))))
theorem EqR_spec {g:World} {A:HP} {u v:Value} {xs ys:List RowM} (hA:RL A 2 RowM.c u xs) (hB:RL A 2 RowM.c v ys) (hn:xs.length≤68719476736):Spec Tryz.prog g 22 [u,v] [A] fun K R=>K (.bool (decide (xs=ys))) (A::R):=by
  refine Spec.intro Tryz.func22 rfl Tryz.ntmps22 rfl fun R K hK=>?_
  refine WP.seq<|WP.reg<|WL.e e_assign<|WL.next<|WP.seq<|WP.seq<|WP.reg<|WL.e e_move<|WL.e (el_len (xs:=xs) sl24 hA)<|WL.e e_move<|WL.e (el_len (xs:=ys) sl24 hB)<|WL.e e_neq<|WL.next ?_
  refine WP.cond rfl (fun h1=>?_) (fun h1=>?_)
  · replace h1:xs≠ys:=fun e=>by subst e;simp at h1
    refine WP.seq<|WP.reg<|WL.e e_assign<|WL.next<|WP.ret<|PO.past nofun ?_
    exact PO.finE Tryz.results22 (rv_tmp rv_nil) (by rw [decide_eq_false h1];rfl) hK
  · replace h1:xs.length=ys.length:=by simp at h1;omega
    refine WP.skip<|PO.next<|WP.seq<|WP.seq<|WP.reg<|WL.e e_move<|WL.e (el_len (xs:=xs) sl24 hA)<|WL.e e_move<|WL.next<|WP.block<|WP.loopK (fun (i:Nat)=>[(13,.int .i64 i)]) (fun (i:Nat)=>A::R) [(0,_),(1,_),(12,_)] (fun (i:Nat)=>i≤xs.length∧xs.take i=ys.take i) (fun (i:Nat)=>xs.length - i) 0 (⟨Nat.zero_le _,rfl⟩) ?_
    rintro i ⟨hi,he⟩
    refine WP.seq<|WP.reg<|WL.e e_lss<|WL.next<|WP.seq ?_
    refine WP.cond rfl (fun h2=>?_) (fun h2=>?_)
    · have hlt:i < xs.length:=by rw [decide_eq_true_eq] at h2;omega
      obtain ⟨x,hx⟩:∃ x,xs[i]?=some x:=⟨_,List.getElem?_eq_getElem hlt⟩
      obtain ⟨y,hy⟩:∃ y,ys[i]?=some y:=⟨_,List.getElem?_eq_getElem (by omega)⟩
      refine WP.skip<|PO.next<|WP.seq<|WP.block<|WP.seq<|WP.reg<|WL.e e_move<|WL.e e_assign<|WL.next<|WP.seq<|WP.draws mixedOk 9<|RW.e 0 rfl e_move<|RW.e 1 rfl e_move<|RW.e 2 rfl (el_ia (j:=i) (xs:=xs) sl24 hA hlt)<|RW.e 3 rfl (el_loadN (j:=i) (a:=x) (xs:=xs) a59 rowE hA hx)<|RW.e 4 rfl e_move<|RW.e 5 rfl e_move<|RW.e 6 rfl (el_ia (j:=i) (xs:=ys) sl24 hB (by omega))<|RW.e 7 rfl (el_loadN (j:=i) (a:=y) (xs:=ys) a59 rowE hB hy)<|RW.e 8 rfl (e_rowne (a:=x) (b:=y) Tryz.underlying59 Tryz.underlying9 Tryz.underlying35 a9 a35 stoodRow eqgRow rfl rfl)<|RW.done<|PO.next ?_
      refine WP.cond rfl (fun h3=>?_) (fun h3=>?_)
      · replace h3:x≠y:=by simpa using h3
        replace h3:=ne_at hx hy h3
        refine WP.seq<|WP.reg<|WL.e e_assign<|WL.next<|WP.ret<|PO.blockR<|PO.past nofun<|PO.round nofun<|PO.blockR<|PO.past nofun ?_
        exact PO.finE Tryz.results22 (rv_tmp rv_nil) (by rw [decide_eq_false h3];rfl) hK
      · replace h3:x=y:=by simpa using h3
        refine WP.skip<|PO.blockN<|PO.next<|WP.reg<|WL.e (e_add (c:=((i+1:Nat):Int)) rfl rfl (by rw [w_i64 (by omega) (by omega)];omega))<|WL.e e_move<|WL.nil ?_
        exact PO.againK (i+1) ⟨by omega,eq_step he hx hy h3⟩ (by omega)
    · have hge:xs.length≤i:=by rw [decide_eq_false_iff_not] at h2;omega
      replace h2:xs=ys:=by rwa [List.take_of_length_le hge,List.take_of_length_le (by omega)] at he
      refine WP.exit<|PO.past nofun<|PO.round nofun<|PO.blockX<|PO.next<|WP.seq<|WP.reg<|WL.e e_assign<|WL.next<|WP.ret ?_
      exact PO.finE Tryz.results22 (rv_tmp rv_nil) (by rw [decide_eq_true h2];rfl) hK
theorem same1_spec {g:World} (a b:RowM):Spec Tryz.prog g 60 [a.v,b.v] [] fun K R=>K (.bool (decide (a=b))) R:=by
  refine Spec.intro Tryz.func60 rfl Tryz.ntmps60 rfl fun R K hK=>?_
  refine WP.seq<|WP.reg ?_
  refine WL.h (h_box fun b1=>?_)
  refine WL.h (h_box fun b2=>?_)
  refine WL.e e_assign<|WL.next<|WP.seq<|WP.reg<|WL.e (e_loadN a59)<|WL.e (e_loadN a59)<|WL.e (e_roweq (a:=a) (b:=b) Tryz.underlying59 Tryz.underlying9 Tryz.underlying35 a9 a35 stoodRow eqgRow rfl rfl)<|WL.e e_assign<|WL.next<|WP.ret ?_
  exact PO.fin Tryz.results60 (rv_tmp rv_nil) hK
theorem EqFR_spec {g:World} {A:HP} {u v f:Value} {xs ys:List RowM} (hA:RL A 2 RowM.c u xs) (hB:RL A 2 RowM.c v ys) (hn:xs.length≤68719476736) (hf:∀ a b:RowM,CallV Tryz.prog g f [a.v,b.v] [] fun K R=>K (.bool (decide (a=b))) R):Spec Tryz.prog g 63 [u,v,f] [A] fun K R=>K (.bool (decide (xs=ys))) (A::R):=by
  refine Spec.intro Tryz.func63 rfl Tryz.ntmps63 rfl fun R K hK=>?_
  refine WP.seq<|WP.reg<|WL.e e_assign<|WL.next<|WP.seq<|WP.seq<|WP.reg<|WL.e e_move<|WL.e (el_len (xs:=xs) sl24 hA)<|WL.e e_move<|WL.e (el_len (xs:=ys) sl24 hB)<|WL.e e_neq<|WL.next ?_
  refine WP.cond rfl (fun h1=>?_) (fun h1=>?_)
  · replace h1:xs≠ys:=fun e=>by subst e;simp at h1
    refine WP.seq<|WP.reg<|WL.e e_assign<|WL.next<|WP.ret<|PO.past nofun ?_
    exact PO.finE Tryz.results63 (rv_tmp rv_nil) (by rw [decide_eq_false h1];rfl) hK
  · replace h1:xs.length=ys.length:=by simp at h1;omega
    refine WP.skip<|PO.next<|WP.seq<|WP.seq<|WP.reg<|WL.e e_move<|WL.e (el_len (xs:=xs) sl24 hA)<|WL.e e_move<|WL.next<|WP.block<|WP.loopK (fun (i:Nat)=>[(17,.int .i64 i)]) (fun (i:Nat)=>A::R) [(1,_),(2,_),(15,_),(16,_)] (fun (i:Nat)=>i≤xs.length∧xs.take i=ys.take i) (fun (i:Nat)=>xs.length - i) 0 (⟨Nat.zero_le _,rfl⟩) ?_
    rintro i ⟨hi,he⟩
    refine WP.seq<|WP.reg<|WL.e e_lss<|WL.next<|WP.seq ?_
    refine WP.cond rfl (fun h2=>?_) (fun h2=>?_)
    · have hlt:i < xs.length:=by rw [decide_eq_true_eq] at h2;omega
      obtain ⟨x,hx⟩:∃ x,xs[i]?=some x:=⟨_,List.getElem?_eq_getElem hlt⟩
      obtain ⟨y,hy⟩:∃ y,ys[i]?=some y:=⟨_,List.getElem?_eq_getElem (by omega)⟩
      refine WP.skip<|PO.next<|WP.seq<|WP.block<|WP.seq<|WP.reg<|WL.e e_move<|WL.e (el_ia (j:=i) (xs:=xs) sl24 hA hlt)<|WL.e (el_loadN (j:=i) (a:=x) (xs:=xs) a59 rowE hA hx) ?_
      refine WL.h (h_alloc z59 fun b1=>?_)
      refine WL.e e_assign ?_
      refine WL.h' (h_store s59 ?_)
      refine WL.next<|WP.seq<|WP.reg<|WL.e e_move<|WL.e e_move<|WL.e (el_ia (j:=i) (xs:=ys) sl24 hB (by omega))<|WL.e (el_loadN (j:=i) (a:=y) (xs:=ys) a59 rowE hB hy) ?_
      refine WL.h (h_alloc z59 fun b2=>?_)
      refine WL.h' (h_store s59 ?_)
      refine WL.next<|WP.seq<|WP.reg<|WL.e e_move<|WL.e (e_loadN a59)<|WL.e (e_loadN a59) ?_
      refine WL.h (h_cally (hf x y) ?_)
      refine WL.e e_not<|WL.next ?_
      refine WP.cond rfl (fun h3=>?_) (fun h3=>?_)
      · replace h3:x≠y:=by simpa using h3
        replace h3:=ne_at hx hy h3
        refine WP.seq<|WP.reg<|WL.e e_assign<|WL.next<|WP.ret<|PO.blockR<|PO.past nofun<|PO.round nofun<|PO.blockR<|PO.past nofun ?_
        exact PO.finE Tryz.results63 (rv_tmp rv_nil) (by rw [decide_eq_false h3];rfl) hK
      · replace h3:x=y:=by simpa using h3
        refine WP.skip<|PO.blockN<|PO.next<|WP.reg<|WL.e (e_add (c:=((i+1:Nat):Int)) rfl rfl (by rw [w_i64 (by omega) (by omega)];omega))<|WL.e e_move<|WL.nil ?_
        exact PO.againK (i+1) ⟨by omega,eq_step he hx hy h3⟩ (by omega)
    · have hge:xs.length≤i:=by rw [decide_eq_false_iff_not] at h2;omega
      replace h2:xs=ys:=by rwa [List.take_of_length_le hge,List.take_of_length_le (by omega)] at he
      refine WP.exit<|PO.past nofun<|PO.round nofun<|PO.blockX<|PO.next<|WP.seq<|WP.reg<|WL.e e_assign<|WL.next<|WP.ret ?_
      exact PO.finE Tryz.results63 (rv_tmp rv_nil) (by rw [decide_eq_true h2];rfl) hK
theorem same2_spec {g:World} {A:HP} {a b:ResV} (cb:Nat) (hA:RL A 2 RowM.c a.1.v a.2) (hB:RL A 2 RowM.c b.1.v b.2) (hn:a.2.length≤68719476736):Spec Tryz.prog g 62 [.agg #[a.1.v],.agg #[b.1.v],.pointer (some ⟨cb,0,none⟩)] [A,cl cb 125 [.func (.func 60) #[] #[]]] fun K R=>K (.bool (decide (a.2=b.2))) (A::cl cb 125 [.func (.func 60) #[] #[]]::R):=by
  refine Spec.intro Tryz.func62 rfl Tryz.ntmps62 rfl fun R K hK=>?_
  refine WP.seq<|WP.reg ?_
  refine WL.h (h_box fun b1=>?_)
  refine WL.h (h_box fun b2=>?_)
  refine WL.e e_assign<|WL.next<|WP.seq<|WP.reg<|WL.e (e_fa f123_0)<|WL.e (e_load a24)<|WL.e (e_fa f123_0)<|WL.e (e_load a24)<|WL.e (e_load a125) ?_
  refine WL.h (h_call (EqFR_spec hA hB hn (fun a b=>CallV.of_spec (fs:=[]) (cs:=[]) (same1_spec a b) k60)) k63 ?_)
  refine WL.e e_assign<|WL.next<|WP.ret ?_
  exact PO.fin Tryz.results62 (rv_tmp rv_nil) hK
theorem EqFS_spec {g:World} {A B:HP} {u v f:Value} {ps qs:List (List RowM)} (hX:RsL A u ps) (hY:RsL A v qs) (hn:ps.length≤68719476736) (hr:∀ l ∈ ps,l.length≤68719476736) (hf:∀ a b:ResV,RL A 2 RowM.c a.1.v a.2→RL A 2 RowM.c b.1.v b.2→a.2.length≤68719476736→CallV Tryz.prog g f [.agg #[a.1.v],.agg #[b.1.v]] [A,B] fun K R=>K (.bool (decide (a.2=b.2))) (A::B::R)):Spec Tryz.prog g 61 [u,v,f] [A,B] fun K R=>K (.bool (decide (ps=qs))) (A::B::R):=by
  obtain ⟨xs,hA,h1x,e1⟩:=hX
  obtain ⟨ys,hB,h1y,e2⟩:=hY
  rw [← e1,List.length_map] at hn
  refine Spec.intro Tryz.func61 rfl Tryz.ntmps61 rfl fun R K hK=>?_
  refine WP.seq<|WP.reg<|WL.e e_assign<|WL.next<|WP.seq<|WP.seq<|WP.reg<|WL.e e_move<|WL.e (el_len (xs:=xs) sl37 hA)<|WL.e e_move<|WL.e (el_len (xs:=ys) sl37 hB)<|WL.e e_neq<|WL.next ?_
  refine WP.cond rfl (fun h1=>?_) (fun h1=>?_)
  · replace h1:ps≠qs:=fun e=>by
      rw [← e1,← e2] at e
      have:=congrArg List.length e
      simp at this
      simp [this] at h1
    refine WP.seq<|WP.reg<|WL.e e_assign<|WL.next<|WP.ret<|PO.past nofun ?_
    exact PO.finE Tryz.results61 (rv_tmp rv_nil) (by rw [decide_eq_false h1];rfl) hK
  · replace h1:xs.length=ys.length:=by simp at h1;omega
    refine WP.skip<|PO.next<|WP.seq<|WP.seq<|WP.reg<|WL.e e_move<|WL.e (el_len (xs:=xs) sl37 hA)<|WL.e e_move<|WL.next<|WP.block<|WP.loopK (fun (i:Nat)=>[(17,.int .i64 i)]) (fun (i:Nat)=>A::B::R) [(1,_),(2,_),(15,_),(16,_)] (fun (i:Nat)=>i≤xs.length∧ps.take i=qs.take i) (fun (i:Nat)=>xs.length - i) 0 (⟨Nat.zero_le _,rfl⟩) ?_
    rintro i ⟨hi,he⟩
    refine WP.seq<|WP.reg<|WL.e e_lss<|WL.next<|WP.seq ?_
    refine WP.cond rfl (fun h2=>?_) (fun h2=>?_)
    · have hlt:i < xs.length:=by rw [decide_eq_true_eq] at h2;omega
      obtain ⟨x,hx⟩:∃ x,xs[i]?=some x:=⟨_,List.getElem?_eq_getElem hlt⟩
      obtain ⟨y,hy⟩:∃ y,ys[i]?=some y:=⟨_,List.getElem?_eq_getElem (by omega)⟩
      have hpx:ps[i]?=some x.2:=by rw [← e1,List.getElem?_map,hx];rfl
      have hqy:qs[i]?=some y.2:=by rw [← e2,List.getElem?_map,hy];rfl
      refine WP.skip<|PO.next<|WP.seq<|WP.block<|WP.seq<|WP.reg<|WL.e e_move<|WL.e (el_ia (j:=i) (xs:=xs) sl37 hA (by omega))<|WL.e (el_loadN (vs:=resC x) (j:=i) (a:=x) (xs:=xs) a123 resE hA hx (hv:=ext_of (resE.len x))) ?_
      refine WL.h (h_alloc z123 fun b1=>?_)
      refine WL.e e_assign ?_
      refine WL.h' (h_store s123 ?_)
      refine WL.next<|WP.seq<|WP.reg<|WL.e e_move<|WL.e e_move<|WL.e (el_ia (j:=i) (xs:=ys) sl37 hB (by omega))<|WL.e (el_loadN (vs:=resC y) (j:=i) (a:=y) (xs:=ys) a123 resE hB hy (hv:=ext_of (resE.len y))) ?_
      refine WL.h (h_alloc z123 fun b2=>?_)
      refine WL.h' (h_store s123 ?_)
      refine WL.next<|WP.seq<|WP.reg<|WL.e e_move<|WL.e (e_loadN a123)<|WL.e (e_loadN a123) ?_
      refine WL.h (h_cally (hf x y (h1x x (List.mem_of_getElem? hx)) (h1y y (List.mem_of_getElem? hy)) (hr x.2 (List.mem_of_getElem? hpx))) ?_)
      refine WL.e e_not<|WL.next ?_
      refine WP.cond rfl (fun h3=>?_) (fun h3=>?_)
      · replace h3:x.2≠y.2:=by simpa using h3
        replace h3:=ne_at hpx hqy h3
        refine WP.seq<|WP.reg<|WL.e e_assign<|WL.next<|WP.ret<|PO.blockR<|PO.past nofun<|PO.round nofun<|PO.blockR<|PO.past nofun ?_
        exact PO.finE Tryz.results61 (rv_tmp rv_nil) (by rw [decide_eq_false h3];rfl) hK
      · replace h3:x.2=y.2:=by simpa using h3
        refine WP.skip<|PO.blockN<|PO.next<|WP.reg<|WL.e (e_add (c:=((i+1:Nat):Int)) rfl rfl (by rw [w_i64 (by omega) (by omega)];omega))<|WL.e e_move<|WL.nil ?_
        exact PO.againK (i+1) ⟨by omega,eq_step he hpx hqy h3⟩ (by omega)
    · have hge:xs.length≤i:=by rw [decide_eq_false_iff_not] at h2;omega
      replace h2:ps=qs:=by rwa [List.take_of_length_le (by rw [← e1,List.length_map];omega),List.take_of_length_le (by rw [← e2,List.length_map];omega)] at he
      refine WP.exit<|PO.past nofun<|PO.round nofun<|PO.blockX<|PO.next<|WP.seq<|WP.reg<|WL.e e_assign<|WL.next<|WP.ret ?_
      exact PO.finE Tryz.results61 (rv_tmp rv_nil) (by rw [decide_eq_true h2];rfl) hK
theorem Same_spec {g:World} {A:HP} {u v:Value} {ps qs:List (List RowM)} (hX:RsL A u ps) (hY:RsL A v qs) (hn:ps.length≤68719476736) (hr:∀ l ∈ ps,l.length≤68719476736):Spec Tryz.prog g 20 [u,v] [A] fun K R=>K (.bool (decide (ps=qs))) (A::R):=by
  refine Spec.intro Tryz.func20 rfl Tryz.ntmps20 rfl fun R K hK=>?_
  refine WP.seq<|WP.reg<|WL.e e_assign<|WL.next<|WP.seq<|WP.reg ?_
  refine WL.h (h_alloc z125 fun b1=>?_)
  refine WL.h' (h_store s125 ?_)
  refine WL.next<|WP.seq<|WP.reg<|WL.e e_move<|WL.e e_move<|WL.e e_makeFunc ?_
  refine WL.h (h_call (EqFS_spec (B:=cl b1 125 [.func (.func 60) #[] #[]]) hX hY hn hr (fun a b ha hb hl=>CallV.of_spec (fs:=[]) (cs:=[.pointer (some ⟨b1,0,none⟩)]) (same2_spec b1 ha hb hl) k62)) k61 ?_)
  refine WL.e e_assign<|WL.next<|WP.ret ?_
  exact PO.fin Tryz.results20 (rv_tmp rv_nil) hK
end Go.SL
namespace Go.SL.Fc
open Go Go.Proofs Go.SL
theorem ar358:arrOf Tryz.prog 358=some (5,24,1):=by kernel_rfl
theorem k113:callable Tryz.prog 113=true:=by kernel_rfl
theorem k175:callable Tryz.prog 175=true:=by kernel_rfl
theorem k19:callable Tryz.prog 19=true:=by kernel_rfl
theorem k233:callable Tryz.prog 233=true:=by kernel_rfl
theorem k234:callable Tryz.prog 234=true:=by kernel_rfl
theorem k235:callable Tryz.prog 235=true:=by kernel_rfl
theorem k64:callable Tryz.prog 64=true:=by kernel_rfl
theorem k70:callable Tryz.prog 70=true:=by kernel_rfl
theorem z358:zeroOf Tryz.prog 358=some (List.replicate 24 (.int .u8 0)):=by kernel_rfl
end Go.SL.Fc
namespace Go.SL
open Go Go.Proofs Fc
open Go.RowKit Go.Shelf in
def laysSmall_ren:Go.Shelf.Ren:=⟨fun | 283=>233 | n=>n,fun | 3=>3 | 4=>4 | 9=>9 | n=>n,fun  | n=>n⟩
theorem laysSmall:Go.Proofs.Lays.n283 Tryz.prog laysSmall_ren where
  mixed:=by kernel_rfl
  f283:=Tryz.func233.trans (congrArg some (by kernel_rfl))
  t3:=Tryz.underlying3
  a3:=Tryz.isAgg3
  z3:=Tryz.sizeOf3
  v3:=Tryz.zeroValue3
  t4:=Tryz.underlying4
  a4:=Tryz.isAgg4
  z4:=Tryz.sizeOf4
  v4:=Tryz.zeroValue4
  t9:=Tryz.underlying9
  a9:=Tryz.isAgg9
  z9:=Tryz.sizeOf9
  v9:=Tryz.zeroValue9
open Go.RowKit Go.Shelf in
def laysNumD_ren:Go.Shelf.Ren:=⟨fun | 129=>129 | 284=>234 | 317=>284 | 318=>285 | n=>n,fun | 0=>0 | 3=>3 | 4=>4 | 5=>5 | 9=>9 | 46=>148 | 53=>193 | 212=>412 | n=>n,fun | 17=>0 | n=>n⟩
theorem laysNumD:Go.Proofs.LaysM.n284 Tryz.prog laysNumD_ren where
  i0:=by kernel_rfl
  i3:=by kernel_rfl
  i4:=by kernel_rfl
  i5:=by kernel_rfl
  i9:=by kernel_rfl
  i46:=by kernel_rfl
  i53:=by kernel_rfl
  i212:=by kernel_rfl
  m17:=by kernel_rfl
  mixed:=by kernel_rfl
  f129:=Tryz.func129.trans (congrArg some (by kernel_rfl))
  f284:=Tryz.func234.trans (congrArg some (by kernel_rfl))
  f317:=Tryz.func284.trans (congrArg some (by kernel_rfl))
  f318:=Tryz.func285.trans (congrArg some (by kernel_rfl))
  t0:=Tryz.underlying0
  a0:=Tryz.isAgg0
  z0:=Tryz.sizeOf0
  v0:=Tryz.zeroValue0
  t3:=Tryz.underlying3
  a3:=Tryz.isAgg3
  z3:=Tryz.sizeOf3
  v3:=Tryz.zeroValue3
  t4:=Tryz.underlying4
  a4:=Tryz.isAgg4
  z4:=Tryz.sizeOf4
  v4:=Tryz.zeroValue4
  t5:=Tryz.underlying5
  a5:=Tryz.isAgg5
  z5:=Tryz.sizeOf5
  v5:=Tryz.zeroValue5
  t9:=Tryz.underlying9
  a9:=Tryz.isAgg9
  z9:=Tryz.sizeOf9
  v9:=Tryz.zeroValue9
  t46:=Tryz.underlying148
  a46:=Tryz.isAgg148
  z46:=Tryz.sizeOf148
  v46:=Tryz.zeroValue148
  t53:=Tryz.underlying193
  a53:=Tryz.isAgg193
  z53:=Tryz.sizeOf193
  v53:=Tryz.zeroValue193
  t212:=Tryz.underlying412
  a212:=Tryz.isAgg412
  z212:=Tryz.sizeOf412
  v212:=Tryz.zeroValue412
  g17:=by kernel_rfl
open Go.RowKit Go.Shelf in
def laysFb10_ren:Go.Shelf.Ren:=⟨fun | 285=>235 | n=>n,fun | 0=>0 | 3=>3 | 4=>4 | 5=>5 | 9=>9 | 37=>34 | 51=>35 | 53=>193 | n=>n,fun  | n=>n⟩
theorem laysFb10:Go.Proofs.Lays.n285 Tryz.prog laysFb10_ren where
  mixed:=by kernel_rfl
  f285:=Tryz.func235.trans (congrArg some (by kernel_rfl))
  t0:=Tryz.underlying0
  a0:=Tryz.isAgg0
  z0:=Tryz.sizeOf0
  v0:=Tryz.zeroValue0
  t3:=Tryz.underlying3
  a3:=Tryz.isAgg3
  z3:=Tryz.sizeOf3
  v3:=Tryz.zeroValue3
  t4:=Tryz.underlying4
  a4:=Tryz.isAgg4
  z4:=Tryz.sizeOf4
  v4:=Tryz.zeroValue4
  t5:=Tryz.underlying5
  a5:=Tryz.isAgg5
  z5:=Tryz.sizeOf5
  v5:=Tryz.zeroValue5
  t9:=Tryz.underlying9
  a9:=Tryz.isAgg9
  z9:=Tryz.sizeOf9
  v9:=Tryz.zeroValue9
  t37:=Tryz.underlying34
  a37:=Tryz.isAgg34
  z37:=Tryz.sizeOf34
  v37:=Tryz.zeroValue34
  t51:=Tryz.underlying35
  a51:=Tryz.isAgg35
  z51:=Tryz.sizeOf35
  v51:=Tryz.zeroValue35
  t53:=Tryz.underlying193
  a53:=Tryz.isAgg193
  z53:=Tryz.sizeOf193
  v53:=Tryz.zeroValue193
theorem smallS {g:World} (i:Nat) (h:i < 100):Spec Tryz.prog g 233 [.int .i64 i] [] fun K R=>K (.string ⟨(Lib.decDigits i).toArray⟩) R:=small_spec laysSmall i h
theorem numDS {g:World} {A:HP} (hT:Tab Tryz.prog A) (u:Nat) (h1:1≤u) (h2:u < 18446744073709551616):Spec Tryz.prog g 234 [.int .u64 u] [A] fun K R=>K (.int .i64 (Lib.nDigits u)) (A::R):=numD_spec laysNumD hT u h1 h2
theorem fb10S {g:World} {b T:Nat} (u:Nat) (h1:1≤u) (h2:u < 18446744073709551616):Spec Tryz.prog g 235 [.slice (some ⟨b,0,none⟩) (Lib.nDigits u) 24,.int .u64 u] [cl b T (List.replicate 24 (.int .u8 0))] fun K R=>K (.tuple #[]) (Sl T 1 eB (.slice (some ⟨b,0,none⟩) (Lib.nDigits u) 24) (Lib.decDigits u)::R):=fb10_spec laysFb10 u h1 h2
theorem fuI_spec {g:World} {A:HP} (hT:Tab Tryz.prog A) (n:UInt32):Spec Tryz.prog g 175 [.int .u64 n.toNat,.int .i64 10] [A] fun K R=>K (.string (digB n.toNat)) (A::R):=by
  have hnl:n.toNat < 4294967296:=n.toNat_lt
  refine Spec.intro Tryz.func175 rfl Tryz.ntmps175 rfl fun R K hK=>?_
  refine WP.seq<|WP.reg<|WL.e e_assign<|WL.next<|WP.seq<|WP.seq<|WP.reg<|WL.e e_move<|WL.e e_eql<|WL.next<|WP.cond_t rfl<|WP.seq<|WP.seq<|WP.reg<|WL.e e_move<|WL.e e_lss<|WL.next ?_
  refine WP.cond rfl (fun h1=>?_) (fun h1=>?_)
  · replace h1:n.toNat < 100:=by rw [decide_eq_true_eq] at h1;omega
    refine WP.seq<|WP.reg<|WL.e e_move<|WL.e (e_conv (c:=(n.toNat:Int)) (by rw [Tryz.underlying193];rfl) Tryz.underlying3 rfl (w_i64 (by omega) (by omega))) ?_
    refine WL.h (h_call (smallS n.toNat h1) k233 ?_)
    refine WL.e e_assign<|WL.next<|WP.ret<|PO.past nofun<|PO.past nofun ?_
    exact PO.fin Tryz.results175 (rv_tmp rv_nil) hK
  · replace h1:100≤n.toNat:=by rw [decide_eq_false_iff_not] at h1;omega
    have hnd:Lib.nDigits n.toNat≤20:=by have:=Lib.numDigits_eq n.toNat (by omega) (by omega);split at this <;> omega
    refine WP.skip<|PO.next<|WP.seq<|WP.reg ?_
    refine WL.h (h_alloc z358 fun b1=>?_)
    refine WL.next<|WP.seq<|WP.reg<|WL.e e_move ?_
    refine WL.h (h_call (numDS hT n.toNat (by omega) (by omega)) k234 ?_)
    refine WL.e e_assign<|WL.next<|WP.seq<|WP.reg<|WL.e e_move<|WL.e (e_toArr (hi:=Lib.nDigits n.toNat) ar358 (by omega))<|WL.e e_move ?_
    refine WL.h (h_call (fb10S (b:=b1) n.toNat (by omega) (by omega)) k235 ?_)
    refine WL.next<|WP.seq<|WP.reg<|WL.e e_move<|WL.e (e_toArr (hi:=Lib.nDigits n.toNat) ar358 (by omega))<|WL.e (e_b2s (xs:=Lib.decDigits n.toNat) Tryz.underlying34 Tryz.underlying5 Tryz.underlying9 sl_rl)<|WL.e e_assign<|WL.next<|WP.ret<|PO.past nofun ?_
    exact PO.fin Tryz.results175 (rv_tmp rv_nil) hK
theorem fu_spec {g:World} {A:HP} (hT:Tab Tryz.prog A) (n:UInt32):Spec Tryz.prog g 113 [.int .u64 n.toNat,.int .i64 10] [A] fun K R=>K (.string (digB n.toNat)) (A::R):=by
  refine Spec.intro Tryz.func113 rfl Tryz.ntmps113 rfl fun R K hK=>?_
  refine WP.seq<|WP.reg<|WL.e e_assign<|WL.next<|WP.seq<|WP.reg<|WL.e e_move<|WL.e e_move ?_
  refine WL.h (h_call (fuI_spec hT n) k175 ?_)
  refine WL.e e_assign<|WL.next<|WP.ret ?_
  exact PO.fin Tryz.results113 (rv_tmp rv_nil) hK
theorem Marker_spec {g:World} {A:HP} (hT:Tab Tryz.prog A) (n:UInt32):Spec Tryz.prog g 64 [.int .u32 n.toNat] [A] fun K R=>K (.string (markK n)) (A::R):=by
  have hnl:n.toNat < 4294967296:=n.toNat_lt
  refine Spec.intro Tryz.func64 rfl Tryz.ntmps64 rfl fun R K hK=>?_
  refine WP.seq<|WP.reg<|WL.e e_assign<|WL.next<|WP.seq<|WP.reg<|WL.e e_move<|WL.e (e_conv (c:=(n.toNat:Int)) (by rw [Tryz.underlying35];rfl) Tryz.underlying193 rfl (by simp [IntKind.wrap,IntKind.bits,IntKind.signed];omega)) ?_
  refine WL.h (h_call (fu_spec hT n) k113 ?_)
  refine WL.e (e_sadd rfl rfl (by have:=dig_size hnl;show 2+_ < _;omega))<|WL.e e_assign<|WL.next<|WP.ret ?_
  exact PO.fin Tryz.results64 (rv_tmp rv_nil) hK
def tenS:ByteArray:=⟨#[48,49,50,51,52,53,54,55,56,57]⟩
theorem ten_cut {n:Nat} (h:n < 10):tenS.extract n (n+1)=⟨#[UInt8.ofNat (48+n)]⟩:=by
  have:∀ m:Fin 10,tenS.extract m.val (m.val+1)=⟨#[UInt8.ofNat (48+m.val)]⟩:=by decide +kernel
  exact this ⟨n,h⟩
set_option maxHeartbeats 1000000 in
theorem rDig_step {g:World} (n:UInt32) (ih:∀ m:UInt32,m.toNat < n.toNat→Spec Tryz.prog g 70 [.int .u32 m.toNat] [] fun K R=>K (.string (digB m.toNat)) R):Spec Tryz.prog g 70 [.int .u32 n.toNat] [] fun K R=>K (.string (digB n.toNat)) R:=by
  have hnl:n.toNat < 4294967296:=n.toNat_lt
  refine Spec.intro Tryz.func70 rfl Tryz.ntmps70 rfl fun R K hK=>?_
  refine WP.seq<|WP.reg<|WL.e e_assign<|WL.next<|WP.seq<|WP.seq<|WP.reg<|WL.e e_move<|WL.e (e_lss32 (b:=10))<|WL.next ?_
  refine WP.cond rfl (fun h1=>?_) (fun h1=>?_)
  · replace h1:n.toNat < 10:=UInt32.lt_iff_toNat_lt.1 (of_decide_eq_true h1)
    refine WP.seq<|WP.reg<|WL.e e_move<|WL.e e_move<|WL.e (e_add (c:=((n.toNat+1:Nat):Int)) rfl rfl (by simp [IntKind.wrap,IntKind.bits,IntKind.signed];omega))<|WL.e (e_slice_str (s:=tenS) (lo:=n.toNat) (hi:=n.toNat+1) Tryz.underlying9 (Nat.le_succ _) (by show _≤10;omega))<|WL.e e_assign<|WL.next<|WP.ret<|PO.past nofun ?_
    exact PO.finE Tryz.results70 (rv_tmp rv_nil) (by rw [ten_cut h1,← dig_small h1];rfl) hK
  · replace h1:¬ n.toNat < 10:=fun e=>of_decide_eq_false h1 (UInt32.lt_iff_toNat_lt.2 e)
    have hq:(n / 10).toNat=n.toNat / 10:=UInt32.toNat_div n 10
    refine WP.skip<|PO.next<|WP.seq<|WP.draws mixedOk 11<|RW.e 0 rfl e_move<|RW.e 1 rfl (e_quo (c:=((n / 10:UInt32).toNat:Int)) rfl rfl (by decide) (by rw [hq,show (n.toNat:Int).tdiv 10=((n.toNat / 10:Nat):Int) from (Int.ofNat_tdiv n.toNat 10).symm];simp [IntKind.wrap,IntKind.bits,IntKind.signed];omega))<|RW.e 3 rfl e_move<|RW.e 4 rfl (e_rem (c:=((n.toNat % 10:Nat):Int)) rfl rfl (by decide) (Int.ofNat_tmod n.toNat 10).symm)<|RW.e 5 rfl e_move<|RW.e 6 rfl (e_rem (c:=((n.toNat % 10:Nat):Int)) rfl rfl (by decide) (Int.ofNat_tmod n.toNat 10).symm)<|RW.e 7 rfl (e_add (c:=((n.toNat % 10+1:Nat):Int)) rfl rfl (by simp [IntKind.wrap,IntKind.bits,IntKind.signed];omega))<|RW.e 8 rfl (e_slice_str (s:=tenS) (lo:=(n.toNat % 10)) (hi:=(n.toNat % 10)+1) Tryz.underlying9 (Nat.le_succ _) (by show _≤10;omega)) ?_
    refine RW.any (is:=[2]) rfl ⟨?_,trivial⟩
    refine RWat.h rfl rfl rfl ?_
    refine (h_call (ih (n / 10) (by omega)) k70 ?_)
    refine ⟨⟨⟨_,rfl,.inl ⟨rfl,(e_slice_str (s:=tenS) (lo:=(n.toNat % 10)) (hi:=(n.toNat % 10)+1) Tryz.underlying9 (Nat.le_succ _) (by show _≤10;omega))⟩⟩,⟨_,rfl,.inl ⟨rfl,(e_add (c:=((n.toNat % 10+1:Nat):Int)) rfl rfl (by simp [IntKind.wrap,IntKind.bits,IntKind.signed];omega))⟩⟩,⟨_,rfl,.inl ⟨rfl,(e_rem (c:=((n.toNat % 10:Nat):Int)) rfl rfl (by decide) (Int.ofNat_tmod n.toNat 10).symm)⟩⟩,⟨_,rfl,.inl ⟨rfl,e_move⟩⟩,⟨_,rfl,.inl ⟨rfl,(e_rem (c:=((n.toNat % 10:Nat):Int)) rfl rfl (by decide) (Int.ofNat_tmod n.toNat 10).symm)⟩⟩,⟨_,rfl,.inl ⟨rfl,e_move⟩⟩,trivial⟩,?_⟩
    refine RW.e 9 rfl (e_sadd rfl rfl (by have:=dig_size (n:=(n / 10).toNat) (by omega);rw [ten_cut (show n.toNat % 10 < 10 by omega)];show _+1 < _;omega))<|RW.e 10 rfl e_assign<|RW.done<|PO.next<|WP.ret ?_
    exact PO.finE Tryz.results70 (rv_tmp rv_nil) (by rw [ten_cut (show n.toNat % 10 < 10 by omega),hq,← dig_big h1];rfl) hK
theorem rDig_spec {g:World} (n:UInt32):Spec Tryz.prog g 70 [.int .u32 n.toNat] [] fun K R=>K (.string (digB n.toNat)) R:=by
  have h:∀ k,∀ n:UInt32,n.toNat=k→Spec Tryz.prog g 70 [.int .u32 n.toNat] [] fun K R=>K (.string (digB n.toNat)) R:=fun k=>by
    induction k using Nat.strongRecOn with
    | _ k ih=>exact fun n hn=>rDig_step n fun m hm=>ih m.toNat (by omega) m rfl
  exact h n.toNat n rfl
theorem rMark_spec {g:World} (n:UInt32):Spec Tryz.prog g 27 [.int .u32 n.toNat] [] fun K R=>K (.string (markK n)) R:=by
  have hnl:n.toNat < 4294967296:=n.toNat_lt
  refine Spec.intro Tryz.func27 rfl Tryz.ntmps27 rfl fun R K hK=>?_
  refine WP.seq<|WP.reg<|WL.e e_assign<|WL.next<|WP.seq<|WP.reg<|WL.e e_move ?_
  refine WL.h (h_call (rDig_spec n) k70 ?_)
  refine WL.e (e_sadd rfl rfl (by have:=dig_size hnl;show 2+_ < _;omega))<|WL.e e_assign<|WL.next<|WP.ret ?_
  exact PO.fin Tryz.results27 (rv_tmp rv_nil) hK
theorem mark_ok1:[(⟨1,kT,⟨#[]⟩,0⟩:OpM)].all opOk=true:=by
  simp [opOk,kT_ok,sEq_iff]
theorem mark_ok2 {v n:UInt32}:[(⟨2,kT,⟨#[]⟩,v⟩:OpM),⟨2,markK n,⟨#[]⟩,1⟩].all opOk=true:=by
  simp [opOk,kT_ok,markK_ok,sEq_iff]
theorem mark_ask1 {l:List RowM} (hl:Rising l):(runM l [(⟨1,kT,⟨#[]⟩,0⟩:OpM)]).1=[scanR l (one kT) 256]:=by
  show [scanR l (one kT) 1]=_
  rw [scan_one hl]
theorem mark_put2 {l:List RowM} {v n:UInt32}:(runM l [(⟨2,kT,⟨#[]⟩,v⟩:OpM),⟨2,markK n,⟨#[]⟩,1⟩]).2=setR (setR l kT v) (markK n) 1:=rfl
theorem tick_cons {l:List RowM} {r:RowM} {ts:List RowM} (h:scanR l (one kT) 256=r::ts):1+r.val=tick l:=by unfold tick;rw [h]
theorem tick_nil {l:List RowM} (h:scanR l (one kT) 256=[]):1=tick l:=by unfold tick;rw [h]
theorem fill24 {a0 a1 a2 a3 b0 b1 b2 b3:Value}:Instr.fill (fun i=>some (i * 4,4)) (List.replicate 2 [Value.int .u8 0,Value.string .empty,Value.string .empty,Value.int .u32 0]).flatten.toArray [(0,.agg #[a0,a1,a2,a3]),(1,.agg #[b0,b1,b2,b3])]=some [a0,a1,a2,a3,b0,b1,b2,b3].toArray:=by kernel_rfl
set_option maxHeartbeats 1000000 in
theorem mark_spec {g:World} {A:HP} (hT:Tab Tryz.prog A) {u:Value} {l:List RowM} (hA:RL A 2 RowM.c u l) (hr:Rising l) (hk:KeysOk l) (hn:l.length≤900000) (n:UInt32):Spec Tryz.prog g 21 [u,.int .u32 n.toNat] [A] fun K R=>∀ (s:SV) B,Ge A B→RL B 2 RowM.c s.v (markR l n)→K s.v (B::R):=by
  refine Spec.intro Tryz.func21 rfl Tryz.ntmps21 rfl fun R K hK=>?_
  refine WP.seq<|WP.reg<|WL.e e_assign<|WL.next<|WP.seq<|WP.reg<|WL.e e_move<|WL.e (e_build z115 p115 (.o (.const (.int .u8 1)) rfl<|.o (.const (.string ⟨#[95,116]⟩)) rfl<|.z (.string .empty)<|.z (.int .u32 0)<|.n)) ?_
  refine WL.h (h_bs sl36 z115 (.a4 (.tmp 14) rfl<|.n) fun b1=>?_)
  refine WL.conv (M:=bun [_,A]::R) (fun S h=>bun_stars (L:=[_,A]) h) ?_
  refine WL.h (h_call (pRun_spec (rows:=l) (l:=[(⟨1,kT,⟨#[]⟩,0⟩:OpM)]) (hA.ge Ge.two) (RL.ge (lit_rl opE [(⟨1,kT,⟨#[]⟩,0⟩:OpM)] rfl) Ge.one) hr hk (by simp;omega)) k19 ?_)
  refine ⟨fun h=>absurd h (by rw [mark_ok1];decide),fun _ s1 s2 B1 hG1 hR1 hL1=>?_⟩
  obtain ⟨ts,q1,q2,q3⟩:=hR1
  rw [mark_ask1 hr] at q3
  obtain ⟨t,rfl⟩:∃ t,ts=[t]:=by
    have:=congrArg List.length q3
    rw [List.length_map] at this
    exact List.length_eq_one_iff.1 this
  have ht:t.2=scanR l (one kT) 256:=by simpa using q3
  have q4:=q2 t (by simp)
  refine WL.e e_move<|WL.e e_extract<|WL.e e_extract<|WL.e e_extract<|WL.e e_assign<|WL.e e_assign<|WL.e e_assign<|WL.next<|WP.seq<|WP.reg<|WL.e e_assign<|WL.next<|WP.seq<|WP.seq<|WP.reg<|WL.e e_move<|WL.e (el_len (xs:=[t]) sl37 q1)<|WL.e e_gtr<|WL.e e_move ?_
  refine WL.bool 23 rfl (fun g1=>?_) (fun g1=>?_)
  · skip
    refine WL.e e_move<|WL.e (el_ia (j:=0) (xs:=[t]) sl37 q1 (by simp))<|WL.e (el_fa (z:=1) (j:=0) (xs:=[t]) f123_0 q1 (by simp))<|WL.e (el_load0 (j:=0) (xs:=[t]) (a:=t) a24 resE q1 rfl)<|WL.e (el_len (xs:=t.2) sl24 q4)<|WL.e e_gtr<|WL.e e_pick_t<|WL.next ?_
    refine WP.cond rfl (fun h1=>?_) (fun h1=>?_)
    · replace h1:0 < t.2.length:=by simpa using h1
      obtain ⟨r,hr0⟩:∃ r,t.2[0]?=some r:=⟨_,List.getElem?_eq_getElem h1⟩
      have ht3:1+r.val=tick l:=by
        cases e:t.2 with
        | nil=>rw [e] at h1;simp at h1
        | cons r2 l2=>
          rw [e] at hr0
          cases hr0
          exact tick_cons (ht.symm.trans e)
      refine WP.reg<|WL.e e_move<|WL.e e_move<|WL.e (el_ia (j:=0) (xs:=[t]) sl37 q1 (by simp))<|WL.e (el_fa (z:=1) (j:=0) (xs:=[t]) f123_0 q1 (by simp))<|WL.e (el_load0 (j:=0) (xs:=[t]) (a:=t) a24 resE q1 rfl)<|WL.e (el_ia (j:=0) (xs:=t.2) sl24 q4 h1)<|WL.e (el_fa (z:=2) (j:=0) (xs:=t.2) f59_1 q4 h1)<|WL.e (el_load (j:=0) (f:=1) (xs:=t.2) (a:=r) a35 rowE q4 hr0)<|WL.e (e_add32 (a:=1) (b:=r.val))<|WL.e e_assign<|WL.next<|WP.seq<|WP.reg<|WL.e e_move<|WL.e e_move<|WL.e (e_build z115 p115 (.o (.const (.int .u8 2)) rfl<|.o (.const (.string ⟨#[95,116]⟩)) rfl<|.z (.string .empty)<|.o (.tmp 42) rfl<|.n))<|WL.e e_move ?_
      refine WL.h (h_call (Marker_spec ((hT.ge Ge.two).ge hG1) n) k64 ?_)
      refine WL.e (e_build z115 p115 (.o (.const (.int .u8 2)) rfl<|.o (.tmp 45) rfl<|.z (.string .empty)<|.o (.const (.int .u32 1)) rfl<|.n)) ?_
      refine WL.h (h_bs (hc:=fill24) sl36 z115 (.a4 (.tmp 43) rfl<|.a4 (.tmp 46) rfl<|.n) fun b2=>?_)
      refine WL.conv (M:=bun [_,B1]::R) (fun S h=>bun_stars (L:=[_,B1]) h) ?_
      refine WL.h (h_call (pRun_spec (rows:=l) (l:=[(⟨2,kT,⟨#[]⟩,(1+r.val)⟩:OpM),⟨2,markK n,⟨#[]⟩,1⟩]) (((hA.ge Ge.two).ge hG1).ge Ge.two) (RL.ge (lit_rl opE [(⟨2,kT,⟨#[]⟩,(1+r.val)⟩:OpM),⟨2,markK n,⟨#[]⟩,1⟩] rfl) Ge.one) hr hk (by simp;omega)) k19 ?_)
      refine ⟨fun h=>absurd h (by rw [mark_ok2];decide),fun _ s3 s4 B2 hG2 hR2 hL2=>?_⟩
      refine WL.e e_move<|WL.e e_extract<|WL.e e_extract<|WL.e e_extract<|WL.e e_assign<|WL.e e_assign<|WL.e e_assign<|WL.next<|WP.seq<|WP.reg<|WL.e e_move<|WL.e e_assign<|WL.next<|WP.ret ?_
      exact PO.fin Tryz.results21 (rv_tmp rv_nil) (hK s4 B2 (((Ge.two.trans hG1).trans Ge.two).trans hG2) (by rw [mark_put2] at hL2;unfold markR;rw [← ht3];exact hL2))
    · replace h1:t.2=[]:=List.length_eq_zero_iff.1 (by simp at h1;simpa using h1)
      have ht4:1=tick l:=tick_nil (ht.symm.trans h1)
      refine WP.skip<|PO.next<|WP.seq<|WP.reg<|WL.e e_move<|WL.e e_move<|WL.e (e_build z115 p115 (.o (.const (.int .u8 2)) rfl<|.o (.const (.string ⟨#[95,116]⟩)) rfl<|.z (.string .empty)<|.o (.tmp 42) rfl<|.n))<|WL.e e_move ?_
      refine WL.h (h_call (Marker_spec ((hT.ge Ge.two).ge hG1) n) k64 ?_)
      refine WL.e (e_build z115 p115 (.o (.const (.int .u8 2)) rfl<|.o (.tmp 45) rfl<|.z (.string .empty)<|.o (.const (.int .u32 1)) rfl<|.n)) ?_
      refine WL.h (h_bs (hc:=fill24) sl36 z115 (.a4 (.tmp 43) rfl<|.a4 (.tmp 46) rfl<|.n) fun b3=>?_)
      refine WL.conv (M:=bun [_,B1]::R) (fun S h=>bun_stars (L:=[_,B1]) h) ?_
      refine WL.h (h_call (pRun_spec (rows:=l) (l:=[(⟨2,kT,⟨#[]⟩,1⟩:OpM),⟨2,markK n,⟨#[]⟩,1⟩]) (((hA.ge Ge.two).ge hG1).ge Ge.two) (RL.ge (lit_rl opE [(⟨2,kT,⟨#[]⟩,1⟩:OpM),⟨2,markK n,⟨#[]⟩,1⟩] rfl) Ge.one) hr hk (by simp;omega)) k19 ?_)
      refine ⟨fun h=>absurd h (by rw [mark_ok2];decide),fun _ s3 s4 B2 hG2 hR2 hL2=>?_⟩
      refine WL.e e_move<|WL.e e_extract<|WL.e e_extract<|WL.e e_extract<|WL.e e_assign<|WL.e e_assign<|WL.e e_assign<|WL.next<|WP.seq<|WP.reg<|WL.e e_move<|WL.e e_assign<|WL.next<|WP.ret ?_
      exact PO.fin Tryz.results21 (rv_tmp rv_nil) (hK s4 B2 (((Ge.two.trans hG1).trans Ge.two).trans hG2) (by rw [mark_put2] at hL2;unfold markR;rw [← ht4];exact hL2))
  · simp at g1 
end Go.SL
namespace Go.SL.Fc
open Go Go.Proofs Go.SL
theorem ar25:arrOf Tryz.prog 25=some (24,3,1):=by kernel_rfl
theorem k20:callable Tryz.prog 20=true:=by kernel_rfl
theorem k21:callable Tryz.prog 21=true:=by kernel_rfl
theorem k22:callable Tryz.prog 22=true:=by kernel_rfl
theorem z25:zeroOf Tryz.prog 25=some [.slice none 0 0,.slice none 0 0,.slice none 0 0]:=by kernel_rfl
theorem zz3:(Tryz.prog.info? 3).bind (·.zero)=some (.int .i64 0):=by kernel_rfl
end Go.SL.Fc
namespace Go.SL
open Go Go.Proofs Fc
set_option maxHeartbeats 8000000 in
theorem Serial_spec {g:World} {A:HP} (hT:Tab Tryz.prog A) {u v:Value} {ps:List PDeed} {order:List Int} {r0 r1 r2:SV} {rows:List (List RowM)} (hD:DpL A u ps) (hO:RL A 1 intC v order) (hR:M3 A [r0,r1,r2] rows) (hn:ps.length≤60) (hs:∀ p ∈ ps,SmP 2000 p) (ho:order.length≤100) :
    Spec Tryz.prog g 10 [u,v,.agg #[r0.v,r1.v,r2.v]] [A] fun K R=>K (.bool (serM ps order rows)) (A::R):=by
  obtain ⟨xs,hX,hXD,hXM⟩:=hD
  have hxl:xs.length=ps.length:=by rw [← hXM,List.length_map]
  have hrl:rows.length=3:=hR.1.symm
  refine Spec.intro Tryz.func10 rfl Tryz.ntmps10 rfl fun R K hK=>?_
  refine WP.seq<|WP.reg ?_
  refine WL.h (h_box fun b1=>?_)
  refine WL.e e_assign<|WL.next<|WP.seq<|WP.reg ?_
  refine WL.h (h_makeMapB (ek:=eI64) fun sm=>?_)
  refine WL.e e_assign<|WL.next<|WP.seq<|WP.seq<|WP.reg<|WL.e e_move<|WL.e (el_len (xs:=order) sl23 hO)<|WL.e e_move<|WL.next<|WP.block<|WP.loopK (fun (z:Nat × List (Nat × Value))=>[(21,.int .i64 z.1)]) (fun (z:Nat × List (Nat × Value))=>Mp eI64 (.map (some sm)) (z.2)::cl b1 25 [r0.v,r1.v,r2.v]::A::R) [(0,_),(1,_),(5,_),(7,_),(19,_),(20,_)] (fun (z:Nat × List (Nat × Value))=>z.1≤order.length∧SeenI z.2 order z.1∧∀ j,j < z.1→ordAt ps order j=true) (fun (z:Nat × List (Nat × Value))=>order.length - z.1) (0,[]) (⟨Nat.zero_le _,SeenI.init order,fun j hj=>absurd hj (Nat.not_lt_zero j)⟩) ?_
  rintro ⟨i,kvs⟩ ⟨hi,hS,hall⟩
  simp only at hi hS hall
  dsimp only
  refine WP.seq<|WP.reg<|WL.e e_lss<|WL.next<|WP.seq ?_
  refine WP.cond rfl (fun h1=>?_) (fun h1=>?_)
  · have hlt:i < order.length:=by rw [decide_eq_true_eq] at h1;omega
    obtain ⟨k,hk⟩:∃ k,order[i]?=some k:=⟨_,List.getElem?_eq_getElem hlt⟩
    refine WP.skip<|PO.next<|WP.seq<|WP.block<|WP.seq<|WP.reg<|WL.e (el_ia (j:=i) (xs:=order) sl23 hO hlt)<|WL.e (el_load0 (j:=i) (xs:=order) (a:=k) a3 intE hO hk)<|WL.e e_assign<|WL.next<|WP.seq<|WP.seq<|WP.reg<|WL.e e_move<|WL.e e_lss<|WL.e e_move ?_
    refine WL.bool 27 rfl (fun g1=>?_) (fun g1=>?_)
    · have hbad:=ord_neg (ds:=ps) hk (of_decide_eq_true g1)
      refine WL.skip<|WL.skip<|WL.skip<|WL.skip<|WL.e e_pick_t<|WL.e e_move<|WL.skip<|WL.skip<|WL.skip<|WL.skip<|WL.e e_pick_t<|WL.e e_move<|WL.skip<|WL.skip<|WL.skip<|WL.skip<|WL.skip<|WL.skip<|WL.e e_pick_t<|WL.e e_move<|WL.skip<|WL.skip<|WL.skip<|WL.skip ?_
      refine WL.skip<|WL.skip<|WL.e e_pick_t<|WL.next<|WP.cond_t rfl<|WP.seq<|WP.reg<|WL.e e_assign<|WL.next<|WP.ret<|PO.past nofun<|PO.blockR<|PO.past nofun<|PO.round nofun<|PO.blockR<|PO.past nofun ?_
      exact PO.finE Tryz.results10 (rv_tmp rv_nil) (by rw [ord_no hlt hbad rows];rfl) hK
    · obtain ⟨n,rfl⟩:∃ n:Nat,k=n:=⟨k.toNat,by have:=of_decide_eq_false g1;omega⟩
      refine WL.e e_move<|WL.e e_move<|WL.e (el_len (xs:=xs) sl22 hX)<|WL.e e_geq<|WL.e e_pick_f<|WL.e e_move ?_
      refine WL.bool 33 rfl (fun g2=>?_) (fun g2=>?_)
      · have hbad:=ord_big (ds:=ps) hk (by have:=of_decide_eq_true g2;omega)
        refine WL.skip<|WL.skip<|WL.skip<|WL.skip<|WL.e e_pick_t<|WL.e e_move<|WL.skip<|WL.skip<|WL.skip<|WL.skip<|WL.skip<|WL.skip<|WL.e e_pick_t<|WL.e e_move<|WL.skip<|WL.skip<|WL.skip<|WL.skip<|WL.skip<|WL.skip<|WL.e e_pick_t<|WL.next<|WP.cond_t rfl<|WP.seq ?_
        refine WP.reg<|WL.e e_assign<|WL.next<|WP.ret<|PO.past nofun<|PO.blockR<|PO.past nofun<|PO.round nofun<|PO.blockR<|PO.past nofun ?_
        exact PO.finE Tryz.results10 (rv_tmp rv_nil) (by rw [ord_no hlt hbad rows];rfl) hK
      · have hnl:n < xs.length:=by have:=of_decide_eq_false g2;omega
        obtain ⟨x,hx⟩:∃ x,xs[n]?=some x:=⟨_,List.getElem?_eq_getElem hnl⟩
        have hp:ps[n]?=some x.2:=by rw [← hXM,List.getElem?_map,hx];rfl
        have hse:=(hXD x (List.mem_of_getElem? hx)).site
        refine WL.e e_move<|WL.e e_move<|WL.e (e_seenI n hS Tryz.underlying51 (key_i64 Tryz.underlying3) zz3)<|WL.e e_gtr<|WL.e e_pick_f<|WL.e e_move ?_
        refine WL.bool 39 rfl (fun g3=>?_) (fun g3=>?_)
        · replace g3:(n:Int) ∈ order.take i:=by
            by_cases e:(n:Int) ∈ order.take i
            · exact e
            · rw [if_neg e] at g3;exact absurd g3 (by decide)
          have hbad:=ord_seen (ds:=ps) hk g3
          refine WL.skip<|WL.skip<|WL.skip<|WL.skip<|WL.skip<|WL.skip<|WL.e e_pick_t<|WL.e e_move<|WL.skip<|WL.skip<|WL.skip<|WL.skip<|WL.skip<|WL.skip<|WL.e e_pick_t<|WL.next<|WP.cond_t rfl<|WP.seq<|WP.reg<|WL.e e_assign<|WL.next<|WP.ret<|PO.past nofun<|PO.blockR ?_
          refine PO.past nofun<|PO.round nofun<|PO.blockR<|PO.past nofun ?_
          exact PO.finE Tryz.results10 (rv_tmp rv_nil) (by rw [ord_no hlt hbad rows];rfl) hK
        · replace g3:¬ (n:Int) ∈ order.take i:=fun e=>by rw [if_pos e] at g3;exact absurd g3 (by decide)
          refine WL.e e_move<|WL.e e_move<|WL.e (el_ia (j:=n) (xs:=xs) sl22 hX hnl)<|WL.e (el_fa (z:=5) (j:=n) (xs:=xs) f39_1 hX hnl)<|WL.e (el_load (j:=n) (f:=1) (xs:=xs) (a:=x) a5 dxE hX hx)<|WL.e e_lss<|WL.e e_pick_f<|WL.e e_move ?_
          refine WL.bool 47 rfl (fun g4=>?_) (fun g4=>?_)
          · have hbad:=ord_site hk hp (by rw [hse];have:=of_decide_eq_true g4;omega)
            refine WL.skip<|WL.skip<|WL.skip<|WL.skip<|WL.skip<|WL.skip<|WL.e e_pick_t<|WL.next<|WP.cond_t rfl<|WP.seq<|WP.reg<|WL.e e_assign<|WL.next<|WP.ret<|PO.past nofun<|PO.blockR<|PO.past nofun<|PO.round nofun<|PO.blockR<|PO.past nofun ?_
            exact PO.finE Tryz.results10 (rv_tmp rv_nil) (by rw [ord_no hlt hbad rows];rfl) hK
          · replace g4:1≤x.1.site.toNat:=by have:=of_decide_eq_false g4;omega
            refine WL.e e_move<|WL.e e_move<|WL.e (el_ia (j:=n) (xs:=xs) sl22 hX hnl)<|WL.e (el_fa (z:=5) (j:=n) (xs:=xs) f39_1 hX hnl)<|WL.e (el_load (j:=n) (f:=1) (xs:=xs) (a:=x) a5 dxE hX hx)<|WL.e e_gtr<|WL.e e_pick_f<|WL.next ?_
            refine WP.cond rfl (fun h5=>?_) (fun h5=>?_)
            · have hbad:=ord_site hk hp (by rw [hse];have:=of_decide_eq_true h5;omega)
              refine WP.seq<|WP.reg<|WL.e e_assign<|WL.next<|WP.ret<|PO.past nofun<|PO.blockR<|PO.past nofun<|PO.round nofun<|PO.blockR<|PO.past nofun ?_
              exact PO.finE Tryz.results10 (rv_tmp rv_nil) (by rw [ord_no hlt hbad rows];rfl) hK
            · replace h5:x.1.site.toNat≤3:=by have:=of_decide_eq_false h5;omega
              refine WP.skip<|PO.next<|WP.reg<|WL.e e_move<|WL.e e_move ?_
              refine WL.h' (h_mapUpdate (k:=n) (ek:=eI64) (kvs:=kvs) Tryz.underlying51 (key_i64 Tryz.underlying3) ?_)
              refine WL.nil<|PO.blockN<|PO.next<|WP.reg<|WL.e (e_add (c:=((i+1:Nat):Int)) rfl rfl (by rw [w_i64 (by omega) (by omega)];omega))<|WL.e e_move<|WL.nil ?_
              exact PO.againK (i+1,mset kvs n (.int .i64 1)) ⟨by simp only;omega,hS.step hk,fun j hj=>by
                simp only at hj
                rcases Nat.lt_or_ge j i with h9 | h9
                · exact hall j h9
                · obtain rfl:j=i:=by omega
                  exact ord_at hk hp (by rw [hse];omega) (by rw [hse];omega) g3⟩ (by simp only;omega)
  · have hok:=ord_yes (fun j hj=>hall j (by rw [decide_eq_false_iff_not] at h1;omega))
    refine WP.exit<|PO.past nofun<|PO.round nofun<|PO.blockX<|PO.next<|WP.seq<|WP.seq<|WP.reg<|WL.e e_move<|WL.e (el_len (xs:=order) sl23 hO)<|WL.e e_move<|WL.e (el_len (xs:=xs) sl22 hX)<|WL.e e_neq<|WL.next ?_
    refine WP.cond rfl (fun h6=>?_) (fun h6=>?_)
    · replace h6:order.length≠ps.length:=fun e=>by simp [e,hxl] at h6
      refine WP.seq<|WP.reg<|WL.e e_assign<|WL.next<|WP.ret<|PO.past nofun ?_
      exact PO.finE Tryz.results10 (rv_tmp rv_nil) (by rw [ser_len h6];rfl) hK
    · replace h6:order.length=ps.length:=by simp at h6;omega
      refine WP.skip<|PO.next<|WP.seq<|WP.reg ?_
      refine WL.h (h_alloc z25 fun b2=>?_)
      refine WL.next<|WP.seq<|WP.seq<|WP.reg<|WL.e e_move<|WL.e (el_len (xs:=order) sl23 hO)<|WL.e e_move<|WL.next<|WP.block<|WP.loopK (fun (z:Nat × List SV × List (List RowM) × HP)=>[(65,.int .i64 z.1)]) (fun (z:Nat × List SV × List (List RowM) × HP)=>cl b2 25 (svs z.2.1)::cl b1 25 [r0.v,r1.v,r2.v]::z.2.2.2::R) [(0,_),(5,_),(10,_),(63,_),(64,_)] (fun (z:Nat × List SV × List (List RowM) × HP)=>z.1≤order.length∧foldD ps [[],[],[]] (order.take z.1)=some z.2.2.1∧OkM z.2.2.1 z.1∧M3 z.2.2.2 z.2.1 z.2.2.1∧Ge A z.2.2.2) (fun (z:Nat × List SV × List (List RowM) × HP)=>order.length - z.1) (0,[⟨none,0,0⟩,⟨none,0,0⟩,⟨none,0,0⟩],[[],[],[]],A) (⟨Nat.zero_le _,rfl,OkM.init,M3.init,Ge.refl A⟩) ?_
      rintro ⟨i,vs,M,B⟩ ⟨hi,hf,hM,h3,hG⟩
      simp only at hi hf hM h3 hG
      dsimp only
      refine WP.seq<|WP.reg<|WL.e e_lss<|WL.next<|WP.seq ?_
      refine WP.cond rfl (fun h7=>?_) (fun h7=>?_)
      · have hlt:i < order.length:=by rw [decide_eq_true_eq] at h7;omega
        obtain ⟨k,hk⟩:∃ k,order[i]?=some k:=⟨_,List.getElem?_eq_getElem hlt⟩
        obtain ⟨n,p,rfl,hp,hs1,hs2⟩:=ord_get hok hk
        obtain ⟨x,hx,rfl⟩:∃ x,xs[n]?=some x∧x.2=p:=by
          rw [← hXM,List.getElem?_map] at hp
          exact Option.map_eq_some_iff.1 hp
        have hnl:=idx_lt hx
        have hd:=hXD x (List.mem_of_getElem? hx)
        have hsm:=hs x.2 (List.mem_of_getElem? hp)
        have hsm1:=hsm.1
        have hse:=hd.site
        obtain ⟨k1,k2,k3⟩:=hM.at x.2.site
        have hat:=hM.get hs1 hs2
        obtain ⟨sv,hv,hrv⟩:=h3.get hat
        rw [hse] at hs1 hs2 hv
        have hj:x.1.site.toNat - 1 < 3:=by omega
        have hr5:=runM_rows k1 x.2.ops
        refine WP.skip<|PO.next<|WP.seq<|WP.block<|WP.seq<|WP.reg<|WL.e (el_ia (j:=i) (xs:=order) sl23 (hO.ge hG) hlt)<|WL.e (el_load0 (j:=i) (xs:=order) (a:=(n:Int)) a3 intE (hO.ge hG) hk)<|WL.e e_assign<|WL.next<|WP.seq<|WP.reg<|WL.e e_move<|WL.e e_move<|WL.e (el_ia (j:=n) (xs:=xs) sl22 (hX.ge hG) hnl)<|WL.e (el_fa (z:=5) (j:=n) (xs:=xs) f39_1 (hX.ge hG) hnl)<|WL.e (el_load (j:=n) (f:=1) (xs:=xs) (a:=x) a5 dxE (hX.ge hG) hx)<|WL.e (e_sub (c:=((x.1.site.toNat - 1:Nat):Int)) rfl rfl (by simp [IntKind.wrap,IntKind.bits,IntKind.signed];omega))<|WL.e e_assign<|WL.next<|WP.seq<|WP.draws mixedOk 16<|RW.e 0 rfl e_move<|RW.e 1 rfl (e_iaA (j:=(x.1.site.toNat - 1)) ar25 hj) ?_
        refine RW.e 2 rfl (e_load (l:=svs vs) a24 (hv:=svs_get hv))<|RW.e 3 rfl e_move<|RW.e 4 rfl e_move<|RW.e 5 rfl (el_ia (j:=n) (xs:=xs) sl22 (hX.ge hG) hnl)<|RW.e 6 rfl (el_fa (z:=5) (j:=n) (xs:=xs) f39_3 (hX.ge hG) hnl)<|RW.e 7 rfl (el_load (j:=n) (f:=3) (xs:=xs) (a:=x) a36 dxE (hX.ge hG) hx) ?_
        refine RW.any (is:=[8]) rfl ⟨?_,trivial⟩
        refine RWat.h rfl rfl rfl ?_
        refine (h_call (pRun_spec (rows:=(atM M x.2.site)) (l:=x.2.ops) hrv (hd.ops.ge hG) k1 k2 (by omega)) k19 ?_)
        refine ⟨fun hbad=>?_,fun hgood s1 s2 B2 hG2 hR2 hL2=>?_⟩
        · skip
          refine ⟨trivial,?_⟩
          refine RW.e 9 rfl e_move<|RW.e 10 rfl e_extract<|RW.e 11 rfl e_extract<|RW.e 12 rfl e_extract<|RW.e 13 rfl e_assign<|RW.e 14 rfl e_assign<|RW.e 15 rfl e_assign<|RW.done<|PO.next<|WP.seq<|WP.seq<|WP.reg<|WL.e e_move<|WL.e e_neq<|WL.e e_move ?_
          refine WL.bool 90 rfl (fun g8=>?_) (fun g8=>?_)
          · skip
            refine WL.skip<|WL.skip<|WL.skip<|WL.skip<|WL.skip<|WL.skip<|WL.skip<|WL.skip<|WL.e e_pick_t<|WL.next<|WP.cond_t rfl<|WP.seq<|WP.reg<|WL.e e_assign<|WL.next<|WP.ret<|PO.past nofun<|PO.blockR<|PO.past nofun<|PO.round nofun<|PO.blockR<|PO.past nofun<|PO.backP hG ?_
            exact PO.finE Tryz.results10 (rv_tmp rv_nil) (by rw [ser_none (i:=i+1) ((foldD_snoc hf hk).trans (step_no hp (fun e=>by rw [hbad] at e;cases e)))];rfl) hK
          · exact absurd g8 (by decide) 
        · skip
          refine ⟨trivial,?_⟩
          refine RW.e 9 rfl e_move<|RW.e 10 rfl e_extract<|RW.e 11 rfl e_extract<|RW.e 12 rfl e_extract<|RW.e 13 rfl e_assign<|RW.e 14 rfl e_assign<|RW.e 15 rfl e_assign<|RW.done<|PO.next<|WP.seq<|WP.seq<|WP.reg<|WL.e e_move<|WL.e e_neq<|WL.e e_move ?_
          refine WL.bool 90 rfl (fun g8=>?_) (fun g8=>?_)
          · exact absurd g8 (by decide) 
          · skip
            refine WL.e e_move<|WL.e e_move<|WL.e e_move<|WL.e (el_ia (j:=n) (xs:=xs) sl22 (hX.ge (hG.trans hG2)) hnl)<|WL.e (el_fa (z:=5) (j:=n) (xs:=xs) f39_4 (hX.ge (hG.trans hG2)) hnl)<|WL.e (el_load (j:=n) (f:=4) (xs:=xs) (a:=x) a37 dxE (hX.ge (hG.trans hG2)) hx) ?_
            refine WL.h (h_call (Same_spec hR2 (hd.res.ge (hG.trans hG2)) (by rw [hr5.2.2];omega) (fun t ht=>by have:=runM_each _ _ t ht;omega)) k20 ?_)
            refine WL.e e_not<|WL.e e_pick_f<|WL.next ?_
            refine WP.cond rfl (fun h9=>?_) (fun h9=>?_)
            · replace h9:(runM (atM M x.2.site) x.2.ops).1≠x.2.res:=by simpa using h9
              refine WP.seq<|WP.reg<|WL.e e_assign<|WL.next<|WP.ret<|PO.past nofun<|PO.blockR<|PO.past nofun<|PO.round nofun<|PO.blockR<|PO.past nofun<|PO.backP (hG.trans hG2) ?_
              exact PO.finE Tryz.results10 (rv_tmp rv_nil) (by rw [ser_none (i:=i+1) ((foldD_snoc hf hk).trans (step_no hp (fun _=>h9)))];rfl) hK
            · replace h9:(runM (atM M x.2.site) x.2.ops).1=x.2.res:=by simpa using h9
              have hst:=(foldD_snoc hf hk).trans (step_yes hp hgood h9)
              have hM2:=hM.step hsm1 hgood
              refine WP.skip<|PO.next<|WP.seq<|WP.reg<|WL.e e_move<|WL.e e_move<|WL.e (e_iaA (j:=(x.1.site.toNat - 1)) ar25 hj) ?_
              refine WL.h' (h_store1 (o:=0+(x.1.site.toNat - 1) * 1) (l:=svs vs) (v:=s2.v) s24 (by rw [svs_len,h3.1,hM.len];omega) rfl ?_)
              rw [svs_set]
              refine WL.next<|WP.seq<|WP.reg<|WL.e e_move<|WL.e e_move<|WL.e (el_ia (j:=n) (xs:=xs) sl22 (hX.ge (hG.trans hG2)) hnl)<|WL.e (el_fa (z:=5) (j:=n) (xs:=xs) f39_0 (hX.ge (hG.trans hG2)) hnl)<|WL.e (el_load0 (j:=n) (xs:=xs) (a:=x) a35 dxE (hX.ge (hG.trans hG2)) hx)<|WL.e (e_neq32 (b:=0))<|WL.next ?_
              refine WP.cond rfl (fun h10=>?_) (fun h10=>?_)
              · replace h10:x.1.g≠0:=by simpa using h10
                have hk5:=runM_keys k1 k2 x.2.ops (fun y hy=>List.all_eq_true.1 hgood y hy)
                refine WP.reg<|WL.e e_move<|WL.e e_move<|WL.e e_move<|WL.e e_move<|WL.e (el_ia (j:=n) (xs:=xs) sl22 (hX.ge (hG.trans hG2)) hnl)<|WL.e (el_fa (z:=5) (j:=n) (xs:=xs) f39_0 (hX.ge (hG.trans hG2)) hnl)<|WL.e (el_load0 (j:=n) (xs:=xs) (a:=x) a35 dxE (hX.ge (hG.trans hG2)) hx) ?_
                refine WL.h (h_call (mark_spec ((hT.ge hG).ge hG2) hL2 hr5.1 hk5 (by omega) x.1.g) k21 ?_)
                intro s3 B3 hG3 hL3
                refine WL.e (e_iaA (j:=(x.1.site.toNat - 1)) ar25 hj) ?_
                refine WL.h' (h_store1 (o:=0+(x.1.site.toNat - 1) * 1) (l:=svs (vs.set (x.1.site.toNat - 1) s2)) (v:=s3.v) s24 (by rw [svs_len,List.length_set,h3.1,hM.len];omega) rfl ?_)
                rw [svs_set,List.set_set]
                refine WL.nil<|PO.blockN<|PO.next<|WP.reg<|WL.e (e_add (c:=((i+1:Nat):Int)) rfl rfl (by rw [w_i64 (by omega) (by omega)];omega))<|WL.e e_move<|WL.nil ?_
                have hle:(leftD (atM M x.2.site) x.2)=markR (runM (atM M x.2.site) x.2.ops).2 x.1.g:=by unfold leftD;rw [hd.g,if_neg h10]
                rw [← hle] at hL3
                exact PO.againK (i+1,vs.set (x.1.site.toNat - 1) s3,M.set (x.2.site.toNat - 1) (leftD (atM M x.2.site) x.2),B3) ⟨by simp only;omega,hst,hM2,by simp only;rw [← hse];exact (h3.ge (hG2.trans hG3)).set _ hL3,(hG.trans hG2).trans hG3⟩ (by simp only;omega)
              · replace h10:x.1.g=0:=by simpa using h10
                refine WP.skip<|PO.blockN<|PO.next<|WP.reg<|WL.e (e_add (c:=((i+1:Nat):Int)) rfl rfl (by rw [w_i64 (by omega) (by omega)];omega))<|WL.e e_move<|WL.nil ?_
                have hle:(leftD (atM M x.2.site) x.2)=(runM (atM M x.2.site) x.2.ops).2:=by unfold leftD;rw [hd.g,if_pos h10]
                rw [← hle] at hL2
                exact PO.againK (i+1,vs.set (x.1.site.toNat - 1) s2,M.set (x.2.site.toNat - 1) (leftD (atM M x.2.site) x.2),B2) ⟨by simp only;omega,hst,hM2,by simp only;rw [← hse];exact (h3.ge hG2).set _ hL2,hG.trans hG2⟩ (by simp only;omega)
      · rw [List.take_of_length_le (show order.length≤i by rw [decide_eq_false_iff_not] at h7;omega)] at hf
        refine WP.exit<|PO.past nofun<|PO.round nofun<|PO.blockX<|PO.next<|WP.seq<|WP.seq<|WP.reg<|WL.e e_move<|WL.next<|WP.block<|WP.loopK (fun (i2:Nat)=>[(119,.int .i64 i2)]) (fun (i2:Nat)=>cl b2 25 (svs vs)::cl b1 25 [r0.v,r1.v,r2.v]::B::R) [(5,_),(10,_)] (fun (i2:Nat)=>i2≤3∧M.take i2=rows.take i2) (fun (i2:Nat)=>3 - i2) 0 (⟨Nat.zero_le _,rfl⟩) ?_
        rintro i2 ⟨hi2,he⟩
        refine WP.seq<|WP.reg<|WL.e e_lss<|WL.next<|WP.seq ?_
        refine WP.cond rfl (fun h11=>?_) (fun h11=>?_)
        · replace h11:i2 < 3:=by rw [decide_eq_true_eq] at h11;omega
          have hMl:=hM.len
          obtain ⟨l1,hl1⟩:∃ l,M[i2]?=some l:=⟨_,List.getElem?_eq_getElem (by omega)⟩
          obtain ⟨l2,hl2⟩:∃ l,rows[i2]?=some l:=⟨_,List.getElem?_eq_getElem (by omega)⟩
          obtain ⟨v1,hv1,hw1⟩:=h3.get hl1
          obtain ⟨v2,hv2,hw2⟩:=hR.get hl2
          have hb1:=(hM.ok l1 (List.mem_of_getElem? hl1)).2.2
          refine WP.skip<|PO.next<|WP.seq<|WP.block<|WP.seq<|WP.reg<|WL.e e_move<|WL.e e_assign<|WL.next<|WP.seq<|WP.draws mixedOk 8<|RW.e 0 rfl e_move<|RW.e 1 rfl (e_iaA (j:=i2) ar25 h11)<|RW.e 2 rfl (e_load (l:=svs vs) a24 (hv:=svs_get hv1))<|RW.e 3 rfl e_move<|RW.e 4 rfl (e_iaA (j:=i2) ar25 h11)<|RW.e 5 rfl (e_load (l:=[r0.v,r1.v,r2.v]) a24 (hv:=svs_get (vs:=[r0,r1,r2]) hv2)) ?_
          refine RW.any (is:=[6]) rfl ⟨?_,trivial⟩
          refine RWat.h rfl rfl rfl ?_
          refine (h_call (EqR_spec hw1 (hw2.ge hG) (by omega)) k22 ?_)
          refine ⟨trivial,?_⟩
          refine RW.e 7 rfl e_not<|RW.done<|PO.next ?_
          refine WP.cond rfl (fun h12=>?_) (fun h12=>?_)
          · replace h12:l1≠l2:=by simpa using h12
            refine WP.seq<|WP.reg<|WL.e e_assign<|WL.next<|WP.ret<|PO.blockR<|PO.past nofun<|PO.round nofun<|PO.blockR<|PO.past nofun<|PO.backP hG ?_
            exact PO.finE Tryz.results10 (rv_tmp rv_nil) (by rw [ser_rows hok h6 hf,decide_eq_false (ne_at hl1 hl2 h12)];rfl) hK
          · replace h12:l1=l2:=by simpa using h12
            refine WP.skip<|PO.blockN<|PO.next<|WP.reg<|WL.e (e_add (c:=((i2+1:Nat):Int)) rfl rfl (by rw [w_i64 (by omega) (by omega)];omega))<|WL.e e_move<|WL.nil ?_
            exact PO.againK (i2+1) ⟨by omega,eq_step he hl1 hl2 h12⟩ (by omega)
        · have hMl:=hM.len
          rw [decide_eq_false_iff_not] at h11
          replace he:M=rows:=by rwa [List.take_of_length_le (by omega),List.take_of_length_le (by omega)] at he
          refine WP.exit<|PO.past nofun<|PO.round nofun<|PO.blockX<|PO.next<|WP.seq<|WP.reg<|WL.e e_assign<|WL.next<|WP.ret<|PO.backP hG ?_
          exact PO.finE Tryz.results10 (rv_tmp rv_nil) (by rw [ser_rows hok h6 hf,decide_eq_true he];rfl) hK
end Go.SL
