import Derived.Test.YtdfomffmfnpfoaaGreatDoorQA10
set_option linter.unusedSimpArgs false
set_option linter.unusedVariables false
namespace Go.SL.Fc
open Go Go.Proofs Go.SL
theorem a114:aggOf Tryz.prog 114=some (some 1):=by kernel_rfl
theorem a26:aggOf Tryz.prog 26=some none:=by kernel_rfl
theorem a51:aggOf Tryz.prog 51=some (some 4):=by kernel_rfl
theorem a61:aggOf Tryz.prog 61=some (some 1):=by kernel_rfl
theorem f93_0:fldOf Tryz.prog 93 0=some 0:=by kernel_rfl
theorem f93_1:fldOf Tryz.prog 93 1=some 1:=by kernel_rfl
theorem k36:callable Tryz.prog 36=true:=by kernel_rfl
theorem k37:callable Tryz.prog 37=true:=by kernel_rfl
theorem k38:callable Tryz.prog 38=true:=by kernel_rfl
theorem k39:callable Tryz.prog 39=true:=by kernel_rfl
theorem k41:callable Tryz.prog 41=true:=by kernel_rfl
theorem k42:callable Tryz.prog 42=true:=by kernel_rfl
theorem k43:callable Tryz.prog 43=true:=by kernel_rfl
theorem k44:callable Tryz.prog 44=true:=by kernel_rfl
theorem k45:callable Tryz.prog 45=true:=by kernel_rfl
theorem k51:callable Tryz.prog 51=true:=by kernel_rfl
theorem k52:callable Tryz.prog 52=true:=by kernel_rfl
theorem k53:callable Tryz.prog 53=true:=by kernel_rfl
theorem k54:callable Tryz.prog 54=true:=by kernel_rfl
theorem k56:callable Tryz.prog 56=true:=by kernel_rfl
theorem k57:callable Tryz.prog 57=true:=by kernel_rfl
theorem p123:placesOf Tryz.prog 123=some [(0,1),(1,1),(2,1)]:=by kernel_rfl
theorem p139:placesOf Tryz.prog 139=some [(0,1),(1,2)]:=by kernel_rfl
theorem p61:placesOf Tryz.prog 61=some [(0,1)]:=by kernel_rfl
theorem pt105:isPtr Tryz.prog 105=true:=by kernel_rfl
theorem s105:szOf Tryz.prog 105=some 1:=by kernel_rfl
theorem s26:szOf Tryz.prog 26=some 1:=by kernel_rfl
theorem s61:szOf Tryz.prog 61=some 1:=by kernel_rfl
theorem s96:szOf Tryz.prog 96=some 1:=by kernel_rfl
theorem z105:zeroOf Tryz.prog 105=some [.pointer none]:=by kernel_rfl
theorem z26:zeroOf Tryz.prog 26=some [.int .i64 0]:=by kernel_rfl
theorem z61:zeroOf Tryz.prog 61=some [.slice none 0 0]:=by kernel_rfl
theorem zz105:(Tryz.prog.info? 105).bind (·.zero)=some (.pointer none):=by kernel_rfl
end Go.SL.Fc
namespace Go.SL
open Go Go.Proofs Fc
def DoJ (b2 b3 b4 q:Nat):HP:=fun S=>∃ _:Unit,stars [cl b4 105 [.pointer (some ⟨q,0,none⟩)],cl b2 61 [.slice none 0 0],cl b3 26 [.int .i64 0]] S
def DoX (b2 b3 b4 q:Nat) (j:Code):HP:=fun S=>∃ _:{ u:Unit // j=.ret },stars [cl b4 105 [.pointer (some ⟨q,0,none⟩)],cl b2 61 [.slice none 0 0],cl b3 26 [.int .i64 8]] S
theorem Do_spec {g:World} {p dp b:Nat} {s:GamV} (n:UInt32) (x:OpM) (hs:GamOk s b):Spec Tryz.prog g 17 [.pointer (some ⟨p,0,none⟩),.int .u32 n.toNat,x.v] [Gs p dp s,Txs s.txs] fun K R=>match doG s n x with
   | .err s' e=>K (.tuple #[.agg #[.slice none 0 0],.int .i64 e]) (Gs p dp s'::Txs s'.txs::R)
   | .put t c=>∀ sv',K (.tuple #[.agg #[.slice none 0 0],.int .i64 0]) (Gs p dp (putG s t.id c sv')::Txs (putG s t.id c sv').txs::R)
   | .look t=>∀ a m c,K (.tuple #[.agg #[.slice a m c],.int .i64 0]) (Sl 78 2 RowM.c (.slice a m c) (scanR (changeR s.rows t.own) (spanOf x) 256)::Gs p dp (lookG s t (spanOf x))::Txs s.txs::R):=by
 have hnd:=hs.ids
 have hown:∀ x ∈ s.txs,x.own.length≤68719476736:=fun x hx=>by have:=hs.own_le hx;have:=hs.bb;omega
 have hlk:s.looks.length≤68719476736:=by have:=hs.looks;have:=hs.bb;omega
 refine Spec.intro Tryz.func17 rfl Tryz.ntmps17 rfl fun R K hK=>?_
 refine WP.seq<|WP.reg ?_
 refine WL.h (h_box fun b1=>?_)
 refine WL.h (h_alloc z61 fun b2=>?_)
 refine WL.h (h_alloc z26 fun b3=>?_)
 refine WL.next<|WP.seq<|WP.block<|WP.seq<|WP.reg<|WL.e e_move ?_
 refine WL.h (h_call (Gthere_spec) k38 ?_)
 refine WL.e e_not<|WL.e e_assign<|WL.next<|WP.cond_f rfl<|WP.seq<|WP.reg<|WL.e (e_loadN a51) ?_
 refine WL.h (h_call (opCheck_spec _) k51 ?_)
 refine WL.e e_not<|WL.e e_assign<|WL.next ?_
 refine WP.cond rfl (fun h1=>?_) (fun h1=>?_)
 ·replace h1:opOk x=false:=by simpa using h1
  rw [show doG s n x=.err s 1 by simp [doG,h1]] at hK
  refine WP.seq<|WP.reg<|WL.e (e_build z61 p61 (.z (.slice none 0 0)<|.n)) ?_
  refine WL.h' (h_store s61 ?_)
  refine WL.h' (h_store s26 ?_)
  refine WL.next<|WP.ret<|PO.blockR<|PO.past nofun ?_
  exact PO.fin Tryz.results17 (rv_cellN a61 (rv_cell a26 rv_nil)) hK
 ·replace h1:opOk x=true:=by simpa using h1
  refine WP.opn (Gs_op (p:=p) (dp:=dp) (s:=s)) fun x=>?_
  obtain ⟨lp,mp,nm,lm,sv⟩:=x
  dsimp only
  refine WP.skip<|PO.blockN<|PO.next<|WP.seq<|WP.reg<|WL.e e_move<|WL.e e_nil<|WL.e (e_fa f93_5)<|WL.e (e_load a90)<|WL.e e_move<|WL.e (e_lookT Tryz.underlying90 (key_u32 Tryz.underlying48) zz105) ?_
  refine WL.h (h_alloc z105 fun b4=>?_)
  refine WL.h' (h_store s105 ?_)
  refine WL.next<|WP.seq<|WP.seq<|WP.reg<|WL.e (e_load a105)<|WL.e (e_peq pt105)<|WL.next ?_
  refine WP.cond rfl (fun h2=>?_) (fun h2=>?_)
  ·have hf:findT s.txs n=none:=by simpa using h2
   rw [show doG s n x=.err s 6 by simp [doG,h1,hf]] at hK
   refine WP.seq<|WP.reg<|WL.e (e_build z61 p61 (.z (.slice none 0 0)<|.n)) ?_
   refine WL.h' (h_store s61 ?_)
   refine WL.h' (h_store s26 ?_)
   refine WL.next<|WP.ret<|PO.past nofun<|PO.cls (A:=Gs p dp (s)) (B:=[cl p 93 [.pointer (some ⟨lp,0,none⟩),.pointer (some ⟨mp,0,none⟩),nm,.int .u32 s.last.toNat,sv.v,lm],cl lp 156 [.pointer (some ⟨dp,0,none⟩),.int .i64 s.at_],Dk dp s.d,Mm mp s.rows,Mp eStr nm (List.map numC s.nums),Sl 139 3 lookC (sv.v) s.looks,Mp eU32 lm (List.map kvT s.txs)]) (fun S h=>⟨⟨lp,mp,nm,lm,sv⟩,h⟩) ?_
   exact PO.fin Tryz.results17 (rv_cellN a61 (rv_cell a26 rv_nil)) hK
  ·obtain ⟨t,hf⟩:∃ t,findT s.txs n=some t:=by cases e:findT s.txs n with
    | none=>rw [e] at h2;cases h2
    | some t=>exact ⟨t,rfl⟩
   rw [hf,Option.map_some]
   obtain ⟨hid,A,B,hts,hdel,_⟩:=find_mid hf
   refine WP.cls (A:=Gs p dp (s)) (B:=[cl p 93 [.pointer (some ⟨lp,0,none⟩),.pointer (some ⟨mp,0,none⟩),nm,.int .u32 s.last.toNat,sv.v,lm],cl lp 156 [.pointer (some ⟨dp,0,none⟩),.int .i64 s.at_],Dk dp s.d,Mm mp s.rows,Mp eStr nm (List.map numC s.nums),Sl 139 3 lookC (sv.v) s.looks,Mp eU32 lm (List.map kvT s.txs)]) (fun S h=>⟨⟨lp,mp,nm,lm,sv⟩,h⟩) ?_
   refine WP.opn (Txs_out hts) fun _=>?_
   refine WP.skip<|PO.next ?_
   refine WP.cutL (fun (q:Nat)=>[(9,.pointer (some ⟨q,0,none⟩)),(10,.bool (writes x))]) (fun (q:Nat)=>cl q 132 [.string (spanOf x).a,.string (spanOf x).b]::cl b4 105 [.pointer (some ⟨t.q,0,none⟩)]::cl b1 51 (OpM.c x)::cl b2 61 [.slice none 0 0]::cl b3 26 [.int .i64 0]::Gs p dp s::cl t.q 116 [.int .u32 t.num.toNat,t.sv.v]::Sl 123 3 ChgM.c t.sv.v t.own::Txs (A++B)::R) (fun (q:Nat)=>True) ?_ ?_
   ·skip
    refine WP.draws mixedOk 7<|RW.e 0 rfl (e_loadN a51)<|RW.e 2 rfl (e_loadN a51) ?_
    refine RW.any (is:=[1,4]) rfl ⟨?_,?_,trivial⟩
    ·skip
     refine RWat.h rfl rfl rfl ?_
     refine (h_call (Of_spec _) k52 ?_)
     refine ⟨⟨⟨_,rfl,.inl ⟨rfl,(e_loadN a51)⟩⟩,trivial⟩,?_⟩
     refine RW.any (is:=[3,4]) rfl ⟨?_,?_,trivial⟩
     ·skip
      refine RWat.h rfl rfl rfl ?_
      refine (h_call (Writes_spec _) k53 ?_)
      refine ⟨trivial,?_⟩
      refine RW.any (is:=[4]) rfl ⟨?_,trivial⟩
      refine RWat.h rfl rfl rfl ?_
      refine (h_alloc z132 fun b5=>?_)
      refine ⟨trivial,?_⟩
      refine RW.any (is:=[5]) rfl ⟨?_,trivial⟩
      refine RWat.h' rfl rfl rfl ?_
      refine (h_store s132 ?_)
      refine ⟨trivial,?_⟩
      refine RW.e 6 rfl e_assign<|RW.done ?_
      exact PO.meetK b5 trivial
     ·skip
      refine RWat.h rfl rfl rfl ?_
      refine (h_alloc z132 fun b6=>?_)
      refine ⟨⟨⟨_,rfl,.inl ⟨rfl,(e_loadN a51)⟩⟩,trivial⟩,?_⟩
      refine RW.any (is:=[3]) rfl ⟨?_,trivial⟩
      refine RWat.h rfl rfl rfl ?_
      refine (h_call (Writes_spec _) k53 ?_)
      refine ⟨trivial,?_⟩
      refine RW.any (is:=[5]) rfl ⟨?_,trivial⟩
      refine RWat.h' rfl rfl rfl ?_
      refine (h_store s132 ?_)
      refine ⟨trivial,?_⟩
      refine RW.e 6 rfl e_assign<|RW.done ?_
      exact PO.meetK b6 trivial
    ·skip
     refine RWat.h rfl rfl rfl ?_
     refine (h_alloc z132 fun b7=>?_)
     refine ⟨⟨⟨_,rfl,.inl ⟨rfl,(e_loadN a51)⟩⟩,⟨_,rfl,.inl ⟨rfl,(e_loadN a51)⟩⟩,trivial⟩,?_⟩
     refine RW.any (is:=[1]) rfl ⟨?_,trivial⟩
     refine RWat.h rfl rfl rfl ?_
     refine (h_call (Of_spec _) k52 ?_)
     refine ⟨⟨⟨_,rfl,.inl ⟨rfl,(e_loadN a51)⟩⟩,trivial⟩,?_⟩
     refine RW.any (is:=[3]) rfl ⟨?_,trivial⟩
     refine RWat.h rfl rfl rfl ?_
     refine (h_call (Writes_spec _) k53 ?_)
     refine ⟨trivial,?_⟩
     refine RW.any (is:=[5]) rfl ⟨?_,trivial⟩
     refine RWat.h' rfl rfl rfl ?_
     refine (h_store s132 ?_)
     refine ⟨trivial,?_⟩
     refine RW.e 6 rfl e_assign<|RW.done ?_
     exact PO.meetK b7 trivial
   ·intro q _
    refine WP.seq<|WP.seq<|WP.reg<|WL.e e_move<|WL.e (e_load a105)<|WL.e (e_loadN a132)<|WL.e e_move ?_
    refine WL.h (h_call (late_spec (spanOf x) (writes x) hts hnd hown hlk) k54 ?_)
    refine WL.next ?_
    refine WP.cond rfl (fun h3=>?_) (fun h3=>?_)
    ·rw [show doG s n x=.err (endsG s n) 9 by simp [doG,h1,hf,h3]] at hK
     rw [← hdel]
     refine WP.seq<|WP.reg<|WL.e e_move<|WL.e e_move ?_
     refine WL.h (h_call (ends_spec n hlk) k41 ?_)
     refine WL.next<|WP.seq<|WP.reg<|WL.e (e_build z61 p61 (.z (.slice none 0 0)<|.n)) ?_
     refine WL.h' (h_store s61 ?_)
     refine WL.h' (h_store s26 ?_)
     refine WL.next<|WP.ret<|PO.past nofun ?_
     exact PO.fin Tryz.results17 (rv_cellN a61 (rv_cell a26 rv_nil)) hK
    ·skip
     refine WP.skip<|PO.next<|WP.seq<|WP.seq<|WP.reg<|WL.e e_move<|WL.e (e_load a105)<|WL.e (e_loadN a132) ?_
     refine WL.h (h_call (under_spec (spanOf x)) k55 ?_)
     intro c1 c2 c3
     refine WL.next<|WP.block<|WP.cls (A:=DoJ b2 b3 b4 t.q) (B:=[cl b4 105 [.pointer (some ⟨t.q,0,none⟩)],cl b2 61 [.slice none 0 0],cl b3 26 [.int .i64 0]]) (fun S h=>⟨(),h⟩) ?_
     refine WP.rangeL (R:=?RR) (f:=139) (fs:=[]) (cs:=[.pointer (some ⟨c1,0,none⟩),.pointer (some ⟨c2,0,none⟩),.pointer (some ⟨c3,0,none⟩)]) (fun _=>DoJ b2 b3 b4 t.q) (fun _ _=>DoX b2 b3 b4 t.q) (fun _ y=>¬ y < t.num) (under_iter (c1:=c1) (c2:=c2) (c3:=c3) (p:=p) (dp:=dp) (s:=s) (t:=t) (A:=A) (B:=B) (sp:=spanOf x) hts hnd hown) k139 ?hLL ?_ ?_ ?_ (fun _=>rfl)
     case hLL=>repeat first | exact .nil | exact Pick.z | apply Pick.s | apply Split.cons
     ·rintro lb db fn tmps pre y R2 hp hh
      refine WP.opn (B:=fun _:Unit=>[cl b4 105 [.pointer (some ⟨t.q,0,none⟩)],cl b2 61 [.slice none 0 0],cl b3 26 [.int .i64 0]]) (fun _ h=>h) fun _=>?_
      refine WP.reg<|WL.e e_assign<|WL.nil<|PO.asg rfl (by repeat first | exact .z | apply Put.s)<|WP.block<|WP.seq<|WP.reg<|WL.e e_move<|WL.e (e_load a105)<|WL.e e_nil<|WL.e (e_fa f116_0)<|WL.e (e_fa f114_0)<|WL.e (e_load a48)<|WL.e (e_lss32)<|WL.next ?_
      refine WP.cond rfl (fun h5=>?_) (fun h5=>?_)
      ·skip
       refine WP.seq<|WP.reg<|WL.e (e_build z61 p61 (.z (.slice none 0 0)<|.n)) ?_
       refine WL.h' (h_store s61 ?_)
       refine WL.h' (h_store s26 ?_)
       refine WL.next<|WP.ret<|PO.blockR<|PO.cls (A:=DoX b2 b3 b4 t.q .ret) (B:=[cl b4 105 [.pointer (some ⟨t.q,0,none⟩)],cl b2 61 [.slice none 0 0],cl b3 26 [.int .i64 8]]) (fun S h=>⟨⟨(),rfl⟩,h⟩) ?_
       exact PO.rnd_ret (by simpa using h5) (by repeat first | exact .refl | exact Pick.z | apply Pick.s | apply Sub.cons | apply Sub.drop)
      ·skip
       refine WP.skip<|PO.blockN<|PO.cls (A:=DoJ b2 b3 b4 t.q) (B:=[cl b4 105 [.pointer (some ⟨t.q,0,none⟩)],cl b2 61 [.slice none 0 0],cl b3 26 [.int .i64 0]]) (fun S h=>⟨(),h⟩) ?_
       exact PO.rnd (by simpa using h5) (by repeat first | exact .refl | exact Pick.z | apply Pick.s | apply Sub.cons | apply Sub.drop)
     ·intro db xs hx hh
      have hu1:(underL s.txs t.id (spanOf x)).any (fun n=>decide (n < t.num))=false:=by rw [List.any_eq_false];intro n hn;have:=hist_all hh n (hx.symm.subset hn);simpa using this
      refine PO.opn (B:=fun _:Unit=>[cl b4 105 [.pointer (some ⟨t.q,0,none⟩)],cl b2 61 [.slice none 0 0],cl b3 26 [.int .i64 0]]) (fun _ h=>h) fun _=>?_
      refine PO.blockN<|PO.next<|WP.seq<|WP.seq<|WP.reg<|WL.e (e_fa f51_0)<|WL.e (e_load a49)<|WL.next<|WP.block<|WP.seq<|WP.reg<|WL.e (e_eql8 (b:=2))<|WL.e e_assign<|WL.next ?_
      refine WP.cond rfl (fun h6=>?_) (fun h6=>?_)
      ·replace h6:x.kind=2:=by simpa using h6
       rw [show doG s n x=.put t ⟨x.key,x.val,false⟩ by simp only [doG,h1,hf,h3,hu1];simp [writes,h6,chgOf]] at hK
       refine WP.seq<|WP.draws mixedOk 15<|RW.e 0 rfl (e_load a105)<|RW.e 1 rfl (e_load a105)<|RW.e 2 rfl e_nil<|RW.e 3 rfl (e_fa f116_1)<|RW.e 4 rfl (e_load a96)<|RW.e 5 rfl (e_fa f51_1)<|RW.e 6 rfl (e_load a9)<|RW.e 7 rfl (e_fa f51_3)<|RW.e 8 rfl (e_load a48)<|RW.e 9 rfl (e_build z123 p123 (.o (.tmp 68) rfl<|.o (.tmp 70) rfl<|.z (.bool false)<|.n)) ?_
       refine RW.any (is:=[10]) rfl ⟨?_,trivial⟩
       refine RWat.h rfl rfl rfl ?_
       refine (h_bs sl96 z123 (.a3 (.tmp 71) rfl<|.n) fun b8=>?_)
       refine ⟨⟨⟨_,rfl,.inl ⟨rfl,(e_load a96)⟩⟩,⟨_,rfl,.inl ⟨rfl,(e_fa f116_1)⟩⟩,⟨_,rfl,.inl ⟨rfl,e_nil⟩⟩,⟨_,rfl,.inl ⟨rfl,(e_load a105)⟩⟩,⟨_,rfl,.inl ⟨rfl,(e_load a105)⟩⟩,trivial⟩,?_⟩
       refine RW.any (is:=[11]) rfl ⟨?_,trivial⟩
       refine RWat.h rfl rfl rfl ?_
       refine (hl_append (xs:=t.own) (ys:=[⟨x.key,x.val,false⟩]) sl96 chgE z123 (lit_rl chgE [⟨x.key,x.val,false⟩] rfl) (by have:=hs.own_le (find_mem hf);have:=hs.bb;simp;omega) (fun a7 m7 c7=>?_))
       refine ⟨⟨⟨_,rfl,.inl ⟨rfl,(e_load a105)⟩⟩,trivial⟩,?_⟩
       refine RW.e 12 rfl e_nil<|RW.e 13 rfl (e_fa f116_1) ?_
       refine RW.any (is:=[14]) rfl ⟨?_,trivial⟩
       refine RWat.h' rfl rfl rfl ?_
       refine (h_store s96 ?_)
       refine ⟨trivial,?_⟩
       refine RW.done<|PO.next<|WP.seq<|WP.reg<|WL.e (e_build z61 p61 (.z (.slice none 0 0)<|.n)) ?_
       refine WL.h' (h_store s61 ?_)
       refine WL.h' (h_store s26 ?_)
       refine WL.next<|WP.ret<|PO.blockR<|PO.past nofun<|PO.cls (A:=Txs (A++{ t with own:=t.own++[⟨x.key,x.val,false⟩],sv:=⟨a7,m7,c7⟩ }::B)) (B:=[cl t.q 116 [.int .u32 t.num.toNat,.slice a7 m7 c7],Sl 123 3 ChgM.c (.slice a7 m7 c7) (t.own++[⟨x.key,x.val,false⟩]),Txs (A++B)]) (fun S h=>Txs_in (t:={ t with own:=t.own++[⟨x.key,x.val,false⟩],sv:=⟨a7,m7,c7⟩ }) S h) ?_
       refine PO.conv (conv1 (A:=Gs p dp s) (B:=Gs p dp (putG s t.id (⟨x.key,x.val,false⟩) ⟨a7,m7,c7⟩)) (Gs_txs (putT_kv s.txs t.id _ _)) (by repeat first | exact .z | apply Put.s)) ?_
       have hpt:(putG s t.id (⟨x.key,x.val,false⟩) ⟨a7,m7,c7⟩).txs=A++{ t with own:=t.own++[⟨x.key,x.val,false⟩],sv:=⟨a7,m7,c7⟩ }::B:=by show putT s.txs t.id _ _=_;rw [hts];exact putT_mid (hts ▸ hnd) _ _
       rw [← hpt]
       exact PO.finM (by repeat first | exact .z | apply Put.s) Tryz.results17 (rv_cellN a61 (rv_cell a26 rv_nil)) (hK _)
      ·replace h6:x.kind≠2:=by simpa using h6
       refine WP.seq<|WP.reg<|WL.e (e_eql8 (b:=3))<|WL.e e_assign<|WL.next ?_
       refine WP.cond rfl (fun h7=>?_) (fun h7=>?_)
       ·replace h7:x.kind=3:=by simpa using h7
        rw [show doG s n x=.put t ⟨x.key,0,true⟩ by simp only [doG,h1,hf,h3,hu1];simp [writes,h7,chgOf]] at hK
        refine WP.seq<|WP.draws mixedOk 13<|RW.e 0 rfl (e_load a105)<|RW.e 1 rfl (e_load a105)<|RW.e 2 rfl e_nil<|RW.e 3 rfl (e_fa f116_1)<|RW.e 4 rfl (e_load a96)<|RW.e 5 rfl (e_fa f51_1)<|RW.e 6 rfl (e_load a9)<|RW.e 7 rfl (e_build z123 p123 (.o (.tmp 85) rfl<|.z (.int .u32 0)<|.o (.const (.bool true)) rfl<|.n)) ?_
        refine RW.any (is:=[8]) rfl ⟨?_,trivial⟩
        refine RWat.h rfl rfl rfl ?_
        refine (h_bs sl96 z123 (.a3 (.tmp 86) rfl<|.n) fun b9=>?_)
        refine ⟨⟨⟨_,rfl,.inl ⟨rfl,(e_load a96)⟩⟩,⟨_,rfl,.inl ⟨rfl,(e_fa f116_1)⟩⟩,⟨_,rfl,.inl ⟨rfl,e_nil⟩⟩,⟨_,rfl,.inl ⟨rfl,(e_load a105)⟩⟩,⟨_,rfl,.inl ⟨rfl,(e_load a105)⟩⟩,trivial⟩,?_⟩
        refine RW.any (is:=[9]) rfl ⟨?_,trivial⟩
        refine RWat.h rfl rfl rfl ?_
        refine (hl_append (xs:=t.own) (ys:=[⟨x.key,0,true⟩]) sl96 chgE z123 (lit_rl chgE [⟨x.key,0,true⟩] rfl) (by have:=hs.own_le (find_mem hf);have:=hs.bb;simp;omega) (fun a7 m7 c7=>?_))
        refine ⟨⟨⟨_,rfl,.inl ⟨rfl,(e_load a105)⟩⟩,trivial⟩,?_⟩
        refine RW.e 10 rfl e_nil<|RW.e 11 rfl (e_fa f116_1) ?_
        refine RW.any (is:=[12]) rfl ⟨?_,trivial⟩
        refine RWat.h' rfl rfl rfl ?_
        refine (h_store s96 ?_)
        refine ⟨trivial,?_⟩
        refine RW.done<|PO.next<|WP.seq<|WP.reg<|WL.e (e_build z61 p61 (.z (.slice none 0 0)<|.n)) ?_
        refine WL.h' (h_store s61 ?_)
        refine WL.h' (h_store s26 ?_)
        refine WL.next<|WP.ret<|PO.blockR<|PO.past nofun<|PO.cls (A:=Txs (A++{ t with own:=t.own++[⟨x.key,0,true⟩],sv:=⟨a7,m7,c7⟩ }::B)) (B:=[cl t.q 116 [.int .u32 t.num.toNat,.slice a7 m7 c7],Sl 123 3 ChgM.c (.slice a7 m7 c7) (t.own++[⟨x.key,0,true⟩]),Txs (A++B)]) (fun S h=>Txs_in (t:={ t with own:=t.own++[⟨x.key,0,true⟩],sv:=⟨a7,m7,c7⟩ }) S h) ?_
        refine PO.conv (conv1 (A:=Gs p dp s) (B:=Gs p dp (putG s t.id (⟨x.key,0,true⟩) ⟨a7,m7,c7⟩)) (Gs_txs (putT_kv s.txs t.id _ _)) (by repeat first | exact .z | apply Put.s)) ?_
        have hpt:(putG s t.id (⟨x.key,0,true⟩) ⟨a7,m7,c7⟩).txs=A++{ t with own:=t.own++[⟨x.key,0,true⟩],sv:=⟨a7,m7,c7⟩ }::B:=by show putT s.txs t.id _ _=_;rw [hts];exact putT_mid (hts ▸ hnd) _ _
        rw [← hpt]
        exact PO.finM (by repeat first | exact .z | apply Put.s) Tryz.results17 (rv_cellN a61 (rv_cell a26 rv_nil)) (hK _)
       ·replace h7:x.kind≠3:=by simpa using h7
        rw [show doG s n x=.look t by simp only [doG,h1,hf,h3,hu1];simp [writes,h6,h7]] at hK
        refine WP.opn (Gs_op (p:=p) (dp:=dp) (s:=s)) fun x=>?_
        obtain ⟨lp,mp,nm,lm,sv⟩:=x
        dsimp only
        refine WP.skip<|PO.blockN<|PO.next<|WP.seq<|WP.draws mixedOk 16<|RW.e 0 rfl e_move<|RW.e 1 rfl e_move<|RW.e 2 rfl e_nil<|RW.e 3 rfl (e_fa f93_4)<|RW.e 4 rfl (e_load a91)<|RW.e 5 rfl (e_load a105)<|RW.e 6 rfl e_nil<|RW.e 7 rfl (e_fa f116_0)<|RW.e 8 rfl (e_loadN a114)<|RW.e 9 rfl (e_loadN a132)<|RW.e 10 rfl (e_build z139 p139 (.a1 (.tmp 100) rfl<|.a2 (.tmp 101) rfl<|.n)) ?_
        refine RW.any (is:=[11]) rfl ⟨?_,trivial⟩
        refine RWat.h rfl rfl rfl ?_
        refine (h_bs sl91 z139 (.a3 (.tmp 102) rfl<|.n) fun b10=>?_)
        refine ⟨⟨⟨_,rfl,.inl ⟨rfl,(e_load a91)⟩⟩,⟨_,rfl,.inl ⟨rfl,(e_fa f93_4)⟩⟩,⟨_,rfl,.inl ⟨rfl,e_nil⟩⟩,⟨_,rfl,.inl ⟨rfl,e_move⟩⟩,⟨_,rfl,.inl ⟨rfl,e_move⟩⟩,trivial⟩,?_⟩
        refine RW.any (is:=[12]) rfl ⟨?_,trivial⟩
        refine RWat.h rfl rfl rfl ?_
        refine (hl_append (xs:=s.looks) (ys:=[(t.num,spanOf x)]) sl91 lookE z139 (lit_rl lookE [(t.num,spanOf x)] rfl) (by have:=hs.looks;have:=hs.bb;simp;omega) (fun a7 m7 c7=>?_))
        refine ⟨⟨⟨_,rfl,.inl ⟨rfl,e_move⟩⟩,trivial⟩,?_⟩
        refine RW.e 13 rfl e_nil<|RW.e 14 rfl (e_fa f93_4) ?_
        refine RW.any (is:=[15]) rfl ⟨?_,trivial⟩
        refine RWat.h' rfl rfl rfl ?_
        refine (h_store s91 ?_)
        refine ⟨trivial,?_⟩
        refine RW.done<|PO.next<|WP.seq<|WP.reg<|WL.e e_move<|WL.e e_nil<|WL.e (e_fa f93_1)<|WL.e (e_load a87) ?_
        refine WL.h (h_call (Twin_spec (l:=s.rows) (by have:=hs.sum;have:=hs.bb;omega)) k56 ?_)
        intro q2
        refine WL.e e_assign<|WL.next<|WP.seq<|WP.reg<|WL.e e_move<|WL.e (e_load a105)<|WL.e e_nil<|WL.e (e_fa f116_1)<|WL.e (e_load a96) ?_
        refine WL.h (h_call (Change_spec (sl_rl (xs:=t.own)) hs.rising (by have:=hs.own_le (find_mem hf);have:=hs.bb;omega)) k36 ?_)
        refine ⟨fun hb=>absurd hb (by rw [hs.bad (find_mem hf)];simp),fun _=>?_⟩
        obtain ⟨hr1,hr2⟩:=changeR_rising t.own hs.rising
        refine WL.next<|WP.seq<|WP.reg<|WL.e e_move<|WL.e (e_loadN a132) ?_
        refine WL.h (h_call (Scan_spec (spanOf x) 256 hr1 (by have:=hs.own_le (find_mem hf);have:=hs.bb;omega) (by decide)) k57 ?_)
        intro a8 m8 c8
        refine WL.e (e_build z61 p61 (.o (.tmp 120) rfl<|.n)) ?_
        refine WL.h' (h_store s61 ?_)
        refine WL.h' (h_store s26 ?_)
        refine WL.next<|WP.ret<|PO.cls (A:=Gs p dp (lookG s t (spanOf x))) (B:=[cl p 93 [.pointer (some ⟨lp,0,none⟩),.pointer (some ⟨mp,0,none⟩),nm,.int .u32 s.last.toNat,.slice a7 m7 c7,lm],cl lp 156 [.pointer (some ⟨dp,0,none⟩),.int .i64 s.at_],Dk dp s.d,Mm mp s.rows,Mp eStr nm (List.map numC s.nums),Sl 139 3 lookC (.slice a7 m7 c7) (s.looks++[(t.num,spanOf x)]),Mp eU32 lm (List.map kvT s.txs)]) (fun S h=>⟨⟨lp,mp,nm,lm,⟨a7,m7,c7⟩⟩,h⟩) ?_
        refine PO.cls (A:=Txs s.txs) (B:=[cl t.q 116 [.int .u32 t.num.toNat,t.sv.v],Sl 123 3 ChgM.c t.sv.v t.own,Txs (A++B)]) (fun S h=>hts ▸ Txs_in S h) ?_
        exact PO.finM (by repeat first | exact .z | apply Put.s) Tryz.results17 (rv_cellN a61 (rv_cell a26 rv_nil)) (hK a8 m8 c8)
     ·intro db pre y j hp hh hc
      have hu1:(underL s.txs t.id (spanOf x)).any (fun n=>decide (n < t.num))=true:=by obtain ⟨r,hr⟩:=hp;rw [List.any_eq_true];exact ⟨y,hr.subset (by simp),by simpa using hc⟩
      rw [show doG s n x=.err s 8 by simp only [doG,h1,hf,h3,hu1];simp] at hK
      refine WP.opn (B:=fun sv:{ u:Unit // j=.ret }=>[cl b4 105 [.pointer (some ⟨t.q,0,none⟩)],cl b2 61 [.slice none 0 0],cl b3 26 [.int .i64 8]]) (fun _ h=>h) fun u=>?_
      obtain ⟨_,rfl⟩:=u
      refine WP.ret<|PO.blockR<|PO.past nofun<|PO.cls (A:=Txs s.txs) (B:=[cl t.q 116 [.int .u32 t.num.toNat,t.sv.v],Sl 123 3 ChgM.c t.sv.v t.own,Txs (A++B)]) (fun S h=>hts ▸ Txs_in S h) ?_
      exact PO.finM (by repeat first | exact .z | apply Put.s) Tryz.results17 (rv_cellN a61 (rv_cell a26 rv_nil)) hK
theorem Begin_spec {g:World} {p dp:Nat} {s:GamV} (n:UInt32):Spec Tryz.prog g 9 [.pointer (some ⟨p,0,none⟩),.int .u32 n.toNat] [Gs p dp s,Txs s.txs] fun K R=>∀ q,K (.int .i64 (begEg s n)) (Gs p dp (begG s n q)::Txs (begG s n q).txs::R):=by
 refine Spec.intro Tryz.func9 rfl Tryz.ntmps9 rfl fun R K hK=>?_
 refine WP.seq<|WP.reg<|WL.e e_assign<|WL.next<|WP.seq<|WP.block<|WP.seq<|WP.reg<|WL.e e_move ?_
 refine WL.h (h_call (Gthere_spec) k38 ?_)
 refine WL.e e_not<|WL.e e_assign<|WL.next<|WP.cond_f rfl<|WP.seq<|WP.reg<|WL.e e_move<|WL.e (e_eql32 (b:=0))<|WL.e e_assign<|WL.next ?_
 refine WP.cond rfl (fun h1=>?_) (fun h1=>?_)
 ·replace h1:n=0:=by simpa using h1
  have hE:begEg s n=1:=by simp [begEg,h1]
  refine WP.seq<|WP.reg<|WL.e e_assign<|WL.next<|WP.ret<|PO.blockR<|PO.past nofun ?_
  have hK:=hK 0
  rw [hE,show begG s n 0=s by simp [begG,hE]] at hK
  exact PO.fin Tryz.results9 (rv_tmp rv_nil) hK
 ·replace h1:n≠0:=by simpa using h1
  refine WP.opn (Gs_op (p:=p) (dp:=dp) (s:=s)) fun x=>?_
  obtain ⟨lp,mp,nm,lm,sv⟩:=x
  dsimp only
  refine WP.seq<|WP.reg<|WL.e e_move<|WL.e e_nil<|WL.e (e_fa f93_5)<|WL.e (e_load a90)<|WL.e e_move<|WL.e (e_lookT Tryz.underlying90 (key_u32 Tryz.underlying48) zz105)<|WL.e (e_pne pt105)<|WL.e e_assign<|WL.next ?_
  refine WP.cond rfl (fun h2=>?_) (fun h2=>?_)
  ·replace h2:(findT s.txs n).isSome=true:=by cases e:findT s.txs n with
    | none=>rw [e] at h2;cases h2
    | some t=>rfl
   have hE:begEg s n=7:=by simp only [begEg,h1,h2];simp
   refine WP.seq<|WP.reg<|WL.e e_assign<|WL.next<|WP.ret<|PO.blockR<|PO.past nofun<|PO.cls (A:=Gs p dp (s)) (B:=[cl p 93 [.pointer (some ⟨lp,0,none⟩),.pointer (some ⟨mp,0,none⟩),nm,.int .u32 s.last.toNat,sv.v,lm],cl lp 156 [.pointer (some ⟨dp,0,none⟩),.int .i64 s.at_],Dk dp s.d,Mm mp s.rows,Mp eStr nm (List.map numC s.nums),Sl 139 3 lookC (sv.v) s.looks,Mp eU32 lm (List.map kvT s.txs)]) (fun S h=>⟨⟨lp,mp,nm,lm,sv⟩,h⟩) ?_
   have hK:=hK 0
   rw [hE,show begG s n 0=s by simp [begG,hE]] at hK
   exact PO.fin Tryz.results9 (rv_tmp rv_nil) hK
  ·have hf:findT s.txs n=none:=by cases e:findT s.txs n with
    | none=>rfl
    | some t=>rw [e] at h2;cases h2
   refine WP.seq<|WP.reg<|WL.e e_move<|WL.e e_nil<|WL.e (e_fa f93_5)<|WL.e (e_load a90)<|WL.e (e_len_map Tryz.underlying90)<|WL.e e_geq<|WL.e e_assign<|WL.next ?_
   refine WP.cond rfl (fun h3=>?_) (fun h3=>?_)
   ·replace h3:32≤s.txs.length:=by simp at h3;omega
    have hE:begEg s n=5:=by simp [begEg,h1,hf,h3]
    refine WP.seq<|WP.reg<|WL.e e_assign<|WL.next<|WP.ret<|PO.blockR<|PO.past nofun<|PO.cls (A:=Gs p dp (s)) (B:=[cl p 93 [.pointer (some ⟨lp,0,none⟩),.pointer (some ⟨mp,0,none⟩),nm,.int .u32 s.last.toNat,sv.v,lm],cl lp 156 [.pointer (some ⟨dp,0,none⟩),.int .i64 s.at_],Dk dp s.d,Mm mp s.rows,Mp eStr nm (List.map numC s.nums),Sl 139 3 lookC (sv.v) s.looks,Mp eU32 lm (List.map kvT s.txs)]) (fun S h=>⟨⟨lp,mp,nm,lm,sv⟩,h⟩) ?_
    have hK:=hK 0
    rw [hE,show begG s n 0=s by simp [begG,hE]] at hK
    exact PO.fin Tryz.results9 (rv_tmp rv_nil) hK
   ·replace h3:¬ 32≤s.txs.length:=by simp at h3;omega
    have hE:begEg s n=0:=by simp only [begEg,h1,hf,h3];simp
    refine WP.cls (A:=Gs p dp (s)) (B:=[cl p 93 [.pointer (some ⟨lp,0,none⟩),.pointer (some ⟨mp,0,none⟩),nm,.int .u32 s.last.toNat,sv.v,lm],cl lp 156 [.pointer (some ⟨dp,0,none⟩),.int .i64 s.at_],Dk dp s.d,Mm mp s.rows,Mp eStr nm (List.map numC s.nums),Sl 139 3 lookC (sv.v) s.looks,Mp eU32 lm (List.map kvT s.txs)]) (fun S h=>⟨⟨lp,mp,nm,lm,sv⟩,h⟩) ?_
    refine WP.skip<|PO.blockN<|PO.next<|WP.seq<|WP.reg<|WL.e e_move<|WL.e e_move ?_
    refine WL.h (h_call (begins_spec n hf) k39 ?_)
    intro q
    refine WL.next<|WP.seq<|WP.reg<|WL.e e_assign<|WL.next<|WP.ret ?_
    have hK:=hK q
    rw [hE,begG,if_pos hE] at hK
    exact PO.fin Tryz.results9 (rv_tmp rv_nil) hK
theorem Abort_spec {g:World} {p dp b:Nat} {s:GamV} (n:UInt32) (hs:GamOk s b):Spec Tryz.prog g 13 [.pointer (some ⟨p,0,none⟩),.int .u32 n.toNat] [Gs p dp s,Txs s.txs] fun K R=>K (.int .i64 (aboEg s n)) (Gs p dp (aboG s n)::Txs (aboG s n).txs::R):=by
 have hnd:=hs.ids
 have hown:∀ x ∈ s.txs,x.own.length≤68719476736:=fun x hx=>by have:=hs.own_le hx;have:=hs.bb;omega
 have hlk:s.looks.length≤68719476736:=by have:=hs.looks;have:=hs.bb;omega
 refine Spec.intro Tryz.func13 rfl Tryz.ntmps13 rfl fun R K hK=>?_
 refine WP.seq<|WP.reg<|WL.e e_assign<|WL.next<|WP.seq<|WP.block<|WP.seq<|WP.reg<|WL.e e_move ?_
 refine WL.h (h_call (Gthere_spec) k38 ?_)
 refine WL.e e_not<|WL.e e_assign<|WL.next<|WP.cond_f rfl<|WP.opn (Gs_op (p:=p) (dp:=dp) (s:=s)) fun x=>?_
 obtain ⟨lp,mp,nm,lm,sv⟩:=x
 dsimp only
 refine WP.seq<|WP.reg<|WL.e e_move<|WL.e e_nil<|WL.e (e_fa f93_5)<|WL.e (e_load a90)<|WL.e e_move<|WL.e (e_lookT Tryz.underlying90 (key_u32 Tryz.underlying48) zz105)<|WL.e (e_peq pt105)<|WL.e e_assign<|WL.next ?_
 refine WP.cond rfl (fun h2=>?_) (fun h2=>?_)
 ·have hf:findT s.txs n=none:=by simpa using h2
  rw [show aboEg s n=6 by simp [aboEg,hf],show aboG s n=s by simp [aboG,hf]] at hK
  refine WP.seq<|WP.reg<|WL.e e_assign<|WL.next<|WP.ret<|PO.blockR<|PO.past nofun<|PO.cls (A:=Gs p dp (s)) (B:=[cl p 93 [.pointer (some ⟨lp,0,none⟩),.pointer (some ⟨mp,0,none⟩),nm,.int .u32 s.last.toNat,sv.v,lm],cl lp 156 [.pointer (some ⟨dp,0,none⟩),.int .i64 s.at_],Dk dp s.d,Mm mp s.rows,Mp eStr nm (List.map numC s.nums),Sl 139 3 lookC (sv.v) s.looks,Mp eU32 lm (List.map kvT s.txs)]) (fun S h=>⟨⟨lp,mp,nm,lm,sv⟩,h⟩) ?_
  exact PO.fin Tryz.results13 (rv_tmp rv_nil) hK
 ·obtain ⟨t,hf⟩:∃ t,findT s.txs n=some t:=by cases e:findT s.txs n with
   | none=>rw [e] at h2;cases h2
   | some t=>exact ⟨t,rfl⟩
  rw [hf,Option.map_some]
  obtain ⟨hid,A,B,hts,hdel,_⟩:=find_mid hf
  rw [show aboEg s n=0 by simp [aboEg,hf],show aboG s n=endsG s n by simp [aboG,hf]] at hK
  refine WP.cls (A:=Gs p dp (s)) (B:=[cl p 93 [.pointer (some ⟨lp,0,none⟩),.pointer (some ⟨mp,0,none⟩),nm,.int .u32 s.last.toNat,sv.v,lm],cl lp 156 [.pointer (some ⟨dp,0,none⟩),.int .i64 s.at_],Dk dp s.d,Mm mp s.rows,Mp eStr nm (List.map numC s.nums),Sl 139 3 lookC (sv.v) s.looks,Mp eU32 lm (List.map kvT s.txs)]) (fun S h=>⟨⟨lp,mp,nm,lm,sv⟩,h⟩) ?_
  refine WP.opn (Txs_out hts) fun _=>?_
  rw [← hdel]
  refine WP.skip<|PO.blockN<|PO.next<|WP.seq<|WP.reg<|WL.e e_move<|WL.e e_move ?_
  refine WL.h (h_call (ends_spec n hlk) k41 ?_)
  refine WL.next<|WP.seq<|WP.reg<|WL.e e_assign<|WL.next<|WP.ret ?_
  exact PO.fin Tryz.results13 (rv_tmp rv_nil) hK
set_option maxHeartbeats 4000000 in
theorem Commit_spec {g:World} {p dp b:Nat} {s:GamV} (n:UInt32) (hs:GamOk s b):Spec Tryz.prog g 11 [.pointer (some ⟨p,0,none⟩),.int .u32 n.toNat] [Gs p dp s,Txs s.txs] fun K R=>K (.tuple #[.int .u32 (comNg s n).toNat,.int .i64 (comEg s n)]) (Gs p dp (comG s n)::Txs (comG s n).txs::R):=by
 have hnd:=hs.ids
 have hown:∀ x ∈ s.txs,x.own.length≤68719476736:=fun x hx=>by have:=hs.own_le hx;have:=hs.bb;omega
 have hlk:s.looks.length≤68719476736:=by have:=hs.looks;have:=hs.bb;omega
 refine Spec.intro Tryz.func11 rfl Tryz.ntmps11 rfl fun R K hK=>?_
 refine WP.seq<|WP.reg<|WL.e e_assign<|WL.e e_assign<|WL.next<|WP.seq<|WP.seq<|WP.reg<|WL.e e_move ?_
 refine WL.h (h_call (Gthere_spec) k38 ?_)
 refine WL.e e_not<|WL.next<|WP.cond_f rfl<|WP.opn (Gs_op (p:=p) (dp:=dp) (s:=s)) fun x=>?_
 obtain ⟨lp,mp,nm,lm,sv⟩:=x
 dsimp only
 refine WP.skip<|PO.next<|WP.seq<|WP.reg<|WL.e e_move<|WL.e e_nil<|WL.e (e_fa f93_5)<|WL.e (e_load a90)<|WL.e e_move<|WL.e (e_lookT Tryz.underlying90 (key_u32 Tryz.underlying48) zz105)<|WL.e e_assign<|WL.next<|WP.seq<|WP.seq<|WP.reg<|WL.e e_move<|WL.e (e_peq pt105)<|WL.next ?_
 refine WP.cond rfl (fun h2=>?_) (fun h2=>?_)
 ·have hf:findT s.txs n=none:=by simpa using h2
  rw [show comEg s n=6 by simp [comEg,hf],show comNg s n=0 by simp [comNg,hf],show comG s n=s by simp [comG,hf]] at hK
  refine WP.seq<|WP.reg<|WL.e e_assign<|WL.e e_assign<|WL.next<|WP.ret<|PO.past nofun<|PO.cls (A:=Gs p dp (s)) (B:=[cl p 93 [.pointer (some ⟨lp,0,none⟩),.pointer (some ⟨mp,0,none⟩),nm,.int .u32 s.last.toNat,sv.v,lm],cl lp 156 [.pointer (some ⟨dp,0,none⟩),.int .i64 s.at_],Dk dp s.d,Mm mp s.rows,Mp eStr nm (List.map numC s.nums),Sl 139 3 lookC (sv.v) s.looks,Mp eU32 lm (List.map kvT s.txs)]) (fun S h=>⟨⟨lp,mp,nm,lm,sv⟩,h⟩) ?_
  exact PO.fin Tryz.results11 (rv_tmp (rv_tmp rv_nil)) hK
 ·obtain ⟨t,hf⟩:∃ t,findT s.txs n=some t:=by cases e:findT s.txs n with
   | none=>rw [e] at h2;cases h2
   | some t=>exact ⟨t,rfl⟩
  rw [hf,Option.map_some]
  obtain ⟨hid,A,B,hts,hdel,_⟩:=find_mid hf
  refine WP.cls (A:=Gs p dp (s)) (B:=[cl p 93 [.pointer (some ⟨lp,0,none⟩),.pointer (some ⟨mp,0,none⟩),nm,.int .u32 s.last.toNat,sv.v,lm],cl lp 156 [.pointer (some ⟨dp,0,none⟩),.int .i64 s.at_],Dk dp s.d,Mm mp s.rows,Mp eStr nm (List.map numC s.nums),Sl 139 3 lookC (sv.v) s.looks,Mp eU32 lm (List.map kvT s.txs)]) (fun S h=>⟨⟨lp,mp,nm,lm,sv⟩,h⟩) ?_
  refine WP.opn (Txs_out hts) fun _=>?_
  rw [← hdel]
  have hol:=hs.own_le (find_mem hf)
  have hbb:=hs.bb
  have hcl:=chgs_len t.own
  have hcl2:=hcl.2 (hs.own t (find_mem hf))
  have hall:t.own.all chgOk=true:=List.all_eq_true.2 (hs.own t (find_mem hf))
  have hrl:=recG_len t
  refine WP.skip<|PO.next<|WP.seq<|WP.reg<|WL.e e_move<|WL.e e_move ?_
  refine WL.h (h_call (ends_spec n hlk) k41 ?_)
  refine WL.next<|WP.seq<|WP.reg<|WL.e e_move<|WL.e e_nil<|WL.e (e_fa f116_1)<|WL.e (e_load a96) ?_
  refine WL.h (h_call (PutChanges_spec (sl_rl (xs:=t.own)) (by omega) (by omega)) k42 ?_)
  refine ⟨fun hb=>absurd hb (by rw [hall];simp),fun _ hle=>?_,fun _ hle a3 n3 c3=>?_⟩
  ·have hnf:¬ fitsG s t:=not_fits hle
   rw [show comEg s n=5 by simp [comEg,hf,hnf],show comNg s n=0 by simp [comNg,hf,hnf],comG_txs hf,show comG s n=endsG s n by simp [comG,hf,commG,hnf]] at hK
   refine WL.e e_move<|WL.e e_extract<|WL.e e_extract<|WL.e e_assign<|WL.e e_assign<|WL.next<|WP.seq<|WP.seq<|WP.draws mixedOk 18<|RW.e 0 rfl e_move<|RW.e 1 rfl e_neq<|RW.e 2 rfl e_move ?_
   refine RW.bool 33 rfl (fun hg=>?_) (fun hg=>?_)
   ·skip
    refine RW.skip 3 rfl<|RW.skip 4 rfl<|RW.skip 5 rfl<|RW.skip 6 rfl<|RW.skip 7 rfl<|RW.skip 8 rfl<|RW.skip 9 rfl<|RW.skip 10 rfl<|RW.skip 11 rfl<|RW.skip 12 rfl<|RW.skip 13 rfl<|RW.skip 14 rfl<|RW.skip 15 rfl<|RW.skip 16 rfl<|RW.e 17 rfl e_pick_t<|RW.done<|PO.next<|WP.cond_t rfl<|WP.seq<|WP.reg<|WL.e e_assign<|WL.e e_assign<|WL.next<|WP.ret ?_
    refine PO.past nofun ?_
    exact PO.fin Tryz.results11 (rv_tmp (rv_tmp rv_nil)) hK
   ·exact absurd hg (by decide) 
  ·refine WL.opn (Gs_op (p:=p) (dp:=dp) (s:=(endsG s n))) fun x=>?_
   obtain ⟨lp,mp,nm,lm,sv⟩:=x
   dsimp only
   refine WL.e e_move<|WL.e e_extract<|WL.e e_extract<|WL.e e_assign<|WL.e e_assign<|WL.next<|WP.seq<|WP.seq<|WP.draws mixedOk 18<|RW.e 0 rfl e_move<|RW.e 1 rfl e_neq<|RW.e 2 rfl e_move ?_
   refine RW.bool 33 rfl (fun hg=>?_) (fun hg=>?_)
   ·exact absurd hg (by decide) 
   ·skip
    refine RW.e 3 rfl e_move<|RW.e 4 rfl e_nil<|RW.e 5 rfl (e_fa f93_0)<|RW.e 6 rfl (e_load a83)<|RW.e 7 rfl e_move<|RW.e 8 rfl e_nil<|RW.e 9 rfl (e_fa f116_0)<|RW.e 10 rfl (e_fa f114_0)<|RW.e 11 rfl (e_load a48)<|RW.e 13 rfl e_move ?_
    refine RW.any (is:=[12]) rfl ⟨?_,trivial⟩
    refine RWat.h rfl rfl rfl ?_
    refine (h_call (four_spec t.num) k44 ?_)
    intro a4 n4 c4
    refine ⟨⟨⟨_,rfl,.inl ⟨rfl,e_move⟩⟩,⟨_,rfl,.inl ⟨rfl,(e_load a83)⟩⟩,⟨_,rfl,.inl ⟨rfl,(e_fa f93_0)⟩⟩,⟨_,rfl,.inl ⟨rfl,e_nil⟩⟩,⟨_,rfl,.inl ⟨rfl,e_move⟩⟩,trivial⟩,?_⟩
    refine RW.any (is:=[14]) rfl ⟨?_,trivial⟩
    refine RWat.h rfl rfl rfl ?_
    refine (hl_append (xs:=numB t.num 4) (ys:=chgsB t.own) sl94 eB_ok z5 sl_rl (by simp only [numB_len,chgsB,List.length_append];omega) (fun a5 n5 c5=>?_))
    refine ⟨⟨⟨_,rfl,.inl ⟨rfl,(e_load a83)⟩⟩,⟨_,rfl,.inl ⟨rfl,(e_fa f93_0)⟩⟩,⟨_,rfl,.inl ⟨rfl,e_nil⟩⟩,⟨_,rfl,.inl ⟨rfl,e_move⟩⟩,trivial⟩,?_⟩
    refine RW.any (is:=[15]) rfl ⟨?_,trivial⟩
    refine RWat.h rfl rfl rfl ?_
    refine (h_call (Add_spec (i:=s.at_) (d:=s.d) (sl_rl (xs:=recG t)) hs.dok hs.hat (by rw [hs.waits];simp)) k43 ?_)
    refine ⟨fun h=>?_,fun h h'=>?_,fun h h'=>?_⟩
    ·have hnf:¬ fitsG s t:=fun hf=>absurd hf.1 (by omega)
     rw [show comEg s n=5 by simp [comEg,hf,hnf],show comNg s n=0 by simp [comNg,hf,hnf],comG_txs hf,show comG s n=endsG s n by simp [comG,hf,commG,hnf]] at hK
     refine ⟨trivial,?_⟩
     refine RW.e 16 rfl e_neq<|RW.e 17 rfl e_pick_f<|RW.done<|PO.next<|WP.cond_t rfl<|WP.seq<|WP.reg<|WL.e e_assign<|WL.e e_assign<|WL.next<|WP.ret<|PO.past nofun<|PO.cls (A:=Gs p dp ((endsG s n))) (B:=[cl p 93 [.pointer (some ⟨lp,0,none⟩),.pointer (some ⟨mp,0,none⟩),nm,.int .u32 (endsG s n).last.toNat,sv.v,lm],cl lp 156 [.pointer (some ⟨dp,0,none⟩),.int .i64 (endsG s n).at_],Dk dp (endsG s n).d,Mm mp (endsG s n).rows,Mp eStr nm (List.map numC (endsG s n).nums),Sl 139 3 lookC (sv.v) (endsG s n).looks,Mp eU32 lm (List.map kvT (endsG s n).txs)]) (fun S h=>⟨⟨lp,mp,nm,lm,sv⟩,h⟩) ?_
     exact PO.fin Tryz.results11 (rv_tmp (rv_tmp rv_nil)) hK
    ·have hnf:¬ fitsG s t:=fun hf=>absurd hf.2 (by omega)
     rw [show comEg s n=5 by simp [comEg,hf,hnf],show comNg s n=0 by simp [comNg,hf,hnf],comG_txs hf,show comG s n=endsG s n by simp [comG,hf,commG,hnf]] at hK
     refine ⟨trivial,?_⟩
     refine RW.e 16 rfl e_neq<|RW.e 17 rfl e_pick_f<|RW.done<|PO.next<|WP.cond_t rfl<|WP.seq<|WP.reg<|WL.e e_assign<|WL.e e_assign<|WL.next<|WP.ret<|PO.past nofun<|PO.cls (A:=Gs p dp ((endsG s n))) (B:=[cl p 93 [.pointer (some ⟨lp,0,none⟩),.pointer (some ⟨mp,0,none⟩),nm,.int .u32 (endsG s n).last.toNat,sv.v,lm],cl lp 156 [.pointer (some ⟨dp,0,none⟩),.int .i64 (endsG s n).at_],Dk dp (endsG s n).d,Mm mp (endsG s n).rows,Mp eStr nm (List.map numC (endsG s n).nums),Sl 139 3 lookC (sv.v) (endsG s n).looks,Mp eU32 lm (List.map kvT (endsG s n).txs)]) (fun S h=>⟨⟨lp,mp,nm,lm,sv⟩,h⟩) ?_
     exact PO.fin Tryz.results11 (rv_tmp (rv_tmp rv_nil)) hK
    ·have hfit:fitsG s t:=⟨h,h'⟩
     refine ⟨trivial,?_⟩
     refine RW.e 16 rfl e_neq<|RW.e 17 rfl e_pick_f<|RW.done<|PO.next<|WP.cond_f rfl<|WP.skip<|PO.next<|WP.seq<|WP.reg<|WL.e e_move<|WL.e e_nil<|WL.e (e_fa f93_0)<|WL.e (e_load a83) ?_
     refine WL.h (h_call (Force_spec (d:=addW s.d s.at_ (frame (recG t)) (secs (recG t).length)) (addW_ok _ _ _ _ hs.dok)) k45 ?_)
     refine WL.next ?_
     refine WP.cutL (fun (_:Unit)=>[]) (fun (_:Unit)=>Gs p dp { endsG s n with d:=(addW s.d s.at_ (frame (recG t)) (secs (recG t).length)).sync,at_:=s.at_+secs (recG t).length,rows:=changeR s.rows t.own }::cl t.q 116 [.int .u32 t.num.toNat,t.sv.v]::Sl 123 3 ChgM.c t.sv.v t.own::Txs (delT s.txs n)::R) (fun (_:Unit)=>True) ?_ ?_
     ·skip
      refine WP.draws mixedOk 9<|RW.e 0 rfl e_move<|RW.e 1 rfl e_nil<|RW.e 2 rfl (e_fa f93_1)<|RW.e 3 rfl (e_load a87)<|RW.e 4 rfl e_move<|RW.e 5 rfl e_nil<|RW.e 6 rfl (e_fa f116_1)<|RW.e 7 rfl (e_load a96) ?_
      refine RW.any (is:=[8]) rfl ⟨?_,trivial⟩
      refine RWat.h rfl rfl rfl ?_
      refine (h_call (Change_spec (l:=s.rows) (sl_rl (xs:=t.own)) hs.rising (by omega)) k36 ?_)
      refine ⟨fun hb=>absurd hb (by rw [hs.bad (find_mem hf)];simp),fun _=>?_⟩
      refine ⟨trivial,?_⟩
      refine RW.done<|PO.cls (A:=Gs p dp ({ endsG s n with d:=(addW s.d s.at_ (frame (recG t)) (secs (recG t).length)).sync,at_:=s.at_+secs (recG t).length,rows:=changeR s.rows t.own })) (B:=[cl p 93 [.pointer (some ⟨lp,0,none⟩),.pointer (some ⟨mp,0,none⟩),nm,.int .u32 (endsG s n).last.toNat,sv.v,lm],cl lp 156 [.pointer (some ⟨dp,0,none⟩),.int .i64 (s.at_+secs (recG t).length:Nat)],Dk dp (addW s.d s.at_ (frame (recG t)) (secs (recG t).length)).sync,Mm mp (changeR s.rows t.own),Mp eStr nm (List.map numC (endsG s n).nums),Sl 139 3 lookC (sv.v) (endsG s n).looks,Mp eU32 lm (List.map kvT (endsG s n).txs)]) (fun S h=>⟨⟨lp,mp,nm,lm,sv⟩,h⟩) ?_
      exact PO.meetK () trivial
     ·intro _ _
      refine WP.seq<|WP.draws mixedOk 11<|RW.e 0 rfl e_move<|RW.e 1 rfl e_move<|RW.e 2 rfl e_nil<|RW.e 3 rfl (e_fa f116_0)<|RW.e 4 rfl (e_fa f114_0)<|RW.e 5 rfl (e_load a48)<|RW.e 6 rfl e_move<|RW.e 7 rfl e_nil<|RW.e 8 rfl (e_fa f116_1)<|RW.e 9 rfl (e_load a96) ?_
      refine RW.any (is:=[10]) rfl ⟨?_,trivial⟩
      refine RWat.h rfl rfl rfl ?_
      refine (h_call (kept_spec t.num (sl_rl (xs:=t.own)) (by omega)) k37 ?_)
      refine ⟨trivial,?_⟩
      refine RW.done<|PO.next<|WP.seq<|WP.reg<|WL.e e_move<|WL.e e_nil<|WL.e (e_fa f116_0)<|WL.e (e_fa f114_0)<|WL.e (e_load a48)<|WL.e e_assign<|WL.e e_assign<|WL.next<|WP.ret ?_
      rw [show comEg s n=0 by simp [comEg,hf,hfit],show comNg s n=t.num by simp [comNg,hf,hfit],comG_txs hf,show comG s n={ { endsG s n with d:=(addW s.d s.at_ (frame (recG t)) (secs (recG t).length)).sync,at_:=s.at_+secs (recG t).length,rows:=changeR s.rows t.own } with nums:=keptG s.nums t.num t.own } by simp [comG,hf,commG,hfit]] at hK
      exact PO.fin Tryz.results11 (rv_tmp (rv_tmp rv_nil)) hK
end Go.SL
set_option linter.unusedSectionVars false
namespace Go.SL
open Go
theorem delT_sub {ts:List TxV} {n:UInt32}:(delT ts n).Sublist ts:=List.eraseP_sublist
theorem sum_sub {a b:List TxV} (h:a.Sublist b):(a.map fun t=>t.own.length).sum≤(b.map fun t=>t.own.length).sum:=by
  induction h with
  | slnil=>simp
  | cons x _ ih=>simp;omega
  | cons_cons x _ ih=>simp;omega
theorem GamOk.ends {s:GamV} {b:Nat} (h:GamOk s b) (n:UInt32):GamOk (endsG s n) b where
  dok:=h.dok
  hat:=h.hat
  waits:=h.waits
  rising:=h.rising
  sum:=by have:=sum_sub (delT_sub (ts:=s.txs) (n:=n));have:=h.sum;show s.rows.length+((delT s.txs n).map _).sum≤b;omega
  looks:=Nat.le_trans (List.length_filter_le _ _) h.looks
  ids:=h.ids.sublist (delT_sub.map _)
  own:=fun t ht=>h.own t (delT_sub.mem ht)
  bb:=h.bb
theorem find_none {ts:List TxV} {n:UInt32} (h:findT ts n=none):n ∉ ts.map (·.id):=by
  intro hm
  obtain ⟨t,ht,rfl⟩:=List.mem_map.1 hm
  have:=List.find?_eq_none.1 h t ht
  simp at this
theorem GamOk.beg {s:GamV} {b:Nat} (h:GamOk s b) (n:UInt32) (q:Nat):GamOk (begG s n q) b:=by
  unfold begG
  split
  · rename_i hE
    have hf:findT s.txs n=none:=by
      unfold begEg at hE
      cases e:findT s.txs n with
      | none=>rfl
      | some t=>rw [e] at hE;split at hE <;> simp at hE
    refine ⟨h.dok,h.hat,h.waits,h.rising,?_,h.looks,?_,?_,h.bb⟩
    · have:=h.sum;simpa using this
    · simp only [List.map_append,List.map_cons,List.map_nil]
      refine List.nodup_append.2 ⟨h.ids,by simp,?_⟩
      intro a ha c hc e
      simp at hc;subst hc;subst e
      exact find_none hf ha
    · intro t ht
      rcases List.mem_append.1 ht with ht | ht
      · exact h.own t ht
      · simp at ht;subst ht;simp
  · exact h
theorem GamOk.abo {s:GamV} {b:Nat} (h:GamOk s b) (n:UInt32):GamOk (aboG s n) b:=by
  unfold aboG;split
  · exact h.ends n
  · exact h
theorem GamOk.com {s:GamV} {b:Nat} (h:GamOk s b) (n:UInt32):GamOk (comG s n) b:=by
  unfold comG
  cases hf:findT s.txs n with
  | none=>exact h
  | some t=>
    simp only [commG]
    split
    · rename_i hfit
      have he:=h.ends n
      obtain ⟨_,A,B,hts,hdel,_⟩:=find_mid hf
      have hr:=changeR_rising t.own h.rising
      have h1:=addW_ok (secs (recG t).length) s.d s.at_ (frame (recG t)) h.dok
      have h2:=addW_len (secs (recG t).length) s.d s.at_ (frame (recG t))
      refine ⟨h1.sync,?_,rfl,hr.1,?_,he.looks,he.ids,he.own,h.bb⟩
      · show s.at_+secs (recG t).length≤(addW _ _ _ _).seen.length
        rw [h1.len,h2.1];exact hfit.2
      · have:=h.sum
        rw [hts] at this
        show (changeR s.rows t.own).length+((delT s.txs n).map _).sum≤b
        rw [hdel]
        simp only [List.map_append,List.map_cons,List.sum_append,List.sum_cons] at this ⊢
        omega
    · exact h.ends n
theorem GamOk.look {s:GamV} {b:Nat} (h:GamOk s b) (hb:b+1≤1000000000) (t:TxV) (p:SpanM):GamOk (lookG s t p) (b+1):=
  ⟨h.dok,h.hat,h.waits,h.rising,Nat.le_succ_of_le h.sum,by have:=h.looks;simp [lookG];omega,h.ids,h.own,hb⟩
theorem GamOk.put {s:GamV} {b:Nat} (h:GamOk s b) (hb:b+1≤1000000000) {t:TxV} (ht:t ∈ s.txs) (c:ChgM) (hc:chgOk c=true) (sv:SV):GamOk (putG s t.id c sv) (b+1):=by
  obtain ⟨A,B,e⟩:=mem_mid ht
  have hp:(putG s t.id c sv).txs=A++{ t with own:=t.own++[c],sv:=sv }::B:=by
    show putT s.txs t.id c sv=_
    rw [e];exact putT_mid (e ▸ h.ids) c sv
  refine ⟨h.dok,h.hat,h.waits,h.rising,?_,Nat.le_succ_of_le h.looks,?_,?_,hb⟩
  · rw [hp]
    have:=h.sum
    rw [e] at this
    simp at this ⊢
    show s.rows.length+_≤_
    omega
  · rw [hp]
    have:=h.ids
    rw [e] at this
    simpa using this
  · rw [hp]
    intro y hy c' hc'
    rcases List.mem_append.1 hy with hy | hy
    · exact h.own y (by rw [e];simp [hy]) c' hc'
    · rcases List.mem_cons.1 hy with rfl | hy
      · simp at hc'
        rcases hc' with hc' | rfl
        · exact h.own t ht c' hc'
        · exact hc
      · exact h.own y (by rw [e];simp [hy]) c' hc'
def gam0 (d:DiskM):GamV:=⟨d,0,[],[],0,[],[]⟩
theorem gam0_ok {d:DiskM} (h:Quiet d):GamOk (gam0 d) 0:=⟨h.ok,Nat.zero_le _,h.waits,List.Pairwise.nil,by simp [gam0],by simp [gam0],by simp [gam0],by simp [gam0],by decide⟩
theorem doG_look {s:GamV} {n:UInt32} {x:OpM} {t:TxV} (h1:opOk x=true) (hf:findT s.txs n=some t) (hl:lateG s t (spanOf x) (writes x)=false) (hu:(underL s.txs t.id (spanOf x)).any (fun m=>decide (m < t.num))=false) (hw:writes x=false):doG s n x=.look t:=by
  unfold doG
  rw [if_pos h1,hf]
  simp only [hl,hu]
  simp [hw]
theorem doG_put {s:GamV} {n:UInt32} {x:OpM} {t:TxV} (h1:opOk x=true) (hf:findT s.txs n=some t) (hl:lateG s t (spanOf x) (writes x)=false) (hu:(underL s.txs t.id (spanOf x)).any (fun m=>decide (m < t.num))=false) (hw:writes x=true):doG s n x=.put t (chgOf x):=by
  unfold doG
  rw [if_pos h1,hf]
  simp only [hl,hu]
  simp [hw]
def tx1 (q:Nat):TxV:=⟨1,1,[],q,sv0⟩
theorem late_beg1 (d:DiskM) (q:Nat):begEg (gam0 d) 1=0∧begG (gam0 d) 1 q=⟨d,0,[],[],1,[],[tx1 q]⟩:=by
  have h:begEg (gam0 d) 1=0:=by simp [begEg,gam0,findT]
  exact ⟨h,by rw [begG,if_pos h];rfl⟩
def t7 (q:Nat):TxV:=⟨7,1,[],q,sv0⟩
def t8 (q:Nat):TxV:=⟨8,2,[],q,sv0⟩
def t9 (q:Nat) (c:List ChgM) (sv:SV):TxV:=⟨9,3,c,q,sv⟩
def t4' (q:Nat):TxV:=⟨4,4,[],q,sv0⟩
def lv1 (d:DiskM) (q1:Nat):GamV:=⟨d,0,[],[],1,[],[t7 q1]⟩
def lv2 (d:DiskM) (q1 q2:Nat):GamV:=⟨d,0,[],[],2,[],[t7 q1,t8 q2]⟩
def lv4 (d:DiskM) (q2:Nat):GamV:=⟨d,0,[],[],2,[(2,one kA)],[t8 q2]⟩
def lv5 (d:DiskM) (q2 q3:Nat):GamV:=⟨d,0,[],[],3,[(2,one kA)],[t8 q2,t9 q3 [] sv0]⟩
def lv6 (d:DiskM) (q2 q3 q4:Nat) (c:List ChgM) (sv:SV):GamV:=⟨d,0,[],[],4,[(2,one kA)],[t8 q2,t9 q3 c sv,t4' q4]⟩
theorem lv_1 (d:DiskM) (q:Nat):begEg (gam0 d) 7=0∧begG (gam0 d) 7 q=lv1 d q:=by
  have h:begEg (gam0 d) 7=0:=by simp [begEg,gam0,findT]
  exact ⟨h,by rw [begG,if_pos h];rfl⟩
theorem lv_2 (d:DiskM) (q1 q:Nat):begEg (lv1 d q1) 8=0∧begG (lv1 d q1) 8 q=lv2 d q1 q:=by
  have h:begEg (lv1 d q1) 8=0:=by simp [begEg,lv1,findT,t7]
  exact ⟨h,by rw [begG,if_pos h];rfl⟩
theorem lv_3 (d:DiskM) (q1 q2:Nat):doG (lv2 d q1 q2) 8 (opGet kA)=.look (t8 q2):=by
  simp only [doG,get_ok,w_get,span_get,keyA,if_true]
  simp [lv2,findT,t7,t8,lateG,numsLate,underL,changes]
theorem lv_4e (d:DiskM) (q1 q2:Nat):endsG (lookG (lv2 d q1 q2) (t8 q2) (one kA)) 7=lv4 d q2:=by simp [endsG,lookG,lv2,lv4,delT,t7,t8,minL]
theorem lv_4 (d:DiskM) (q1 q2:Nat):doG (lookG (lv2 d q1 q2) (t8 q2) (one kA)) 7 (opPut kA 5)=.err (lv4 d q2) 9:=by
  have he:endsG (lookG (lv2 d q1 q2) (t8 q2) (one kA)) 7=lv4 d q2:=by simp [endsG,lookG,lv2,lv4,delT,t7,t8,minL]
  simp only [doG,put_ok,w_put,span_put,keyA,if_true,he]
  simp [lookG,lv2,findT,t7,t8,lateG,numsLate,underL,changes,in_one]
theorem lv_5 (d:DiskM) (q2 q:Nat):begEg (lv4 d q2) 9=0∧begG (lv4 d q2) 9 q=lv5 d q2 q:=by
  have h:begEg (lv4 d q2) 9=0:=by simp [begEg,lv4,findT,t8]
  exact ⟨h,by rw [begG,if_pos h];rfl⟩
theorem lv_6 (d:DiskM) (q2 q3 q:Nat):begEg (lv5 d q2 q3) 4=0∧begG (lv5 d q2 q3) 4 q=lv6 d q2 q3 q [] sv0:=by
  have h:begEg (lv5 d q2 q3) 4=0:=by simp [begEg,lv5,findT,t8,t9]
  exact ⟨h,by rw [begG,if_pos h];rfl⟩
theorem lv_7 (d:DiskM) (q2 q3 q4:Nat):doG (lv6 d q2 q3 q4 [] sv0) 9 (opPut kB 1)=.put (t9 q3 [] sv0) ⟨kB,1,false⟩:=by
  simp only [doG,put_ok,w_put,span_put,keyB,if_true,chg_put]
  simp [lv6,findT,t8,t9,t4',lateG,numsLate,underL,changes]
theorem lv_7' (d:DiskM) (q2 q3 q4:Nat) (sv:SV):putG (lv6 d q2 q3 q4 [] sv0) (t9 q3 [] sv0).id ⟨kB,1,false⟩ sv=lv6 d q2 q3 q4 [⟨kB,1,false⟩] sv:=by
  simp [putG,putT,lv6,t8,t9,t4']
theorem lv_8 (d:DiskM) (q2 q3 q4:Nat) (sv:SV):doG (lv6 d q2 q3 q4 [⟨kB,1,false⟩] sv) 4 (opGet kB)=.err (lv6 d q2 q3 q4 [⟨kB,1,false⟩] sv) 8:=by
  simp only [doG,get_ok,w_get,span_get,keyB,if_true]
  simp [lv6,findT,t8,t9,t4',lateG,numsLate,underL,changes,in_one]
theorem lv_fit (d:DiskM) (hd:Quiet d) (q2 q3 q4:Nat) (sv:SV):fitsG (lv6 d q2 q3 q4 [⟨kB,1,false⟩] sv) (t9 q3 [⟨kB,1,false⟩] sv):=by
  have hl:(recG (t9 q3 [⟨kB,1,false⟩] sv)).length=13:=by rw [recG_len];simp [t9,chgB_kB]
  exact ⟨by rw [hl];decide,by rw [hl];show 0+secs 13≤d.sure.length;rw [hd.len];decide⟩
theorem lv_find (d:DiskM) (q2 q3 q4:Nat) (sv:SV):findT (lv6 d q2 q3 q4 [⟨kB,1,false⟩] sv).txs 9=some (t9 q3 [⟨kB,1,false⟩] sv):=by simp [lv6,findT,t8,t9]
theorem lv_9 (d:DiskM) (hd:Quiet d) (q2 q3 q4:Nat) (sv:SV):comEg (lv6 d q2 q3 q4 [⟨kB,1,false⟩] sv) 9=0∧comNg (lv6 d q2 q3 q4 [⟨kB,1,false⟩] sv) 9=3 ∧
    (comG (lv6 d q2 q3 q4 [⟨kB,1,false⟩] sv) 9).rows=[⟨kB,1⟩]∧(comG (lv6 d q2 q3 q4 [⟨kB,1,false⟩] sv) 9).nums=[(kB,3)]∧(comG (lv6 d q2 q3 q4 [⟨kB,1,false⟩] sv) 9).txs=[t8 q2,t4' q4]:=by
  have hf:=lv_find d q2 q3 q4 sv
  have hfit:=lv_fit d hd q2 q3 q4 sv
  refine ⟨by simp only [comEg,hf,if_pos hfit],by simp only [comNg,hf,if_pos hfit];rfl,?_,?_,by rw [comG_txs hf];simp [lv6,delT,t8,t9,t4']⟩
  · simp only [comG,hf,commG,if_pos hfit]
    simp [lv6,t9,changeR,applyC,setR,hasI,lowI]
  · simp only [comG,hf,commG,if_pos hfit]
    simp [lv6,t9,keptG,setN]
theorem lv_10 {s:GamV} {q2 q4:Nat} (hn:s.nums=[(kB,3)]) (ht:s.txs=[t8 q2,t4' q4]):doG s 4 (opGet kB)=.look (t4' q4):=by
  simp only [doG,get_ok,w_get,span_get,keyB,if_true,ht]
  simp [findT,t8,t4',lateG,numsLate,hn,ht,underL,changes]
theorem lv_11 {s:GamV} {q4:Nat} (hr:s.rows=[⟨kB,1⟩]):scanR (changeR s.rows (t4' q4).own) (one kB) 256=[⟨kB,1⟩]:=by
  rw [hr]
  have:inSpan (one kB) kB=true:=by rw [← meet_one];exact in_one kB
  simp [changeR,t4',scanR,this]
theorem lv_12 {s:GamV}:begEg s 0=1∧∀ q,begG s 0 q=s:=by
  have h:begEg s 0=1:=by simp [begEg]
  exact ⟨h,fun q=>by simp [begG,h]⟩
theorem lv_13 {s:GamV} {q2 q4:Nat} (ht:s.txs=[t8 q2,t4' q4]):aboEg s 7=6∧aboG s 7=s:=by simp [aboEg,aboG,ht,findT,t8,t4']
end Go.SL
namespace Go.SL.Fc
open Go Go.Proofs Go.SL
theorem f61_0:fldOf Tryz.prog 61 0=some 0:=by kernel_rfl
theorem k11:callable Tryz.prog 11=true:=by kernel_rfl
theorem k13:callable Tryz.prog 13=true:=by kernel_rfl
theorem k17:callable Tryz.prog 17=true:=by kernel_rfl
theorem k30:callable Tryz.prog 30=true:=by kernel_rfl
theorem k31:callable Tryz.prog 31=true:=by kernel_rfl
theorem k32:callable Tryz.prog 32=true:=by kernel_rfl
theorem k33:callable Tryz.prog 33=true:=by kernel_rfl
theorem k34:callable Tryz.prog 34=true:=by kernel_rfl
theorem k6:callable Tryz.prog 6=true:=by kernel_rfl
theorem k7:callable Tryz.prog 7=true:=by kernel_rfl
theorem k9:callable Tryz.prog 9=true:=by kernel_rfl
theorem p51:placesOf Tryz.prog 51=some [(0,1),(1,1),(2,1),(3,1)]:=by kernel_rfl
theorem p93:placesOf Tryz.prog 93=some [(0,1),(1,1),(2,1),(3,1),(4,1),(5,1)]:=by kernel_rfl
theorem s51:szOf Tryz.prog 51=some 4:=by kernel_rfl
theorem z51:zeroOf Tryz.prog 51=some [.int .u8 0,.string .empty,.string .empty,.int .u32 0]:=by kernel_rfl
theorem z93:zeroOf Tryz.prog 93=some [.pointer none,.pointer none,.map none,.int .u32 0,.slice none 0 0,.map none]:=by kernel_rfl
end Go.SL.Fc
namespace Go.SL
open Go Go.Proofs Fc
theorem New0_spec {g:World} {dp:Nat} {d:DiskM} (hd:d.ok) (hw:d.waits.length < 4000000000) (hz:recs d.seen.flatten=[]) (hc:cleanTo d.seen.flatten d 0 d.sure.length=d):Spec Tryz.prog g 7 [.pointer (some ⟨dp,0,none⟩)] [Dk dp d] fun K R=>∀ p,K (.tuple #[.pointer (some ⟨p,0,none⟩),.int .i64 0]) (Gs p dp (gam0 d.sync)::Txs []::R):=by
 refine Spec.intro Tryz.func7 rfl Tryz.ntmps7 rfl fun R K hK=>?_
 refine WP.seq<|WP.reg<|WL.e e_assign<|WL.e e_assign<|WL.next<|WP.seq<|WP.reg<|WL.e e_move ?_
 refine WL.h (h_call (Open_spec hd hw) k33 ?_)
 intro lp sv xs hx
 obtain rfl:xs=[]:=by rw [hz] at hx;simpa using hx
 rw [show tot []=0 from rfl,Nat.sub_zero,hc]
 refine WL.e e_move<|WL.e e_extract<|WL.e e_extract<|WL.e e_extract<|WL.e e_assign<|WL.e e_assign<|WL.e e_assign<|WL.next<|WP.seq<|WP.seq<|WP.reg<|WL.e e_move<|WL.e e_neq<|WL.next<|WP.cond_f rfl<|WP.skip<|PO.next<|WP.seq<|WP.reg<|WL.e e_move ?_
 refine WL.h (h_call (MNew_spec) k34 ?_)
 intro mp
 refine WL.h (h_makeMapB (ek:=eStr) fun nb=>?_)
 refine WL.h (h_makeMapB (ek:=eU32) fun mb=>?_)
 refine WL.e (e_build z93 p93 (.o (.tmp 22) rfl<|.o (.tmp 23) rfl<|.o (.tmp 24) rfl<|.z (.int .u32 0)<|.z (.slice none 0 0)<|.o (.tmp 25) rfl<|.n)) ?_
 refine WL.h (h_box fun b1=>?_)
 refine WL.e e_assign<|WL.next<|WP.seq<|WP.seq<|WP.reg<|WL.e e_move<|WL.e (el_len (xs:=([]:List RecV)) sl84 sl_rl)<|WL.e e_move<|WL.next<|WP.block<|WP.loopK (fun (_:Unit)=>[(30,.int .i64 0)]) (fun (_:Unit)=>cl b1 93 [.pointer (some ⟨lp,0,none⟩),.pointer (some ⟨mp,0,none⟩),(.map (some nb)),.int .u32 0,.slice none 0 0,(.map (some mb))]::cl lp 156 [.pointer (some ⟨dp,0,none⟩),.int .i64 0]::Dk dp d.sync::Mm mp []::Mp eStr (.map (some nb)) ([]:List (ByteArray × Value))::Mp eU32 (.map (some mb)) ([]:List (UInt32 × Value))::R) [(7,_),(28,_),(29,_)] (fun (_:Unit)=>True) (fun (_:Unit)=>0) () (trivial) ?_
 intro _ _
 refine WP.seq<|WP.reg<|WL.e e_lss<|WL.next<|WP.seq ?_
 refine WP.cond rfl (fun h1=>?_) (fun h1=>?_)
 ·simp at h1
 ·skip
  refine WP.exit<|PO.past nofun<|PO.round nofun<|PO.blockX<|PO.next<|WP.seq<|WP.reg<|WL.e e_move<|WL.e e_assign<|WL.e e_assign<|WL.next<|WP.ret<|PO.nils 139 3 lookC none ?_
  refine PO.cls (A:=Gs b1 dp (gam0 d.sync)) (B:=[cl b1 93 [.pointer (some ⟨lp,0,none⟩),.pointer (some ⟨mp,0,none⟩),(.map (some nb)),.int .u32 0,.slice none 0 0,(.map (some mb))],cl lp 156 [.pointer (some ⟨dp,0,none⟩),.int .i64 0],Dk dp d.sync,Mm mp [],Mp eStr (.map (some nb)) ([]:List (ByteArray × Value)),Sl 139 3 lookC (.slice none 0 0) [],Mp eU32 (.map (some mb)) ([]:List (UInt32 × Value))]) (fun S h=>⟨⟨lp,mp,.map (some nb),.map (some mb),⟨none,0,0⟩⟩,h⟩) ?_
  refine PO.conv (M:=Txs []::_) (fun S h=>bun_stars (L:=[]) h) ?_
  exact PO.fin Tryz.results7 (rv_tmp (rv_tmp rv_nil)) (hK b1)
theorem opened_spec {g:World}:Spec Tryz.prog g 30 [] [] fun K R=>∀ dp p d,Quiet d→K (.tuple #[.pointer (some ⟨dp,0,none⟩),.pointer (some ⟨p,0,none⟩)]) (Gs p dp (gam0 d)::Txs []::R):=by
 refine Spec.intro Tryz.func30 rfl Tryz.ntmps30 rfl fun R K hK=>?_
 refine WP.seq<|WP.reg<|WL.e e_assign<|WL.e e_assign<|WL.next<|WP.seq<|WP.reg ?_
 refine WL.h (h_call (New_spec 4096 (by decide)) k6 ?_)
 refine ⟨fun h=>absurd h (by omega),fun _ _ dp=>?_⟩
 refine WL.e e_move<|WL.e e_extract<|WL.e e_extract<|WL.e e_assign<|WL.e e_assign<|WL.next<|WP.seq<|WP.reg<|WL.e e_move ?_
 refine WL.h (h_call (New0_spec (d:=newDisk 4096) newDisk_quiet.ok (by rw [newDisk_quiet.waits];simp) (by rw [new_flat];exact recs_zero _ (by decide)) (by rw [newDisk_quiet.len];exact new_clean)) k7 ?_)
 intro p
 refine WL.e e_move<|WL.e e_extract<|WL.e e_extract<|WL.e e_assign<|WL.e e_assign<|WL.next<|WP.seq<|WP.seq<|WP.reg<|WL.e e_move<|WL.e e_neq<|WL.e e_move ?_
 refine WL.bool 17 rfl (fun hg=>?_) (fun hg=>?_)
 ·exact absurd hg (by decide) 
 ·skip
  refine WL.e e_move<|WL.e e_neq<|WL.e e_pick_f<|WL.next<|WP.cond_f rfl<|WP.skip<|PO.next<|WP.seq<|WP.reg<|WL.e e_move<|WL.e e_move<|WL.e e_assign<|WL.e e_assign<|WL.next<|WP.ret ?_
  exact PO.fin Tryz.results30 (rv_tmp (rv_tmp rv_nil)) (hK dp p (newDisk 4096).sync newDisk_quiet)
theorem lput_spec {g:World} (k:ByteArray) (v:UInt32):Spec Tryz.prog g 32 [.string k,.int .u32 v.toNat] [] fun K R=>K (opPut k v).v R:=by
 refine Spec.intro Tryz.func32 rfl Tryz.ntmps32 rfl fun R K hK=>?_
 refine WP.seq<|WP.reg ?_
 refine WL.h (h_alloc z51 fun b1=>?_)
 refine WL.next<|WP.seq<|WP.reg<|WL.e e_move<|WL.e e_move<|WL.e (e_build z51 p51 (.o (.const (.int .u8 2)) rfl<|.o (.tmp 5) rfl<|.z (.string .empty)<|.o (.tmp 6) rfl<|.n)) ?_
 refine WL.h' (h_store s51 ?_)
 refine WL.next<|WP.ret ?_
 exact PO.fin Tryz.results32 (rv_cellN a51 rv_nil) hK
theorem lget_spec {g:World} (k:ByteArray):Spec Tryz.prog g 31 [.string k] [] fun K R=>K (opGet k).v R:=by
 refine Spec.intro Tryz.func31 rfl Tryz.ntmps31 rfl fun R K hK=>?_
 refine WP.seq<|WP.reg ?_
 refine WL.h (h_alloc z51 fun b1=>?_)
 refine WL.next<|WP.seq<|WP.reg<|WL.e e_move<|WL.e (e_build z51 p51 (.o (.const (.int .u8 1)) rfl<|.o (.tmp 3) rfl<|.z (.string .empty)<|.z (.int .u32 0)<|.n)) ?_
 refine WL.h' (h_store s51 ?_)
 refine WL.next<|WP.ret ?_
 exact PO.fin Tryz.results31 (rv_cellN a51 rv_nil) hK
theorem there_nil {g:World}:Spec Tryz.prog g 38 [.pointer none] [] fun K R=>K (.bool false) R:=by
 refine Spec.intro Tryz.func38 rfl Tryz.ntmps38 rfl fun R K hK=>?_
 refine WP.seq<|WP.reg<|WL.e e_assign<|WL.next<|WP.seq<|WP.reg<|WL.e e_move<|WL.e (e_pne pt29)<|WL.e e_move ?_
 refine WL.bool 5 rfl (fun h=>?_) (fun h=>?_)
 ·cases h 
 ·skip
  refine WL.skip<|WL.skip<|WL.skip<|WL.skip<|WL.skip<|WL.e e_pick_f<|WL.e e_assign<|WL.next<|WP.ret ?_
  exact PO.fin Tryz.results38 (rv_tmp rv_nil) hK
theorem Begin_nil {g:World} (n:UInt32):Spec Tryz.prog g 9 [.pointer none,.int .u32 n.toNat] [] fun K R=>K (.int .i64 2) R:=by
 refine Spec.intro Tryz.func9 rfl Tryz.ntmps9 rfl fun R K hK=>?_
 refine WP.seq<|WP.reg<|WL.e e_assign<|WL.next<|WP.seq<|WP.block<|WP.seq<|WP.reg<|WL.e e_move ?_
 refine WL.h (h_call (there_nil) k38 ?_)
 refine WL.e e_not<|WL.e e_assign<|WL.next<|WP.cond_t rfl<|WP.seq<|WP.reg<|WL.e e_assign<|WL.next<|WP.ret<|PO.blockR<|PO.past nofun ?_
 exact PO.fin Tryz.results9 (rv_tmp rv_nil) hK
set_option maxHeartbeats 4000000 in
theorem lives_spec {g:World}:Spec Tryz.prog g 5 [] [] fun K R=>K (.bool true) R:=by
 refine Spec.intro Tryz.func5 rfl Tryz.ntmps5 rfl fun R K hK=>?_
 refine WP.seq<|WP.reg<|WL.e e_assign<|WL.next<|WP.seq<|WP.reg ?_
 refine WL.h (h_call (opened_spec) k30 ?_)
 intro dp p d hq
 refine WL.e e_move<|WL.e e_extract<|WL.e e_extract<|WL.e e_assign<|WL.e e_assign<|WL.next<|WP.seq<|WP.seq<|WP.reg<|WL.e e_move<|WL.e (e_peq pt29)<|WL.e e_move ?_
 refine WL.bool 18 rfl (fun hg=>?_) (fun hg=>?_)
 ·cases hg 
 ·skip
  refine WL.e e_move ?_
  refine WL.h (h_call (Begin_spec (s:=gam0 d) 7) k9 ?_)
  intro q1
  rw [(lv_1 d q1).1,(lv_1 d q1).2]
  have hG1:GamOk (lv1 d q1) 0:=(lv_1 d q1).2 ▸ (gam0_ok hq).beg 7 q1
  refine WL.e e_neq<|WL.e e_pick_f<|WL.e e_move ?_
  refine WL.bool 23 rfl (fun hg2=>?_) (fun hg2=>?_)
  ·exact absurd hg2 (by decide) 
  ·skip
   refine WL.e e_move ?_
   refine WL.h (h_call (Begin_spec (s:=lv1 d q1) 8) k9 ?_)
   intro q2
   rw [(lv_2 d q1 q2).1,(lv_2 d q1 q2).2]
   have hG2:GamOk (lv2 d q1 q2) 0:=(lv_2 d q1 q2).2 ▸ hG1.beg 8 q2
   refine WL.e e_neq<|WL.e e_pick_f<|WL.next<|WP.cond_f rfl<|WP.skip<|PO.next<|WP.seq<|WP.reg<|WL.e e_move ?_
   refine WL.h (h_call (lget_spec kA) k31 ?_)
   refine WL.h (h_call (Do_spec (s:=lv2 d q1 q2) 8 (opGet kA) hG2) k17 ?_)
   rw [lv_3 d q1 q2]
   intro a1 m1 c1
   have hG3:=hG2.look (by decide) (t8 q2) (one kA)
   refine WL.next<|WP.seq<|WP.reg<|WL.e e_move ?_
   refine WL.h (h_call (lput_spec kA 5) k32 ?_)
   refine WL.h (h_call (Do_spec (s:=lookG (lv2 d q1 q2) (t8 q2) (one kA)) 7 (opPut kA 5) hG3) k17 ?_)
   rw [lv_4 d q1 q2]
   have hG4:GamOk (lv4 d q2) 1:=lv_4e d q1 q2 ▸ hG3.ends 7
   refine WL.e e_move<|WL.e e_extract<|WL.e e_extract ?_
   refine WL.h (h_alloc z61 fun b1=>?_)
   refine WL.h' (h_store s61 ?_)
   refine WL.e e_assign<|WL.next<|WP.seq<|WP.reg<|WL.e e_move ?_
   refine WL.h (h_call (Begin_spec (s:=lv4 d q2) 9) k9 ?_)
   intro q3
   rw [(lv_5 d q2 q3).1,(lv_5 d q2 q3).2]
   have hG5:GamOk (lv5 d q2 q3) 1:=(lv_5 d q2 q3).2 ▸ hG4.beg 9 q3
   refine WL.next<|WP.seq<|WP.reg<|WL.e e_move ?_
   refine WL.h (h_call (Begin_spec (s:=lv5 d q2 q3) 4) k9 ?_)
   intro q4
   rw [(lv_6 d q2 q3 q4).1,(lv_6 d q2 q3 q4).2]
   have hG6:GamOk (lv6 d q2 q3 q4 [] sv0) 1:=(lv_6 d q2 q3 q4).2 ▸ hG5.beg 4 q4
   refine WL.next<|WP.seq<|WP.reg<|WL.e e_move ?_
   refine WL.h (h_call (lput_spec kB 1) k32 ?_)
   refine WL.h (h_call (Do_spec (s:=lv6 d q2 q3 q4 [] sv0) 9 (opPut kB 1) hG6) k17 ?_)
   rw [lv_7 d q2 q3 q4]
   intro sv7
   rw [lv_7' d q2 q3 q4 sv7]
   have hG7:GamOk (lv6 d q2 q3 q4 [⟨kB,1,false⟩] sv7) 2:=lv_7' d q2 q3 q4 sv7 ▸ hG6.put (by decide) (t:=t9 q3 [] sv0) (by simp [lv6]) ⟨kB,1,false⟩ (by simp [chgOk,keyB]) sv7
   refine WL.next<|WP.seq<|WP.reg<|WL.e e_move ?_
   refine WL.h (h_call (lget_spec kB) k31 ?_)
   refine WL.h (h_call (Do_spec (s:=lv6 d q2 q3 q4 [⟨kB,1,false⟩] sv7) 4 (opGet kB) hG7) k17 ?_)
   rw [lv_8 d q2 q3 q4 sv7]
   refine WL.e e_move<|WL.e e_extract<|WL.e e_extract ?_
   refine WL.h (h_alloc z61 fun b2=>?_)
   refine WL.h' (h_store s61 ?_)
   refine WL.e e_assign<|WL.next<|WP.seq<|WP.reg<|WL.e e_move ?_
   refine WL.h (h_call (Commit_spec (s:=lv6 d q2 q3 q4 [⟨kB,1,false⟩] sv7) 9 hG7) k11 ?_)
   obtain ⟨e1,e2,e3,e4,e5⟩:=lv_9 d hq q2 q3 q4 sv7
   have hG8:=hG7.com 9
   rw [e1,e2]
   generalize comG (lv6 d q2 q3 q4 [⟨kB,1,false⟩] sv7) 9=s8 at e3 e4 e5 hG8 ⊢
   refine WL.e e_move<|WL.e e_extract<|WL.e e_extract<|WL.e e_assign<|WL.e e_assign<|WL.next<|WP.seq<|WP.reg<|WL.e e_move ?_
   refine WL.h (h_call (lget_spec kB) k31 ?_)
   refine WL.h (h_call (Do_spec (s:=s8) 4 (opGet kB) hG8) k17 ?_)
   rw [lv_10 e4 e5]
   intro a9 m9 c9
   rw [span_get,lv_11 e3]
   have hG9:=hG8.look (by decide) (t4' q4) (one kB)
   refine WL.e e_move<|WL.e e_extract<|WL.e e_extract ?_
   refine WL.h (h_alloc z61 fun b3=>?_)
   refine WL.h' (h_store s61 ?_)
   refine WL.e e_assign<|WL.next<|WP.seq<|WP.reg<|WL.e e_assign<|WL.next<|WP.seq<|WP.reg<|WL.e e_move<|WL.e e_eql<|WL.e e_move ?_
   refine WL.bool 63 rfl (fun y1=>?_) (fun y1=>?_)
   ·skip
    refine WL.e e_move<|WL.e e_eql<|WL.e e_pick_t<|WL.e e_move ?_
    refine WL.bool 67 rfl (fun y2=>?_) (fun y2=>?_)
    ·skip
     refine WL.e e_move<|WL.e (e_eql32 (b:=3))<|WL.e e_pick_t<|WL.e e_move ?_
     refine WL.bool 71 rfl (fun y3=>?_) (fun y3=>?_)
     ·skip
      refine WL.e e_move<|WL.e e_eql<|WL.e e_pick_t<|WL.e e_move ?_
      refine WL.bool 75 rfl (fun y4=>?_) (fun y4=>?_)
      ·skip
       refine WL.e e_move<|WL.e e_eql<|WL.e e_pick_t<|WL.e e_move ?_
       refine WL.bool 79 rfl (fun y5=>?_) (fun y5=>?_)
       ·skip
        refine WL.e (e_fa f61_0)<|WL.e (e_load a59)<|WL.e (el_len (xs:=[(⟨kB,1⟩:RowM)]) sl59 sl_rl)<|WL.e e_eql<|WL.e e_pick_t<|WL.e e_move ?_
        refine WL.bool 85 rfl (fun y6=>?_) (fun y6=>?_)
        ·skip
         refine WL.e (e_fa f61_0)<|WL.e (e_load a59)<|WL.e (el_ia (j:=0) (xs:=[(⟨kB,1⟩:RowM)]) sl59 sl_rl (by decide))<|WL.e (el_fa (z:=2) (j:=0) (xs:=[(⟨kB,1⟩:RowM)]) f78_1 sl_rl (by decide))<|WL.e (el_load (j:=0) (f:=1) (a:=(⟨kB,1⟩:RowM)) a48 rowE (sl_rl (xs:=[(⟨kB,1⟩:RowM)])) rfl)<|WL.e (e_eql32 (b:=1))<|WL.e e_pick_t<|WL.e e_move ?_
         refine WL.bool 93 rfl (fun y7=>?_) (fun y7=>?_)
         ·skip
          refine WL.e e_move ?_
          refine WL.h (h_call (Begin_spec (s:=(lookG s8 (t4' q4) (one kB))) 0) k9 ?_)
          intro q
          rw [(lv_12 (s:=(lookG s8 (t4' q4) (one kB)))).1,(lv_12 (s:=(lookG s8 (t4' q4) (one kB)))).2 q]
          refine WL.e e_eql<|WL.e e_pick_t<|WL.e e_move ?_
          refine WL.bool 98 rfl (fun y8=>?_) (fun y8=>?_)
          ·skip
           refine WL.e e_move ?_
           refine WL.h (h_call (Abort_spec (s:=(lookG s8 (t4' q4) (one kB))) 7 hG9) k13 ?_)
           rw [(lv_13 (s:=(lookG s8 (t4' q4) (one kB))) e5).1,(lv_13 (s:=(lookG s8 (t4' q4) (one kB))) e5).2]
           refine WL.e e_eql<|WL.e e_pick_t<|WL.e e_move ?_
           refine WL.bool 103 rfl (fun y9=>?_) (fun y9=>?_)
           ·skip
            refine WL.e e_move ?_
            refine WL.h (h_call (Begin_nil 1) k9 ?_)
            refine WL.e e_eql<|WL.e e_pick_t<|WL.e e_assign<|WL.next<|WP.ret ?_
            exact PO.finE Tryz.results5 (rv_tmp rv_nil) rfl hK
           ·exact absurd y9 (by decide) 
          ·exact absurd y8 (by decide) 
         ·exact absurd y7 (by decide) 
        ·exact absurd y6 (by decide) 
       ·exact absurd y5 (by decide) 
      ·exact absurd y4 (by decide) 
     ·exact absurd y3 (by decide) 
    ·exact absurd y2 (by decide) 
   ·exact absurd y1 (by decide) 
end Go.SL
namespace Go.SL
open Go
structure Calm (s:GamV) (t:TxV):Prop where
  find:findT s.txs t.id=some t
  own:∀ o ∈ s.txs,o.id≠t.id→o.own=[]
  nums:∀ y ∈ s.nums,¬ t.num < y.2
  looks:∀ y ∈ s.looks,¬ t.num < y.1
theorem Calm.under {s:GamV} {t:TxV} (h:Calm s t) (p:SpanM):underL s.txs t.id p=[]:=by
  unfold underL
  rw [List.map_eq_nil_iff,List.filter_eq_nil_iff]
  intro o ho hc
  simp only [Bool.and_eq_true,Bool.not_eq_true',decide_eq_false_iff_not] at hc
  rw [changes,h.own o ho hc.1] at hc
  simp at hc
theorem Calm.late {s:GamV} {t:TxV} (h:Calm s t) (p:SpanM) (w:Bool):lateG s t p w=false:=by
  have h1:numsLate s.nums t.num p=false:=by
    unfold numsLate
    rw [List.any_eq_false];intro y hy hc
    simp only [Bool.and_eq_true,decide_eq_true_eq] at hc
    exact h.nums y hy hc.1
  have h2:(s.looks.any fun x=>decide (t.num < x.1) && meet x.2 p)=false:=by
    rw [List.any_eq_false];intro y hy hc
    simp only [Bool.and_eq_true,decide_eq_true_eq] at hc
    exact h.looks y hy hc.1
  simp [lateG,h1,h2,h.under]
theorem Calm.do_ {s:GamV} {t:TxV} (h:Calm s t) {x:OpM} (hx:opOk x=true):(writes x=true∧doG s t.id x=.put t (chgOf x))∨(writes x=false∧doG s t.id x=.look t):=by
  cases hw:writes x with
  | true=>exact .inl ⟨rfl,doG_put hx h.find (h.late _ _) (by rw [h.under];rfl) hw⟩
  | false=>exact .inr ⟨rfl,doG_look hx h.find (h.late _ _) (by rw [h.under];rfl) hw⟩
theorem doG_bad {s:GamV} {n:UInt32} {x:OpM} (h:opOk x=false):doG s n x=.err s 1:=by simp [doG,h]
theorem Calm.put {s:GamV} {b:Nat} {t:TxV} (h:Calm s t) (hs:GamOk s b) (c:ChgM) (sv:SV):Calm (putG s t.id c sv) { t with own:=t.own++[c],sv:=sv }:=by
  obtain ⟨_,A,B,hts,_,hA⟩:=find_mid h.find
  have hp:(putG s t.id c sv).txs=A++{ t with own:=t.own++[c],sv:=sv }::B:=by
    show putT s.txs t.id c sv=_
    rw [hts];exact putT_mid (hts ▸ hs.ids) c sv
  refine ⟨?_,fun o ho hi=>?_,h.nums,h.looks⟩
  · rw [hp]
    unfold findT
    rw [List.find?_append,List.find?_eq_none.2 (fun x hx=>by simpa using hA x hx)]
    simp
  · rw [hp] at ho
    rcases List.mem_append.1 ho with ho | ho
    · exact h.own o (by rw [hts];simp [ho]) hi
    · rcases List.mem_cons.1 ho with rfl | ho
      · exact absurd rfl hi
      · exact h.own o (by rw [hts];simp [ho]) hi
theorem Calm.look {s:GamV} {t:TxV} (h:Calm s t) (p:SpanM):Calm (lookG s t p) t:=by
  refine ⟨h.find,h.own,h.nums,fun y hy=>?_⟩
  rcases List.mem_append.1 hy with hy | hy
  · exact h.looks y hy
  · simp at hy;subst hy;exact fun hlt=>absurd hlt (by simp [UInt32.lt_iff_toNat_lt])
theorem calm_com {s:GamV} {b:Nat} {t:TxV} (h:Calm s t) (hs:GamOk s b) (hq:Quiet s.d) {m:Nat} (hm:t.own.length≤m) (hmm:m≤100) (hat:s.at_≤1000) :
    comEg s t.id=0∧comNg s t.id=t.num∧(comG s t.id).rows=changeR s.rows t.own∧(comG s t.id).nums=keptG s.nums t.num t.own∧(comG s t.id).last=s.last∧(comG s t.id).txs=delT s.txs t.id∧Quiet (comG s t.id).d∧(comG s t.id).at_≤s.at_+m+2∧(∀ y ∈ (comG s t.id).looks,y ∈ s.looks):=by
  have hl:=recG_len t
  have hc:=(chgs_len t.own).2 (hs.own t (find_mem h.find))
  have hfit:fitsG s t:=⟨by omega,by rw [hq.len];unfold secs;omega⟩
  have hcom:comG s t.id={ endsG s t.id with d:=(addW s.d s.at_ (frame (recG t)) (secs (recG t).length)).sync,at_:=s.at_+secs (recG t).length,rows:=changeR s.rows t.own,nums:=keptG s.nums t.num t.own }:=by
    simp only [comG,h.find,commG,if_pos hfit]
  refine ⟨by simp only [comEg,h.find,if_pos hfit],by simp only [comNg,h.find,if_pos hfit],by rw [hcom],by rw [hcom],by rw [hcom];rfl,comG_txs h.find,?_,?_,?_⟩
  · rw [hcom];exact hq.add _ _ _
  · rw [hcom];show s.at_+secs (recG t).length≤_;unfold secs;omega
  · rw [hcom];intro y hy;exact (List.mem_filter.1 hy).1
end Go.SL
