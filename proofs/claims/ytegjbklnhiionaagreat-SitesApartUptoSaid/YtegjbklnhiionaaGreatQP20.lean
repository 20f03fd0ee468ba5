import Derived.Test.YtegjbklnhiionaaGreatQP19
set_option linter.unusedSimpArgs false
set_option linter.unusedVariables false
namespace Go.SL.Fc
open Go Go.Proofs Go.SL
theorem a33:ZK' Tryz.prog 33=some none:=by kernel_rfl
theorem a353:ZK' Tryz.prog 353=some (some 1):=by kernel_rfl
theorem ZcI_:ZO' Tryz.prog 152 0=some 0:=by kernel_rfl
theorem Zfs_:ZO' Tryz.prog 152 1=some 1:=by kernel_rfl
theorem k256:Zh' Tryz.prog 256=true:=by kernel_rfl
theorem k257:Zh' Tryz.prog 257=true:=by kernel_rfl
theorem k258:Zh' Tryz.prog 258=true:=by kernel_rfl
theorem k259:Zh' Tryz.prog 259=true:=by kernel_rfl
theorem k260:Zh' Tryz.prog 260=true:=by kernel_rfl
theorem k62:Zh' Tryz.prog 62=true:=by kernel_rfl
theorem p360:Ya' Tryz.prog 360=some [(0,1),(1,2)]:=by kernel_rfl
theorem ZdZ_:X3' Tryz.prog 351=true:=by kernel_rfl
theorem s33:szOf Tryz.prog 33=some 1:=by kernel_rfl
theorem s351:szOf Tryz.prog 351=some 1:=by kernel_rfl
theorem z33:ZH' Tryz.prog 33=some [.int .i64 0]:=by kernel_rfl
theorem z351:ZH' Tryz.prog 351=some [.pointer none]:=by kernel_rfl
theorem Zd0_:(Tryz.prog.info? 351).bind (·.zero)=some (.pointer none):=by kernel_rfl
end Go.SL.Fc
namespace Go.SL
open Go Go.Proofs Fc
def DoJ (b2 b3 b4 q:Nat):HP:=fun S=>∃ _:Unit,Zo' [cl b4 351 [.pointer (some ⟨q,0,none⟩)],cl b2 40 [.slice none 0 0],cl b3 33 [.int .i64 0]] S
def DoX (b2 b3 b4 q:Nat) (j:Code):HP:=fun S=>∃ _:{ u:Unit // j=.ret },Zo' [cl b4 351 [.pointer (some ⟨q,0,none⟩)],cl b2 40 [.slice none 0 0],cl b3 33 [.int .i64 8]] S
theorem Zno_ {g:World} {p dp b:Nat} {s:GamV} (n:UInt32) (x:OpM) (hs:GamOk s b):Spec Tryz.prog g 253 [.pointer (some ⟨p,0,none⟩),.int .u32 n.toNat,x.v] [Gs p dp s,Txs s.txs] fun K R=>match doG s n x with
   | .err s' e=>K (.tuple #[.agg #[.slice none 0 0],.int .i64 e]) (Gs p dp s'::Txs s'.txs::R)
   | .put t c=>∀ sv',K (.tuple #[.agg #[.slice none 0 0],.int .i64 0]) (Gs p dp (putG s t.id c sv')::Txs (putG s t.id c sv').txs::R)
   | .look t=>∀ a m c,K (.tuple #[.agg #[.slice a m c],.int .i64 0]) (Sl 105 2 RowM.c (.slice a m c) (ZT' (Zw' s.rows t.own) (Zi' x) 256)::Gs p dp (Jn' s t (Zi' x))::Txs s.txs::R):=by
 have hnd:=hs.ids
 have hown:∀ x ∈ s.txs,x.own.length≤68719476736:=fun x hx=>by have:=hs.own_le hx;have:=hs.bb;omega
 have hlk:s.looks.length≤68719476736:=by have:=hs.looks;have:=hs.bb;omega
 refine Spec.intro Tryz.func253 rfl Tryz.ntmps253 rfl fun R K hK=>?_
 refine WP.seq<|WP.reg ?_
 refine WL.h (ZL' fun b1=>?_)
 refine WL.h (Zu' z40 fun b2=>?_)
 refine WL.h (Zu' z33 fun b3=>?_)
 refine WL.next<|WP.seq<|WP.block<|WP.seq<|WP.reg<|WL.e Za' ?_
 refine WL.h (Zg' (KD') k257 ?_)
 refine WL.e Zx'<|WL.e Zb'<|WL.next<|WP.cond_f rfl<|WP.seq<|WP.reg<|WL.e (Zm' a26) ?_
 refine WL.h (Zg' (Vt' _) k165 ?_)
 refine WL.e Zx'<|WL.e Zb'<|WL.next ?_
 refine WP.cond rfl (fun h1=>?_) (fun h1=>?_)
 ·replace h1:opOk x=false:=by simpa using h1
  rw [show doG s n x=.err s 1 by simp [doG,h1]] at hK
  refine WP.seq<|WP.reg<|WL.e (Zv' z40 p40 (.z (.slice none 0 0)<|.n)) ?_
  refine WL.h' (Zj' s40 ?_)
  refine WL.h' (Zj' s33 ?_)
  refine WL.next<|WP.ret<|PO.blockR<|PO.past nofun ?_
  exact PO.fin Tryz.results253 (ZB' a40 (YV' a33 Zf')) hK
 ·replace h1:opOk x=true:=by simpa using h1
  refine WP.opn (J1' (p:=p) (dp:=dp) (s:=s)) fun x=>?_
  obtain ⟨lp,mp,nm,lm,sv⟩:=x
  dsimp only
  refine WP.skip<|PO.blockN<|PO.next<|WP.seq<|WP.reg<|WL.e Za'<|WL.e Zk'<|WL.e (e_fa Kd')<|WL.e (Zc' a149)<|WL.e Za'<|WL.e (ZaY_ Tryz.underlying149 (ZQ' Tryz.underlying24) Zd0_) ?_
  refine WL.h (Zu' z351 fun b4=>?_)
  refine WL.h' (Zj' s351 ?_)
  refine WL.next<|WP.seq<|WP.seq<|WP.reg<|WL.e (Zc' a351)<|WL.e (JW' ZdZ_)<|WL.next ?_
  refine WP.cond rfl (fun h2=>?_) (fun h2=>?_)
  ·have hf:ZV' s.txs n=none:=by simpa using h2
   rw [show doG s n x=.err s 6 by simp [doG,h1,hf]] at hK
   refine WP.seq<|WP.reg<|WL.e (Zv' z40 p40 (.z (.slice none 0 0)<|.n)) ?_
   refine WL.h' (Zj' s40 ?_)
   refine WL.h' (Zj' s33 ?_)
   refine WL.next<|WP.ret<|PO.past nofun<|PO.cls (A:=Gs p dp (s)) (B:=[cl p 152 [.pointer (some ⟨lp,0,none⟩),.pointer (some ⟨mp,0,none⟩),nm,.int .u32 s.last.toNat,sv.v,lm],cl lp 166 [.pointer (some ⟨dp,0,none⟩),.int .i64 s.at_],Dk dp s.d,Mm mp s.rows,Mp eStr nm (List.map numC s.nums),Sl 360 3 Ye' (sv.v) s.looks,Mp eU32 lm (List.map kvT s.txs)]) (fun S h=>⟨⟨lp,mp,nm,lm,sv⟩,h⟩) ?_
   exact PO.fin Tryz.results253 (ZB' a40 (YV' a33 Zf')) hK
  ·obtain ⟨t,hf⟩:∃ t,ZV' s.txs n=some t:=by cases e:ZV' s.txs n with
    | none=>rw [e] at h2;cases h2
    | some t=>exact ⟨t,rfl⟩
   rw [hf,Option.map_some]
   obtain ⟨hid,A,B,hts,hdel,_⟩:=Jh' hf
   refine WP.cls (A:=Gs p dp (s)) (B:=[cl p 152 [.pointer (some ⟨lp,0,none⟩),.pointer (some ⟨mp,0,none⟩),nm,.int .u32 s.last.toNat,sv.v,lm],cl lp 166 [.pointer (some ⟨dp,0,none⟩),.int .i64 s.at_],Dk dp s.d,Mm mp s.rows,Mp eStr nm (List.map numC s.nums),Sl 360 3 Ye' (sv.v) s.looks,Mp eU32 lm (List.map kvT s.txs)]) (fun S h=>⟨⟨lp,mp,nm,lm,sv⟩,h⟩) ?_
   refine WP.opn (Up' hts) fun _=>?_
   refine WP.skip<|PO.next ?_
   refine WP.cutL (fun (q:Nat)=>[(9,.pointer (some ⟨q,0,none⟩)),(10,.bool (Zp' x))]) (fun (q:Nat)=>cl q 45 [.string (Zi' x).a,.string (Zi' x).b]::cl b4 351 [.pointer (some ⟨t.q,0,none⟩)]::cl b1 26 (OpM.c x)::cl b2 40 [.slice none 0 0]::cl b3 33 [.int .i64 0]::Gs p dp s::cl t.q 355 [.int .u32 t.num.toNat,t.sv.v]::Sl 179 3 ChgM.c t.sv.v t.own::Txs (A++B)::R) (fun (q:Nat)=>True) ?_ ?_
   ·skip
    refine WP.draws Zq' 7<|RW.e 0 rfl (Zm' a26)<|RW.e 2 rfl (Zm' a26) ?_
    refine RW.any (is:=[1,4]) rfl ⟨?_,?_,trivial⟩
    ·skip
     refine RWat.h rfl rfl rfl ?_
     refine (Zg' (Kk' _) k14 ?_)
     refine ⟨⟨⟨_,rfl,.inl ⟨rfl,(Zm' a26)⟩⟩,trivial⟩,?_⟩
     refine RW.any (is:=[3,4]) rfl ⟨?_,?_,trivial⟩
     ·skip
      refine RWat.h rfl rfl rfl ?_
      refine (Zg' (QG' _) k167 ?_)
      refine ⟨trivial,?_⟩
      refine RW.any (is:=[4]) rfl ⟨?_,trivial⟩
      refine RWat.h rfl rfl rfl ?_
      refine (Zu' z45 fun b5=>?_)
      refine ⟨trivial,?_⟩
      refine RW.any (is:=[5]) rfl ⟨?_,trivial⟩
      refine RWat.h' rfl rfl rfl ?_
      refine (Zj' s45 ?_)
      refine ⟨trivial,?_⟩
      refine RW.e 6 rfl Zb'<|RW.done ?_
      exact PO.meetK b5 trivial
     ·skip
      refine RWat.h rfl rfl rfl ?_
      refine (Zu' z45 fun b6=>?_)
      refine ⟨⟨⟨_,rfl,.inl ⟨rfl,(Zm' a26)⟩⟩,trivial⟩,?_⟩
      refine RW.any (is:=[3]) rfl ⟨?_,trivial⟩
      refine RWat.h rfl rfl rfl ?_
      refine (Zg' (QG' _) k167 ?_)
      refine ⟨trivial,?_⟩
      refine RW.any (is:=[5]) rfl ⟨?_,trivial⟩
      refine RWat.h' rfl rfl rfl ?_
      refine (Zj' s45 ?_)
      refine ⟨trivial,?_⟩
      refine RW.e 6 rfl Zb'<|RW.done ?_
      exact PO.meetK b6 trivial
    ·skip
     refine RWat.h rfl rfl rfl ?_
     refine (Zu' z45 fun b7=>?_)
     refine ⟨⟨⟨_,rfl,.inl ⟨rfl,(Zm' a26)⟩⟩,⟨_,rfl,.inl ⟨rfl,(Zm' a26)⟩⟩,trivial⟩,?_⟩
     refine RW.any (is:=[1]) rfl ⟨?_,trivial⟩
     refine RWat.h rfl rfl rfl ?_
     refine (Zg' (Kk' _) k14 ?_)
     refine ⟨⟨⟨_,rfl,.inl ⟨rfl,(Zm' a26)⟩⟩,trivial⟩,?_⟩
     refine RW.any (is:=[3]) rfl ⟨?_,trivial⟩
     refine RWat.h rfl rfl rfl ?_
     refine (Zg' (QG' _) k167 ?_)
     refine ⟨trivial,?_⟩
     refine RW.any (is:=[5]) rfl ⟨?_,trivial⟩
     refine RWat.h' rfl rfl rfl ?_
     refine (Zj' s45 ?_)
     refine ⟨trivial,?_⟩
     refine RW.e 6 rfl Zb'<|RW.done ?_
     exact PO.meetK b7 trivial
   ·intro q _
    refine WP.seq<|WP.seq<|WP.reg<|WL.e Za'<|WL.e (Zc' a351)<|WL.e (Zm' a45)<|WL.e Za' ?_
    refine WL.h (Zg' (Zks_ (Zi' x) (Zp' x) hts hnd hown hlk) k260 ?_)
    refine WL.next ?_
    refine WP.cond rfl (fun h3=>?_) (fun h3=>?_)
    ·rw [show doG s n x=.err (Yj' s n) 9 by simp [doG,h1,hf,h3]] at hK
     rw [← hdel]
     refine WP.seq<|WP.reg<|WL.e Za'<|WL.e Za' ?_
     refine WL.h (Zg' (ZaC_ n hlk) k258 ?_)
     refine WL.next<|WP.seq<|WP.reg<|WL.e (Zv' z40 p40 (.z (.slice none 0 0)<|.n)) ?_
     refine WL.h' (Zj' s40 ?_)
     refine WL.h' (Zj' s33 ?_)
     refine WL.next<|WP.ret<|PO.past nofun ?_
     exact PO.fin Tryz.results253 (ZB' a40 (YV' a33 Zf')) hK
    ·skip
     refine WP.skip<|PO.next<|WP.seq<|WP.seq<|WP.reg<|WL.e Za'<|WL.e (Zc' a351)<|WL.e (Zm' a45) ?_
     refine WL.h (Zg' (ZcH_ (Zi' x)) k261 ?_)
     intro c1 c2 c3
     refine WL.next<|WP.block<|WP.cls (A:=DoJ b2 b3 b4 t.q) (B:=[cl b4 351 [.pointer (some ⟨t.q,0,none⟩)],cl b2 40 [.slice none 0 0],cl b3 33 [.int .i64 0]]) (fun S h=>⟨(),h⟩) ?_
     refine WP.rangeL (R:=?RR) (f:=267) (fs:=[]) (cs:=[.pointer (some ⟨c1,0,none⟩),.pointer (some ⟨c2,0,none⟩),.pointer (some ⟨c3,0,none⟩)]) (fun _=>DoJ b2 b3 b4 t.q) (fun _ _=>DoX b2 b3 b4 t.q) (fun _ y=>¬ y < t.num) (ZcG_ (c1:=c1) (c2:=c2) (c3:=c3) (p:=p) (dp:=dp) (s:=s) (t:=t) (A:=A) (B:=B) (sp:=Zi' x) hts hnd hown) k267 ?hLL ?_ ?_ ?_ (fun _=>rfl)
     case hLL=>repeat first | exact .nil | exact Pick.z | apply Pick.s | apply Split.cons
     ·rintro lb db fn tmps pre y R2 hp hh
      refine WP.opn (B:=fun _:Unit=>[cl b4 351 [.pointer (some ⟨t.q,0,none⟩)],cl b2 40 [.slice none 0 0],cl b3 33 [.int .i64 0]]) (fun _ h=>h) fun _=>?_
      refine WP.reg<|WL.e Zb'<|WL.nil<|PO.asg rfl (by repeat first | exact .z | apply Put.s)<|WP.block<|WP.seq<|WP.reg<|WL.e Za'<|WL.e (Zc' a351)<|WL.e Zk'<|WL.e (e_fa KC')<|WL.e (e_fa Ke')<|WL.e (Zc' a24)<|WL.e (Uf')<|WL.next ?_
      refine WP.cond rfl (fun h5=>?_) (fun h5=>?_)
      ·skip
       refine WP.seq<|WP.reg<|WL.e (Zv' z40 p40 (.z (.slice none 0 0)<|.n)) ?_
       refine WL.h' (Zj' s40 ?_)
       refine WL.h' (Zj' s33 ?_)
       refine WL.next<|WP.ret<|PO.blockR<|PO.cls (A:=DoX b2 b3 b4 t.q .ret) (B:=[cl b4 351 [.pointer (some ⟨t.q,0,none⟩)],cl b2 40 [.slice none 0 0],cl b3 33 [.int .i64 8]]) (fun S h=>⟨⟨(),rfl⟩,h⟩) ?_
       exact PO.rnd_ret (by simpa using h5) (by repeat first | exact .refl | exact Pick.z | apply Pick.s | apply Sub.cons | apply Sub.drop)
      ·skip
       refine WP.skip<|PO.blockN<|PO.cls (A:=DoJ b2 b3 b4 t.q) (B:=[cl b4 351 [.pointer (some ⟨t.q,0,none⟩)],cl b2 40 [.slice none 0 0],cl b3 33 [.int .i64 0]]) (fun S h=>⟨(),h⟩) ?_
       exact PO.rnd (by simpa using h5) (by repeat first | exact .refl | exact Pick.z | apply Pick.s | apply Sub.cons | apply Sub.drop)
     ·intro db xs hx hh
      have hu1:(Yl' s.txs t.id (Zi' x)).any (fun n=>decide (n < t.num))=false:=by rw [List.any_eq_false];intro n hn;have:=Ux' hh n (hx.symm.subset hn);simpa using this
      refine PO.opn (B:=fun _:Unit=>[cl b4 351 [.pointer (some ⟨t.q,0,none⟩)],cl b2 40 [.slice none 0 0],cl b3 33 [.int .i64 0]]) (fun _ h=>h) fun _=>?_
      refine PO.blockN<|PO.next<|WP.seq<|WP.seq<|WP.reg<|WL.e (e_fa XF')<|WL.e (Zc' a23)<|WL.next<|WP.block<|WP.seq<|WP.reg<|WL.e (Xq' (b:=2))<|WL.e Zb'<|WL.next ?_
      refine WP.cond rfl (fun h6=>?_) (fun h6=>?_)
      ·replace h6:x.kind=2:=by simpa using h6
       rw [show doG s n x=.put t ⟨x.key,x.val,false⟩ by simp only [doG,h1,hf,h3,hu1];simp [Zp',h6,Z4']] at hK
       refine WP.seq<|WP.draws Zq' 15<|RW.e 0 rfl (Zc' a351)<|RW.e 1 rfl (Zc' a351)<|RW.e 2 rfl Zk'<|RW.e 3 rfl (e_fa Kf')<|RW.e 4 rfl (Zc' a138)<|RW.e 5 rfl (e_fa X8')<|RW.e 6 rfl (Zc' a9)<|RW.e 7 rfl (e_fa ZaK_)<|RW.e 8 rfl (Zc' a24)<|RW.e 9 rfl (Zv' z179 p179 (.o (.tmp 68) rfl<|.o (.tmp 70) rfl<|.z (.bool false)<|.n)) ?_
       refine RW.any (is:=[10]) rfl ⟨?_,trivial⟩
       refine RWat.h rfl rfl rfl ?_
       refine (h_bs Yw' z179 (.a3 (.tmp 71) rfl<|.n) fun b8=>?_)
       refine ⟨⟨⟨_,rfl,.inl ⟨rfl,(Zc' a138)⟩⟩,⟨_,rfl,.inl ⟨rfl,(e_fa Kf')⟩⟩,⟨_,rfl,.inl ⟨rfl,Zk'⟩⟩,⟨_,rfl,.inl ⟨rfl,(Zc' a351)⟩⟩,⟨_,rfl,.inl ⟨rfl,(Zc' a351)⟩⟩,trivial⟩,?_⟩
       refine RW.any (is:=[11]) rfl ⟨?_,trivial⟩
       refine RWat.h rfl rfl rfl ?_
       refine (ZG' (xs:=t.own) (ys:=[⟨x.key,x.val,false⟩]) Yw' chgE z179 (Z7' chgE [⟨x.key,x.val,false⟩] rfl) (by have:=hs.own_le (YZ' hf);have:=hs.bb;simp;omega) (fun a7 m7 c7=>?_))
       refine ⟨⟨⟨_,rfl,.inl ⟨rfl,(Zc' a351)⟩⟩,trivial⟩,?_⟩
       refine RW.e 12 rfl Zk'<|RW.e 13 rfl (e_fa Kf') ?_
       refine RW.any (is:=[14]) rfl ⟨?_,trivial⟩
       refine RWat.h' rfl rfl rfl ?_
       refine (Zj' s138 ?_)
       refine ⟨trivial,?_⟩
       refine RW.done<|PO.next<|WP.seq<|WP.reg<|WL.e (Zv' z40 p40 (.z (.slice none 0 0)<|.n)) ?_
       refine WL.h' (Zj' s40 ?_)
       refine WL.h' (Zj' s33 ?_)
       refine WL.next<|WP.ret<|PO.blockR<|PO.past nofun<|PO.cls (A:=Txs (A++{ t with own:=t.own++[⟨x.key,x.val,false⟩],sv:=⟨a7,m7,c7⟩ }::B)) (B:=[cl t.q 355 [.int .u32 t.num.toNat,.slice a7 m7 c7],Sl 179 3 ChgM.c (.slice a7 m7 c7) (t.own++[⟨x.key,x.val,false⟩]),Txs (A++B)]) (fun S h=>Qg' (t:={ t with own:=t.own++[⟨x.key,x.val,false⟩],sv:=⟨a7,m7,c7⟩ }) S h) ?_
       refine PO.conv (YS' (A:=Gs p dp s) (B:=Gs p dp (putG s t.id (⟨x.key,x.val,false⟩) ⟨a7,m7,c7⟩)) (Zkt_ (Zg8_ s.txs t.id _ _)) (by repeat first | exact .z | apply Put.s)) ?_
       have hpt:(putG s t.id (⟨x.key,x.val,false⟩) ⟨a7,m7,c7⟩).txs=A++{ t with own:=t.own++[⟨x.key,x.val,false⟩],sv:=⟨a7,m7,c7⟩ }::B:=by show putT s.txs t.id _ _=_;rw [hts];exact UP' (hts ▸ hnd) _ _
       rw [← hpt]
       exact PO.finM (by repeat first | exact .z | apply Put.s) Tryz.results253 (ZB' a40 (YV' a33 Zf')) (hK _)
      ·replace h6:x.kind≠2:=by simpa using h6
       refine WP.seq<|WP.reg<|WL.e (Xq' (b:=3))<|WL.e Zb'<|WL.next ?_
       refine WP.cond rfl (fun h7=>?_) (fun h7=>?_)
       ·replace h7:x.kind=3:=by simpa using h7
        rw [show doG s n x=.put t ⟨x.key,0,true⟩ by simp only [doG,h1,hf,h3,hu1];simp [Zp',h7,Z4']] at hK
        refine WP.seq<|WP.draws Zq' 13<|RW.e 0 rfl (Zc' a351)<|RW.e 1 rfl (Zc' a351)<|RW.e 2 rfl Zk'<|RW.e 3 rfl (e_fa Kf')<|RW.e 4 rfl (Zc' a138)<|RW.e 5 rfl (e_fa X8')<|RW.e 6 rfl (Zc' a9)<|RW.e 7 rfl (Zv' z179 p179 (.o (.tmp 85) rfl<|.z (.int .u32 0)<|.o (.const (.bool true)) rfl<|.n)) ?_
        refine RW.any (is:=[8]) rfl ⟨?_,trivial⟩
        refine RWat.h rfl rfl rfl ?_
        refine (h_bs Yw' z179 (.a3 (.tmp 86) rfl<|.n) fun b9=>?_)
        refine ⟨⟨⟨_,rfl,.inl ⟨rfl,(Zc' a138)⟩⟩,⟨_,rfl,.inl ⟨rfl,(e_fa Kf')⟩⟩,⟨_,rfl,.inl ⟨rfl,Zk'⟩⟩,⟨_,rfl,.inl ⟨rfl,(Zc' a351)⟩⟩,⟨_,rfl,.inl ⟨rfl,(Zc' a351)⟩⟩,trivial⟩,?_⟩
        refine RW.any (is:=[9]) rfl ⟨?_,trivial⟩
        refine RWat.h rfl rfl rfl ?_
        refine (ZG' (xs:=t.own) (ys:=[⟨x.key,0,true⟩]) Yw' chgE z179 (Z7' chgE [⟨x.key,0,true⟩] rfl) (by have:=hs.own_le (YZ' hf);have:=hs.bb;simp;omega) (fun a7 m7 c7=>?_))
        refine ⟨⟨⟨_,rfl,.inl ⟨rfl,(Zc' a351)⟩⟩,trivial⟩,?_⟩
        refine RW.e 10 rfl Zk'<|RW.e 11 rfl (e_fa Kf') ?_
        refine RW.any (is:=[12]) rfl ⟨?_,trivial⟩
        refine RWat.h' rfl rfl rfl ?_
        refine (Zj' s138 ?_)
        refine ⟨trivial,?_⟩
        refine RW.done<|PO.next<|WP.seq<|WP.reg<|WL.e (Zv' z40 p40 (.z (.slice none 0 0)<|.n)) ?_
        refine WL.h' (Zj' s40 ?_)
        refine WL.h' (Zj' s33 ?_)
        refine WL.next<|WP.ret<|PO.blockR<|PO.past nofun<|PO.cls (A:=Txs (A++{ t with own:=t.own++[⟨x.key,0,true⟩],sv:=⟨a7,m7,c7⟩ }::B)) (B:=[cl t.q 355 [.int .u32 t.num.toNat,.slice a7 m7 c7],Sl 179 3 ChgM.c (.slice a7 m7 c7) (t.own++[⟨x.key,0,true⟩]),Txs (A++B)]) (fun S h=>Qg' (t:={ t with own:=t.own++[⟨x.key,0,true⟩],sv:=⟨a7,m7,c7⟩ }) S h) ?_
        refine PO.conv (YS' (A:=Gs p dp s) (B:=Gs p dp (putG s t.id (⟨x.key,0,true⟩) ⟨a7,m7,c7⟩)) (Zkt_ (Zg8_ s.txs t.id _ _)) (by repeat first | exact .z | apply Put.s)) ?_
        have hpt:(putG s t.id (⟨x.key,0,true⟩) ⟨a7,m7,c7⟩).txs=A++{ t with own:=t.own++[⟨x.key,0,true⟩],sv:=⟨a7,m7,c7⟩ }::B:=by show putT s.txs t.id _ _=_;rw [hts];exact UP' (hts ▸ hnd) _ _
        rw [← hpt]
        exact PO.finM (by repeat first | exact .z | apply Put.s) Tryz.results253 (ZB' a40 (YV' a33 Zf')) (hK _)
       ·replace h7:x.kind≠3:=by simpa using h7
        rw [show doG s n x=.look t by simp only [doG,h1,hf,h3,hu1];simp [Zp',h6,h7]] at hK
        refine WP.opn (J1' (p:=p) (dp:=dp) (s:=s)) fun x=>?_
        obtain ⟨lp,mp,nm,lm,sv⟩:=x
        dsimp only
        refine WP.skip<|PO.blockN<|PO.next<|WP.seq<|WP.draws Zq' 16<|RW.e 0 rfl Za'<|RW.e 1 rfl Za'<|RW.e 2 rfl Zk'<|RW.e 3 rfl (e_fa Uo')<|RW.e 4 rfl (Zc' a150)<|RW.e 5 rfl (Zc' a351)<|RW.e 6 rfl Zk'<|RW.e 7 rfl (e_fa KC')<|RW.e 8 rfl (Zm' a353)<|RW.e 9 rfl (Zm' a45)<|RW.e 10 rfl (Zv' z360 p360 (.a1 (.tmp 100) rfl<|.a2 (.tmp 101) rfl<|.n)) ?_
        refine RW.any (is:=[11]) rfl ⟨?_,trivial⟩
        refine RWat.h rfl rfl rfl ?_
        refine (h_bs QM' z360 (.a3 (.tmp 102) rfl<|.n) fun b10=>?_)
        refine ⟨⟨⟨_,rfl,.inl ⟨rfl,(Zc' a150)⟩⟩,⟨_,rfl,.inl ⟨rfl,(e_fa Uo')⟩⟩,⟨_,rfl,.inl ⟨rfl,Zk'⟩⟩,⟨_,rfl,.inl ⟨rfl,Za'⟩⟩,⟨_,rfl,.inl ⟨rfl,Za'⟩⟩,trivial⟩,?_⟩
        refine RW.any (is:=[12]) rfl ⟨?_,trivial⟩
        refine RWat.h rfl rfl rfl ?_
        refine (ZG' (xs:=s.looks) (ys:=[(t.num,Zi' x)]) QM' Vd' z360 (Z7' Vd' [(t.num,Zi' x)] rfl) (by have:=hs.looks;have:=hs.bb;simp;omega) (fun a7 m7 c7=>?_))
        refine ⟨⟨⟨_,rfl,.inl ⟨rfl,Za'⟩⟩,trivial⟩,?_⟩
        refine RW.e 13 rfl Zk'<|RW.e 14 rfl (e_fa Uo') ?_
        refine RW.any (is:=[15]) rfl ⟨?_,trivial⟩
        refine RWat.h' rfl rfl rfl ?_
        refine (Zj' s150 ?_)
        refine ⟨trivial,?_⟩
        refine RW.done<|PO.next<|WP.seq<|WP.reg<|WL.e Za'<|WL.e Zk'<|WL.e (e_fa Zfs_)<|WL.e (Zc' a130) ?_
        refine WL.h (Zg' (Zdo_ (l:=s.rows) (by have:=hs.sum;have:=hs.bb;omega)) k184 ?_)
        intro q2
        refine WL.e Zb'<|WL.next<|WP.seq<|WP.reg<|WL.e Za'<|WL.e (Zc' a351)<|WL.e Zk'<|WL.e (e_fa Kf')<|WL.e (Zc' a138) ?_
        refine WL.h (Zg' (Kw' (Zr' (xs:=t.own)) hs.rising (by have:=hs.own_le (YZ' hf);have:=hs.bb;omega)) k59 ?_)
        refine ⟨fun hb=>absurd hb (by rw [hs.bad (YZ' hf)];simp),fun _=>?_⟩
        obtain ⟨hr1,hr2⟩:=ZS' t.own hs.rising
        refine WL.next<|WP.seq<|WP.reg<|WL.e Za'<|WL.e (Zm' a45) ?_
        refine WL.h (Zg' (KY' (Zi' x) 256 hr1 (by have:=hs.own_le (YZ' hf);have:=hs.bb;omega) (by decide)) k170 ?_)
        intro a8 m8 c8
        refine WL.e (Zv' z40 p40 (.o (.tmp 120) rfl<|.n)) ?_
        refine WL.h' (Zj' s40 ?_)
        refine WL.h' (Zj' s33 ?_)
        refine WL.next<|WP.ret<|PO.cls (A:=Gs p dp (Jn' s t (Zi' x))) (B:=[cl p 152 [.pointer (some ⟨lp,0,none⟩),.pointer (some ⟨mp,0,none⟩),nm,.int .u32 s.last.toNat,.slice a7 m7 c7,lm],cl lp 166 [.pointer (some ⟨dp,0,none⟩),.int .i64 s.at_],Dk dp s.d,Mm mp s.rows,Mp eStr nm (List.map numC s.nums),Sl 360 3 Ye' (.slice a7 m7 c7) (s.looks++[(t.num,Zi' x)]),Mp eU32 lm (List.map kvT s.txs)]) (fun S h=>⟨⟨lp,mp,nm,lm,⟨a7,m7,c7⟩⟩,h⟩) ?_
        refine PO.cls (A:=Txs s.txs) (B:=[cl t.q 355 [.int .u32 t.num.toNat,t.sv.v],Sl 179 3 ChgM.c t.sv.v t.own,Txs (A++B)]) (fun S h=>hts ▸ Qg' S h) ?_
        exact PO.finM (by repeat first | exact .z | apply Put.s) Tryz.results253 (ZB' a40 (YV' a33 Zf')) (hK a8 m8 c8)
     ·intro db pre y j hp hh hc
      have hu1:(Yl' s.txs t.id (Zi' x)).any (fun n=>decide (n < t.num))=true:=by obtain ⟨r,hr⟩:=hp;rw [List.any_eq_true];exact ⟨y,hr.subset (by simp),by simpa using hc⟩
      rw [show doG s n x=.err s 8 by simp only [doG,h1,hf,h3,hu1];simp] at hK
      refine WP.opn (B:=fun sv:{ u:Unit // j=.ret }=>[cl b4 351 [.pointer (some ⟨t.q,0,none⟩)],cl b2 40 [.slice none 0 0],cl b3 33 [.int .i64 8]]) (fun _ h=>h) fun u=>?_
      obtain ⟨_,rfl⟩:=u
      refine WP.ret<|PO.blockR<|PO.past nofun<|PO.cls (A:=Txs s.txs) (B:=[cl t.q 355 [.int .u32 t.num.toNat,t.sv.v],Sl 179 3 ChgM.c t.sv.v t.own,Txs (A++B)]) (fun S h=>hts ▸ Qg' S h) ?_
      exact PO.finM (by repeat first | exact .z | apply Put.s) Tryz.results253 (ZB' a40 (YV' a33 Zf')) hK
theorem ZiA_ {g:World} {p dp:Nat} {s:GamV} (n:UInt32):Spec Tryz.prog g 251 [.pointer (some ⟨p,0,none⟩),.int .u32 n.toNat] [Gs p dp s,Txs s.txs] fun K R=>∀ q,K (.int .i64 (Xb' s n)) (Gs p dp (begG s n q)::Txs (begG s n q).txs::R):=by
 refine Spec.intro Tryz.func251 rfl Tryz.ntmps251 rfl fun R K hK=>?_
 refine WP.seq<|WP.reg<|WL.e Zb'<|WL.next<|WP.seq<|WP.block<|WP.seq<|WP.reg<|WL.e Za' ?_
 refine WL.h (Zg' (KD') k257 ?_)
 refine WL.e Zx'<|WL.e Zb'<|WL.next<|WP.cond_f rfl<|WP.seq<|WP.reg<|WL.e Za'<|WL.e (Jt' (b:=0))<|WL.e Zb'<|WL.next ?_
 refine WP.cond rfl (fun h1=>?_) (fun h1=>?_)
 ·replace h1:n=0:=by simpa using h1
  have hE:Xb' s n=1:=by simp [Xb',h1]
  refine WP.seq<|WP.reg<|WL.e Zb'<|WL.next<|WP.ret<|PO.blockR<|PO.past nofun ?_
  have hK:=hK 0
  rw [hE,show begG s n 0=s by simp [begG,hE]] at hK
  exact PO.fin Tryz.results251 (Zd' Zf') hK
 ·replace h1:n≠0:=by simpa using h1
  refine WP.opn (J1' (p:=p) (dp:=dp) (s:=s)) fun x=>?_
  obtain ⟨lp,mp,nm,lm,sv⟩:=x
  dsimp only
  refine WP.seq<|WP.reg<|WL.e Za'<|WL.e Zk'<|WL.e (e_fa Kd')<|WL.e (Zc' a149)<|WL.e Za'<|WL.e (ZaY_ Tryz.underlying149 (ZQ' Tryz.underlying24) Zd0_)<|WL.e (JX' ZdZ_)<|WL.e Zb'<|WL.next ?_
  refine WP.cond rfl (fun h2=>?_) (fun h2=>?_)
  ·replace h2:(ZV' s.txs n).isSome=true:=by cases e:ZV' s.txs n with
    | none=>rw [e] at h2;cases h2
    | some t=>rfl
   have hE:Xb' s n=7:=by simp only [Xb',h1,h2];simp
   refine WP.seq<|WP.reg<|WL.e Zb'<|WL.next<|WP.ret<|PO.blockR<|PO.past nofun<|PO.cls (A:=Gs p dp (s)) (B:=[cl p 152 [.pointer (some ⟨lp,0,none⟩),.pointer (some ⟨mp,0,none⟩),nm,.int .u32 s.last.toNat,sv.v,lm],cl lp 166 [.pointer (some ⟨dp,0,none⟩),.int .i64 s.at_],Dk dp s.d,Mm mp s.rows,Mp eStr nm (List.map numC s.nums),Sl 360 3 Ye' (sv.v) s.looks,Mp eU32 lm (List.map kvT s.txs)]) (fun S h=>⟨⟨lp,mp,nm,lm,sv⟩,h⟩) ?_
   have hK:=hK 0
   rw [hE,show begG s n 0=s by simp [begG,hE]] at hK
   exact PO.fin Tryz.results251 (Zd' Zf') hK
  ·have hf:ZV' s.txs n=none:=by cases e:ZV' s.txs n with
    | none=>rfl
    | some t=>rw [e] at h2;cases h2
   refine WP.seq<|WP.reg<|WL.e Za'<|WL.e Zk'<|WL.e (e_fa Kd')<|WL.e (Zc' a149)<|WL.e (U3' Tryz.underlying149)<|WL.e YD'<|WL.e Zb'<|WL.next ?_
   refine WP.cond rfl (fun h3=>?_) (fun h3=>?_)
   ·replace h3:32≤s.txs.length:=by simp at h3;omega
    have hE:Xb' s n=5:=by simp [Xb',h1,hf,h3]
    refine WP.seq<|WP.reg<|WL.e Zb'<|WL.next<|WP.ret<|PO.blockR<|PO.past nofun<|PO.cls (A:=Gs p dp (s)) (B:=[cl p 152 [.pointer (some ⟨lp,0,none⟩),.pointer (some ⟨mp,0,none⟩),nm,.int .u32 s.last.toNat,sv.v,lm],cl lp 166 [.pointer (some ⟨dp,0,none⟩),.int .i64 s.at_],Dk dp s.d,Mm mp s.rows,Mp eStr nm (List.map numC s.nums),Sl 360 3 Ye' (sv.v) s.looks,Mp eU32 lm (List.map kvT s.txs)]) (fun S h=>⟨⟨lp,mp,nm,lm,sv⟩,h⟩) ?_
    have hK:=hK 0
    rw [hE,show begG s n 0=s by simp [begG,hE]] at hK
    exact PO.fin Tryz.results251 (Zd' Zf') hK
   ·replace h3:¬ 32≤s.txs.length:=by simp at h3;omega
    have hE:Xb' s n=0:=by simp only [Xb',h1,hf,h3];simp
    refine WP.cls (A:=Gs p dp (s)) (B:=[cl p 152 [.pointer (some ⟨lp,0,none⟩),.pointer (some ⟨mp,0,none⟩),nm,.int .u32 s.last.toNat,sv.v,lm],cl lp 166 [.pointer (some ⟨dp,0,none⟩),.int .i64 s.at_],Dk dp s.d,Mm mp s.rows,Mp eStr nm (List.map numC s.nums),Sl 360 3 Ye' (sv.v) s.looks,Mp eU32 lm (List.map kvT s.txs)]) (fun S h=>⟨⟨lp,mp,nm,lm,sv⟩,h⟩) ?_
    refine WP.skip<|PO.blockN<|PO.next<|WP.seq<|WP.reg<|WL.e Za'<|WL.e Za' ?_
    refine WL.h (Zg' (Zgo_ n hf) k256 ?_)
    intro q
    refine WL.next<|WP.seq<|WP.reg<|WL.e Zb'<|WL.next<|WP.ret ?_
    have hK:=hK q
    rw [hE,begG,if_pos hE] at hK
    exact PO.fin Tryz.results251 (Zd' Zf') hK
theorem ZiB_ {g:World} {p dp b:Nat} {s:GamV} (n:UInt32) (hs:GamOk s b):Spec Tryz.prog g 250 [.pointer (some ⟨p,0,none⟩),.int .u32 n.toNat] [Gs p dp s,Txs s.txs] fun K R=>K (.int .i64 (Jo' s n)) (Gs p dp (aboG s n)::Txs (aboG s n).txs::R):=by
 have hnd:=hs.ids
 have hown:∀ x ∈ s.txs,x.own.length≤68719476736:=fun x hx=>by have:=hs.own_le hx;have:=hs.bb;omega
 have hlk:s.looks.length≤68719476736:=by have:=hs.looks;have:=hs.bb;omega
 refine Spec.intro Tryz.func250 rfl Tryz.ntmps250 rfl fun R K hK=>?_
 refine WP.seq<|WP.reg<|WL.e Zb'<|WL.next<|WP.seq<|WP.block<|WP.seq<|WP.reg<|WL.e Za' ?_
 refine WL.h (Zg' (KD') k257 ?_)
 refine WL.e Zx'<|WL.e Zb'<|WL.next<|WP.cond_f rfl<|WP.opn (J1' (p:=p) (dp:=dp) (s:=s)) fun x=>?_
 obtain ⟨lp,mp,nm,lm,sv⟩:=x
 dsimp only
 refine WP.seq<|WP.reg<|WL.e Za'<|WL.e Zk'<|WL.e (e_fa Kd')<|WL.e (Zc' a149)<|WL.e Za'<|WL.e (ZaY_ Tryz.underlying149 (ZQ' Tryz.underlying24) Zd0_)<|WL.e (JW' ZdZ_)<|WL.e Zb'<|WL.next ?_
 refine WP.cond rfl (fun h2=>?_) (fun h2=>?_)
 ·have hf:ZV' s.txs n=none:=by simpa using h2
  rw [show Jo' s n=6 by simp [Jo',hf],show aboG s n=s by simp [aboG,hf]] at hK
  refine WP.seq<|WP.reg<|WL.e Zb'<|WL.next<|WP.ret<|PO.blockR<|PO.past nofun<|PO.cls (A:=Gs p dp (s)) (B:=[cl p 152 [.pointer (some ⟨lp,0,none⟩),.pointer (some ⟨mp,0,none⟩),nm,.int .u32 s.last.toNat,sv.v,lm],cl lp 166 [.pointer (some ⟨dp,0,none⟩),.int .i64 s.at_],Dk dp s.d,Mm mp s.rows,Mp eStr nm (List.map numC s.nums),Sl 360 3 Ye' (sv.v) s.looks,Mp eU32 lm (List.map kvT s.txs)]) (fun S h=>⟨⟨lp,mp,nm,lm,sv⟩,h⟩) ?_
  exact PO.fin Tryz.results250 (Zd' Zf') hK
 ·obtain ⟨t,hf⟩:∃ t,ZV' s.txs n=some t:=by cases e:ZV' s.txs n with
   | none=>rw [e] at h2;cases h2
   | some t=>exact ⟨t,rfl⟩
  rw [hf,Option.map_some]
  obtain ⟨hid,A,B,hts,hdel,_⟩:=Jh' hf
  rw [show Jo' s n=0 by simp [Jo',hf],show aboG s n=Yj' s n by simp [aboG,hf]] at hK
  refine WP.cls (A:=Gs p dp (s)) (B:=[cl p 152 [.pointer (some ⟨lp,0,none⟩),.pointer (some ⟨mp,0,none⟩),nm,.int .u32 s.last.toNat,sv.v,lm],cl lp 166 [.pointer (some ⟨dp,0,none⟩),.int .i64 s.at_],Dk dp s.d,Mm mp s.rows,Mp eStr nm (List.map numC s.nums),Sl 360 3 Ye' (sv.v) s.looks,Mp eU32 lm (List.map kvT s.txs)]) (fun S h=>⟨⟨lp,mp,nm,lm,sv⟩,h⟩) ?_
  refine WP.opn (Up' hts) fun _=>?_
  rw [← hdel]
  refine WP.skip<|PO.blockN<|PO.next<|WP.seq<|WP.reg<|WL.e Za'<|WL.e Za' ?_
  refine WL.h (Zg' (ZaC_ n hlk) k258 ?_)
  refine WL.next<|WP.seq<|WP.reg<|WL.e Zb'<|WL.next<|WP.ret ?_
  exact PO.fin Tryz.results250 (Zd' Zf') hK
set_option maxHeartbeats 4000000 in
theorem Zgp_ {g:World} {p dp b:Nat} {s:GamV} (n:UInt32) (hs:GamOk s b):Spec Tryz.prog g 252 [.pointer (some ⟨p,0,none⟩),.int .u32 n.toNat] [Gs p dp s,Txs s.txs] fun K R=>K (.tuple #[.int .u32 (Xh' s n).toNat,.int .i64 (Xp' s n)]) (Gs p dp (comG s n)::Txs (comG s n).txs::R):=by
 have hnd:=hs.ids
 have hown:∀ x ∈ s.txs,x.own.length≤68719476736:=fun x hx=>by have:=hs.own_le hx;have:=hs.bb;omega
 have hlk:s.looks.length≤68719476736:=by have:=hs.looks;have:=hs.bb;omega
 refine Spec.intro Tryz.func252 rfl Tryz.ntmps252 rfl fun R K hK=>?_
 refine WP.seq<|WP.reg<|WL.e Zb'<|WL.e Zb'<|WL.next<|WP.seq<|WP.seq<|WP.reg<|WL.e Za' ?_
 refine WL.h (Zg' (KD') k257 ?_)
 refine WL.e Zx'<|WL.next<|WP.cond_f rfl<|WP.opn (J1' (p:=p) (dp:=dp) (s:=s)) fun x=>?_
 obtain ⟨lp,mp,nm,lm,sv⟩:=x
 dsimp only
 refine WP.skip<|PO.next<|WP.seq<|WP.reg<|WL.e Za'<|WL.e Zk'<|WL.e (e_fa Kd')<|WL.e (Zc' a149)<|WL.e Za'<|WL.e (ZaY_ Tryz.underlying149 (ZQ' Tryz.underlying24) Zd0_)<|WL.e Zb'<|WL.next<|WP.seq<|WP.seq<|WP.reg<|WL.e Za'<|WL.e (JW' ZdZ_)<|WL.next ?_
 refine WP.cond rfl (fun h2=>?_) (fun h2=>?_)
 ·have hf:ZV' s.txs n=none:=by simpa using h2
  rw [show Xp' s n=6 by simp [Xp',hf],show Xh' s n=0 by simp [Xh',hf],show comG s n=s by simp [comG,hf]] at hK
  refine WP.seq<|WP.reg<|WL.e Zb'<|WL.e Zb'<|WL.next<|WP.ret<|PO.past nofun<|PO.cls (A:=Gs p dp (s)) (B:=[cl p 152 [.pointer (some ⟨lp,0,none⟩),.pointer (some ⟨mp,0,none⟩),nm,.int .u32 s.last.toNat,sv.v,lm],cl lp 166 [.pointer (some ⟨dp,0,none⟩),.int .i64 s.at_],Dk dp s.d,Mm mp s.rows,Mp eStr nm (List.map numC s.nums),Sl 360 3 Ye' (sv.v) s.looks,Mp eU32 lm (List.map kvT s.txs)]) (fun S h=>⟨⟨lp,mp,nm,lm,sv⟩,h⟩) ?_
  exact PO.fin Tryz.results252 (Zd' (Zd' Zf')) hK
 ·obtain ⟨t,hf⟩:∃ t,ZV' s.txs n=some t:=by cases e:ZV' s.txs n with
   | none=>rw [e] at h2;cases h2
   | some t=>exact ⟨t,rfl⟩
  rw [hf,Option.map_some]
  obtain ⟨hid,A,B,hts,hdel,_⟩:=Jh' hf
  refine WP.cls (A:=Gs p dp (s)) (B:=[cl p 152 [.pointer (some ⟨lp,0,none⟩),.pointer (some ⟨mp,0,none⟩),nm,.int .u32 s.last.toNat,sv.v,lm],cl lp 166 [.pointer (some ⟨dp,0,none⟩),.int .i64 s.at_],Dk dp s.d,Mm mp s.rows,Mp eStr nm (List.map numC s.nums),Sl 360 3 Ye' (sv.v) s.looks,Mp eU32 lm (List.map kvT s.txs)]) (fun S h=>⟨⟨lp,mp,nm,lm,sv⟩,h⟩) ?_
  refine WP.opn (Up' hts) fun _=>?_
  rw [← hdel]
  have hol:=hs.own_le (YZ' hf)
  have hbb:=hs.bb
  have hcl:=XK' t.own
  have hcl2:=hcl.2 (hs.own t (YZ' hf))
  have hall:t.own.all ZR'=true:=List.all_eq_true.2 (hs.own t (YZ' hf))
  have hrl:=UQ' t
  refine WP.skip<|PO.next<|WP.seq<|WP.reg<|WL.e Za'<|WL.e Za' ?_
  refine WL.h (Zg' (ZaC_ n hlk) k258 ?_)
  refine WL.next<|WP.seq<|WP.reg<|WL.e Za'<|WL.e Zk'<|WL.e (e_fa Kf')<|WL.e (Zc' a138) ?_
  refine WL.h (Zg' (JY' (Zr' (xs:=t.own)) (by omega) (by omega)) k78 ?_)
  refine ⟨fun hb=>absurd hb (by rw [hall];simp),fun _ hle=>?_,fun _ hle a3 n3 c3=>?_⟩
  ·have hnf:¬ JL' s t:=Zl0_ hle
   rw [show Xp' s n=5 by simp [Xp',hf,hnf],show Xh' s n=0 by simp [Xh',hf,hnf],Qv' hf,show comG s n=Yj' s n by simp [comG,hf,Kr',hnf]] at hK
   refine WL.e Za'<|WL.e Ze'<|WL.e Ze'<|WL.e Zb'<|WL.e Zb'<|WL.next<|WP.seq<|WP.seq<|WP.draws Zq' 18<|RW.e 0 rfl Za'<|RW.e 1 rfl Z2'<|RW.e 2 rfl Za' ?_
   refine RW.bool 33 rfl (fun hg=>?_) (fun hg=>?_)
   ·skip
    refine RW.skip 3 rfl<|RW.skip 4 rfl<|RW.skip 5 rfl<|RW.skip 6 rfl<|RW.skip 7 rfl<|RW.skip 8 rfl<|RW.skip 9 rfl<|RW.skip 10 rfl<|RW.skip 11 rfl<|RW.skip 12 rfl<|RW.skip 13 rfl<|RW.skip 14 rfl<|RW.skip 15 rfl<|RW.skip 16 rfl<|RW.e 17 rfl Zn'<|RW.done<|PO.next<|WP.cond_t rfl<|WP.seq<|WP.reg<|WL.e Zb'<|WL.e Zb'<|WL.next<|WP.ret ?_
    refine PO.past nofun ?_
    exact PO.fin Tryz.results252 (Zd' (Zd' Zf')) hK
   ·exact absurd hg (by decide) 
  ·refine WL.opn (J1' (p:=p) (dp:=dp) (s:=(Yj' s n))) fun x=>?_
   obtain ⟨lp,mp,nm,lm,sv⟩:=x
   dsimp only
   refine WL.e Za'<|WL.e Ze'<|WL.e Ze'<|WL.e Zb'<|WL.e Zb'<|WL.next<|WP.seq<|WP.seq<|WP.draws Zq' 18<|RW.e 0 rfl Za'<|RW.e 1 rfl Z2'<|RW.e 2 rfl Za' ?_
   refine RW.bool 33 rfl (fun hg=>?_) (fun hg=>?_)
   ·exact absurd hg (by decide) 
   ·skip
    refine RW.e 3 rfl Za'<|RW.e 4 rfl Zk'<|RW.e 5 rfl (e_fa ZcI_)<|RW.e 6 rfl (Zc' a126)<|RW.e 7 rfl Za'<|RW.e 8 rfl Zk'<|RW.e 9 rfl (e_fa KC')<|RW.e 10 rfl (e_fa Ke')<|RW.e 11 rfl (Zc' a24)<|RW.e 13 rfl Za' ?_
    refine RW.any (is:=[12]) rfl ⟨?_,trivial⟩
    refine RWat.h rfl rfl rfl ?_
    refine (Zg' (Zkp_ t.num) k259 ?_)
    intro a4 n4 c4
    refine ⟨⟨⟨_,rfl,.inl ⟨rfl,Za'⟩⟩,⟨_,rfl,.inl ⟨rfl,(Zc' a126)⟩⟩,⟨_,rfl,.inl ⟨rfl,(e_fa ZcI_)⟩⟩,⟨_,rfl,.inl ⟨rfl,Zk'⟩⟩,⟨_,rfl,.inl ⟨rfl,Za'⟩⟩,trivial⟩,?_⟩
    refine RW.any (is:=[14]) rfl ⟨?_,trivial⟩
    refine RWat.h rfl rfl rfl ?_
    refine (ZG' (xs:=numB t.num 4) (ys:=Yn' t.own) Z6' Yp' z5 Zr' (by simp only [Yh',Yn',List.length_append];omega) (fun a5 n5 c5=>?_))
    refine ⟨⟨⟨_,rfl,.inl ⟨rfl,(Zc' a126)⟩⟩,⟨_,rfl,.inl ⟨rfl,(e_fa ZcI_)⟩⟩,⟨_,rfl,.inl ⟨rfl,Zk'⟩⟩,⟨_,rfl,.inl ⟨rfl,Za'⟩⟩,trivial⟩,?_⟩
    refine RW.any (is:=[15]) rfl ⟨?_,trivial⟩
    refine RWat.h rfl rfl rfl ?_
    refine (Zg' (Zbr_ (i:=s.at_) (d:=s.d) (Zr' (xs:=recG t)) hs.dok hs.hat (by rw [hs.waits];simp)) k163 ?_)
    refine ⟨fun h=>?_,fun h h'=>?_,fun h h'=>?_⟩
    ·have hnf:¬ JL' s t:=fun hf=>absurd hf.1 (by omega)
     rw [show Xp' s n=5 by simp [Xp',hf,hnf],show Xh' s n=0 by simp [Xh',hf,hnf],Qv' hf,show comG s n=Yj' s n by simp [comG,hf,Kr',hnf]] at hK
     refine ⟨trivial,?_⟩
     refine RW.e 16 rfl Z2'<|RW.e 17 rfl Zl'<|RW.done<|PO.next<|WP.cond_t rfl<|WP.seq<|WP.reg<|WL.e Zb'<|WL.e Zb'<|WL.next<|WP.ret<|PO.past nofun<|PO.cls (A:=Gs p dp ((Yj' s n))) (B:=[cl p 152 [.pointer (some ⟨lp,0,none⟩),.pointer (some ⟨mp,0,none⟩),nm,.int .u32 (Yj' s n).last.toNat,sv.v,lm],cl lp 166 [.pointer (some ⟨dp,0,none⟩),.int .i64 (Yj' s n).at_],Dk dp (Yj' s n).d,Mm mp (Yj' s n).rows,Mp eStr nm (List.map numC (Yj' s n).nums),Sl 360 3 Ye' (sv.v) (Yj' s n).looks,Mp eU32 lm (List.map kvT (Yj' s n).txs)]) (fun S h=>⟨⟨lp,mp,nm,lm,sv⟩,h⟩) ?_
     exact PO.fin Tryz.results252 (Zd' (Zd' Zf')) hK
    ·have hnf:¬ JL' s t:=fun hf=>absurd hf.2 (by omega)
     rw [show Xp' s n=5 by simp [Xp',hf,hnf],show Xh' s n=0 by simp [Xh',hf,hnf],Qv' hf,show comG s n=Yj' s n by simp [comG,hf,Kr',hnf]] at hK
     refine ⟨trivial,?_⟩
     refine RW.e 16 rfl Z2'<|RW.e 17 rfl Zl'<|RW.done<|PO.next<|WP.cond_t rfl<|WP.seq<|WP.reg<|WL.e Zb'<|WL.e Zb'<|WL.next<|WP.ret<|PO.past nofun<|PO.cls (A:=Gs p dp ((Yj' s n))) (B:=[cl p 152 [.pointer (some ⟨lp,0,none⟩),.pointer (some ⟨mp,0,none⟩),nm,.int .u32 (Yj' s n).last.toNat,sv.v,lm],cl lp 166 [.pointer (some ⟨dp,0,none⟩),.int .i64 (Yj' s n).at_],Dk dp (Yj' s n).d,Mm mp (Yj' s n).rows,Mp eStr nm (List.map numC (Yj' s n).nums),Sl 360 3 Ye' (sv.v) (Yj' s n).looks,Mp eU32 lm (List.map kvT (Yj' s n).txs)]) (fun S h=>⟨⟨lp,mp,nm,lm,sv⟩,h⟩) ?_
     exact PO.fin Tryz.results252 (Zd' (Zd' Zf')) hK
    ·have hfit:JL' s t:=⟨h,h'⟩
     refine ⟨trivial,?_⟩
     refine RW.e 16 rfl Z2'<|RW.e 17 rfl Zl'<|RW.done<|PO.next<|WP.cond_f rfl<|WP.skip<|PO.next<|WP.seq<|WP.reg<|WL.e Za'<|WL.e Zk'<|WL.e (e_fa ZcI_)<|WL.e (Zc' a126) ?_
     refine WL.h (Zg' (Uv' (d:=addW s.d s.at_ (frame (recG t)) (secs (recG t).length)) (KW' _ _ _ _ hs.dok)) k164 ?_)
     refine WL.next ?_
     refine WP.cutL (fun (_:Unit)=>[]) (fun (_:Unit)=>Gs p dp { Yj' s n with d:=(addW s.d s.at_ (frame (recG t)) (secs (recG t).length)).sync,at_:=s.at_+secs (recG t).length,rows:=Zw' s.rows t.own }::cl t.q 355 [.int .u32 t.num.toNat,t.sv.v]::Sl 179 3 ChgM.c t.sv.v t.own::Txs (delT s.txs n)::R) (fun (_:Unit)=>True) ?_ ?_
     ·skip
      refine WP.draws Zq' 9<|RW.e 0 rfl Za'<|RW.e 1 rfl Zk'<|RW.e 2 rfl (e_fa Zfs_)<|RW.e 3 rfl (Zc' a130)<|RW.e 4 rfl Za'<|RW.e 5 rfl Zk'<|RW.e 6 rfl (e_fa Kf')<|RW.e 7 rfl (Zc' a138) ?_
      refine RW.any (is:=[8]) rfl ⟨?_,trivial⟩
      refine RWat.h rfl rfl rfl ?_
      refine (Zg' (Kw' (l:=s.rows) (Zr' (xs:=t.own)) hs.rising (by omega)) k59 ?_)
      refine ⟨fun hb=>absurd hb (by rw [hs.bad (YZ' hf)];simp),fun _=>?_⟩
      refine ⟨trivial,?_⟩
      refine RW.done<|PO.cls (A:=Gs p dp ({ Yj' s n with d:=(addW s.d s.at_ (frame (recG t)) (secs (recG t).length)).sync,at_:=s.at_+secs (recG t).length,rows:=Zw' s.rows t.own })) (B:=[cl p 152 [.pointer (some ⟨lp,0,none⟩),.pointer (some ⟨mp,0,none⟩),nm,.int .u32 (Yj' s n).last.toNat,sv.v,lm],cl lp 166 [.pointer (some ⟨dp,0,none⟩),.int .i64 (s.at_+secs (recG t).length:Nat)],Dk dp (addW s.d s.at_ (frame (recG t)) (secs (recG t).length)).sync,Mm mp (Zw' s.rows t.own),Mp eStr nm (List.map numC (Yj' s n).nums),Sl 360 3 Ye' (sv.v) (Yj' s n).looks,Mp eU32 lm (List.map kvT (Yj' s n).txs)]) (fun S h=>⟨⟨lp,mp,nm,lm,sv⟩,h⟩) ?_
      exact PO.meetK () trivial
     ·intro _ _
      refine WP.seq<|WP.draws Zq' 11<|RW.e 0 rfl Za'<|RW.e 1 rfl Za'<|RW.e 2 rfl Zk'<|RW.e 3 rfl (e_fa KC')<|RW.e 4 rfl (e_fa Ke')<|RW.e 5 rfl (Zc' a24)<|RW.e 6 rfl Za'<|RW.e 7 rfl Zk'<|RW.e 8 rfl (e_fa Kf')<|RW.e 9 rfl (Zc' a138) ?_
      refine RW.any (is:=[10]) rfl ⟨?_,trivial⟩
      refine RWat.h rfl rfl rfl ?_
      refine (Zg' (Zkq_ t.num (Zr' (xs:=t.own)) (by omega)) k62 ?_)
      refine ⟨trivial,?_⟩
      refine RW.done<|PO.next<|WP.seq<|WP.reg<|WL.e Za'<|WL.e Zk'<|WL.e (e_fa KC')<|WL.e (e_fa Ke')<|WL.e (Zc' a24)<|WL.e Zb'<|WL.e Zb'<|WL.next<|WP.ret ?_
      rw [show Xp' s n=0 by simp [Xp',hf,hfit],show Xh' s n=t.num by simp [Xh',hf,hfit],Qv' hf,show comG s n={ { Yj' s n with d:=(addW s.d s.at_ (frame (recG t)) (secs (recG t).length)).sync,at_:=s.at_+secs (recG t).length,rows:=Zw' s.rows t.own } with nums:=JI' s.nums t.num t.own } by simp [comG,hf,Kr',hfit]] at hK
      exact PO.fin Tryz.results252 (Zd' (Zd' Zf')) hK
end Go.SL
set_option linter.unusedSectionVars false
namespace Go.SL
open Go
theorem UR' {ts:List TxV} {n:UInt32}:(delT ts n).Sublist ts:=List.eraseP_sublist
theorem Znp_ {a b:List TxV} (h:a.Sublist b):(a.map fun t=>t.own.length).sum≤(b.map fun t=>t.own.length).sum:=by
  induction h with
  | slnil=>simp
  | cons x _ ih=>simp;omega
  | cons_cons x _ ih=>simp;omega
theorem GamOk.ends {s:GamV} {b:Nat} (h:GamOk s b) (n:UInt32):GamOk (Yj' s n) b where
  dok:=h.dok
  hat:=h.hat
  waits:=h.waits
  rising:=h.rising
  sum:=by have:=Znp_ (UR' (ts:=s.txs) (n:=n));have:=h.sum;show s.rows.length+((delT s.txs n).map _).sum≤b;omega
  looks:=Nat.le_trans (List.length_filter_le _ _) h.looks
  ids:=h.ids.sublist (UR'.map _)
  own:=fun t ht=>h.own t (UR'.mem ht)
  bb:=h.bb
theorem ZaD_ {ts:List TxV} {n:UInt32} (h:ZV' ts n=none):n ∉ ts.map (·.id):=by
  intro hm
  obtain ⟨t,ht,rfl⟩:=List.mem_map.1 hm
  have:=List.find?_eq_none.1 h t ht
  simp at this
theorem GamOk.beg {s:GamV} {b:Nat} (h:GamOk s b) (n:UInt32) (q:Nat):GamOk (begG s n q) b:=by
  unfold begG
  split
  · rename_i hE
    have hf:ZV' s.txs n=none:=by
      unfold Xb' at hE
      cases e:ZV' s.txs n with
      | none=>rfl
      | some t=>rw [e] at hE;split at hE <;> simp at hE
    refine ⟨h.dok,h.hat,h.waits,h.rising,?_,h.looks,?_,?_,h.bb⟩
    · have:=h.sum;simpa using this
    · simp only [List.map_append,List.map_cons,List.map_nil]
      refine List.nodup_append.2 ⟨h.ids,by simp,?_⟩
      intro a ha c hc e
      simp at hc;subst hc;subst e
      exact ZaD_ hf ha
    · intro t ht
      rcases List.mem_append.1 ht with ht | ht
      · exact h.own t ht
      · simp at ht;subst ht;simp
  · exact h
theorem GamOk.abo {s:GamV} {b:Nat} (h:GamOk s b) (n:UInt32):GamOk (aboG s n) b:=by
  unfold aboG;split
  · exact h.ends n
  · exact h
theorem GamOk.com {s:GamV} {b:Nat} (h:GamOk s b) (n:UInt32):GamOk (comG s n) b:=by
  unfold comG
  cases hf:ZV' s.txs n with
  | none=>exact h
  | some t=>
    simp only [Kr']
    split
    · rename_i hfit
      have he:=h.ends n
      obtain ⟨_,A,B,hts,hdel,_⟩:=Jh' hf
      have hr:=ZS' t.own h.rising
      have h1:=KW' (secs (recG t).length) s.d s.at_ (frame (recG t)) h.dok
      have h2:=Zbq_ (secs (recG t).length) s.d s.at_ (frame (recG t))
      refine ⟨h1.sync,?_,rfl,hr.1,?_,he.looks,he.ids,he.own,h.bb⟩
      · show s.at_+secs (recG t).length≤(addW _ _ _ _).seen.length
        rw [h1.len,h2.1];exact hfit.2
      · have:=h.sum
        rw [hts] at this
        show (Zw' s.rows t.own).length+((delT s.txs n).map _).sum≤b
        rw [hdel]
        simp only [List.map_append,List.map_cons,List.sum_append,List.sum_cons] at this ⊢
        omega
    · exact h.ends n
theorem GamOk.look {s:GamV} {b:Nat} (h:GamOk s b) (hb:b+1≤1000000000) (t:TxV) (p:SpanM):GamOk (Jn' s t p) (b+1):=
  ⟨h.dok,h.hat,h.waits,h.rising,Nat.le_succ_of_le h.sum,by have:=h.looks;simp [Jn'];omega,h.ids,h.own,hb⟩
theorem GamOk.put {s:GamV} {b:Nat} (h:GamOk s b) (hb:b+1≤1000000000) {t:TxV} (ht:t ∈ s.txs) (c:ChgM) (hc:ZR' c=true) (sv:SV):GamOk (putG s t.id c sv) (b+1):=by
  obtain ⟨A,B,e⟩:=KZ' ht
  have hp:(putG s t.id c sv).txs=A++{ t with own:=t.own++[c],sv:=sv }::B:=by
    show putT s.txs t.id c sv=_
    rw [e];exact UP' (e ▸ h.ids) c sv
  refine ⟨h.dok,h.hat,h.waits,h.rising,?_,Nat.le_succ_of_le h.looks,?_,?_,hb⟩
  · rw [hp]
    have:=h.sum
    rw [e] at this
    simp at this ⊢
    show s.rows.length+_≤_
    omega
  · rw [hp]
    have:=h.ids
    rw [e] at this
    simpa using this
  · rw [hp]
    intro y hy c' hc'
    rcases List.mem_append.1 hy with hy | hy
    · exact h.own y (by rw [e];simp [hy]) c' hc'
    · rcases List.mem_cons.1 hy with rfl | hy
      · simp at hc'
        rcases hc' with hc' | rfl
        · exact h.own t ht c' hc'
        · exact hc
      · exact h.own y (by rw [e];simp [hy]) c' hc'
def gam0 (d:DiskM):GamV:=⟨d,0,[],[],0,[],[]⟩
theorem Zg9_ {d:DiskM} (h:Quiet d):GamOk (gam0 d) 0:=⟨h.ok,Nat.zero_le _,h.waits,List.Pairwise.nil,by simp [gam0],by simp [gam0],by simp [gam0],by simp [gam0],by decide⟩
theorem Zl1_ {s:GamV} {n:UInt32} {x:OpM} {t:TxV} (h1:opOk x=true) (hf:ZV' s.txs n=some t) (hl:Jm' s t (Zi' x) (Zp' x)=false) (hu:(Yl' s.txs t.id (Zi' x)).any (fun m=>decide (m < t.num))=false) (hw:Zp' x=false):doG s n x=.look t:=by
  unfold doG
  rw [if_pos h1,hf]
  simp only [hl,hu]
  simp [hw]
theorem Znq_ {s:GamV} {n:UInt32} {x:OpM} {t:TxV} (h1:opOk x=true) (hf:ZV' s.txs n=some t) (hl:Jm' s t (Zi' x) (Zp' x)=false) (hu:(Yl' s.txs t.id (Zi' x)).any (fun m=>decide (m < t.num))=false) (hw:Zp' x=true):doG s n x=.put t (Z4' x):=by
  unfold doG
  rw [if_pos h1,hf]
  simp only [hl,hu]
  simp [hw]
def tx1 (q:Nat):TxV:=⟨1,1,[],q,sv0⟩
theorem Zku_ (d:DiskM) (q:Nat):Xb' (gam0 d) 1=0∧begG (gam0 d) 1 q=⟨d,0,[],[],1,[],[tx1 q]⟩:=by
  have h:Xb' (gam0 d) 1=0:=by simp [Xb',gam0,ZV']
  exact ⟨h,by rw [begG,if_pos h];rfl⟩
def t9 (q:Nat) (c:List ChgM) (sv:SV):TxV:=⟨9,3,c,q,sv⟩
end Go.SL
namespace Go.SL.Fc
open Go Go.Proofs Go.SL
theorem p152:Ya' Tryz.prog 152=some [(0,1),(1,1),(2,1),(3,1),(4,1),(5,1)]:=by kernel_rfl
theorem z152:ZH' Tryz.prog 152=some [.pointer none,.pointer none,.map none,.int .u32 0,.slice none 0 0,.map none]:=by kernel_rfl
end Go.SL.Fc
namespace Go.SL
open Go Go.Proofs Fc
theorem ZdM_ {g:World} {dp:Nat} {d:DiskM} (hd:d.ok) (hw:d.waits.length < 4000000000) (hz:recs d.seen.flatten=[]) (hc:YF' d.seen.flatten d 0 d.sure.length=d):Spec Tryz.prog g 44 [.pointer (some ⟨dp,0,none⟩)] [Dk dp d] fun K R=>∀ p,K (.tuple #[.pointer (some ⟨p,0,none⟩),.int .i64 0]) (Gs p dp (gam0 d.sync)::Txs []::R):=by
 refine Spec.intro Tryz.func44 rfl Tryz.ntmps44 rfl fun R K hK=>?_
 refine WP.seq<|WP.reg<|WL.e Zb'<|WL.e Zb'<|WL.next<|WP.seq<|WP.reg<|WL.e Za' ?_
 refine WL.h (Zg' (Zab_ hd hw) k55 ?_)
 intro lp sv xs hx
 obtain rfl:xs=[]:=by rw [hz] at hx;simpa using hx
 rw [show tot []=0 from rfl,Nat.sub_zero,hc]
 refine WL.e Za'<|WL.e Ze'<|WL.e Ze'<|WL.e Ze'<|WL.e Zb'<|WL.e Zb'<|WL.e Zb'<|WL.next<|WP.seq<|WP.seq<|WP.reg<|WL.e Za'<|WL.e Z2'<|WL.next<|WP.cond_f rfl<|WP.skip<|PO.next<|WP.seq<|WP.reg<|WL.e Za' ?_
 refine WL.h (Zg' (Zad_) k56 ?_)
 intro mp
 refine WL.h (YN' (ek:=eStr) fun nb=>?_)
 refine WL.h (YN' (ek:=eU32) fun mb=>?_)
 refine WL.e (Zv' z152 p152 (.o (.tmp 22) rfl<|.o (.tmp 23) rfl<|.o (.tmp 24) rfl<|.z (.int .u32 0)<|.z (.slice none 0 0)<|.o (.tmp 25) rfl<|.n)) ?_
 refine WL.h (ZL' fun b1=>?_)
 refine WL.e Zb'<|WL.next<|WP.seq<|WP.seq<|WP.reg<|WL.e Za'<|WL.e (ZD' (xs:=([]:List RecV)) Uu' Zr')<|WL.e Za'<|WL.next<|WP.block<|WP.loopK (fun (_:Unit)=>[(30,.int .i64 0)]) (fun (_:Unit)=>cl b1 152 [.pointer (some ⟨lp,0,none⟩),.pointer (some ⟨mp,0,none⟩),(.map (some nb)),.int .u32 0,.slice none 0 0,(.map (some mb))]::cl lp 166 [.pointer (some ⟨dp,0,none⟩),.int .i64 0]::Dk dp d.sync::Mm mp []::Mp eStr (.map (some nb)) ([]:List (ByteArray × Value))::Mp eU32 (.map (some mb)) ([]:List (UInt32 × Value))::R) [(7,_),(28,_),(29,_)] (fun (_:Unit)=>True) (fun (_:Unit)=>0) () (trivial) ?_
 intro _ _
 refine WP.seq<|WP.reg<|WL.e Z3'<|WL.next<|WP.seq ?_
 refine WP.cond rfl (fun h1=>?_) (fun h1=>?_)
 ·simp at h1
 ·skip
  refine WP.exit<|PO.past nofun<|PO.round nofun<|PO.blockX<|PO.next<|WP.seq<|WP.reg<|WL.e Za'<|WL.e Zb'<|WL.e Zb'<|WL.next<|WP.ret<|PO.nils 360 3 Ye' none ?_
  refine PO.cls (A:=Gs b1 dp (gam0 d.sync)) (B:=[cl b1 152 [.pointer (some ⟨lp,0,none⟩),.pointer (some ⟨mp,0,none⟩),(.map (some nb)),.int .u32 0,.slice none 0 0,(.map (some mb))],cl lp 166 [.pointer (some ⟨dp,0,none⟩),.int .i64 0],Dk dp d.sync,Mm mp [],Mp eStr (.map (some nb)) ([]:List (ByteArray × Value)),Sl 360 3 Ye' (.slice none 0 0) [],Mp eU32 (.map (some mb)) ([]:List (UInt32 × Value))]) (fun S h=>⟨⟨lp,mp,.map (some nb),.map (some mb),⟨none,0,0⟩⟩,h⟩) ?_
  refine PO.conv (M:=Txs []::_) (fun S h=>YB' (L:=[]) h) ?_
  exact PO.fin Tryz.results44 (Zd' (Zd' Zf')) (hK b1)
end Go.SL
namespace Go.SL
open Go
structure Calm (s:GamV) (t:TxV):Prop where
  find:ZV' s.txs t.id=some t
  own:∀ o ∈ s.txs,o.id≠t.id→o.own=[]
  nums:∀ y ∈ s.nums,¬ t.num < y.2
  looks:∀ y ∈ s.looks,¬ t.num < y.1
theorem Calm.under {s:GamV} {t:TxV} (h:Calm s t) (p:SpanM):Yl' s.txs t.id p=[]:=by
  unfold Yl'
  rw [List.map_eq_nil_iff,List.filter_eq_nil_iff]
  intro o ho hc
  simp only [Bool.and_eq_true,Bool.not_eq_true',decide_eq_false_iff_not] at hc
  rw [Qu',h.own o ho hc.1] at hc
  simp at hc
theorem Calm.late {s:GamV} {t:TxV} (h:Calm s t) (p:SpanM) (w:Bool):Jm' s t p w=false:=by
  have h1:Xv' s.nums t.num p=false:=by
    unfold Xv'
    rw [List.any_eq_false];intro y hy hc
    simp only [Bool.and_eq_true,decide_eq_true_eq] at hc
    exact h.nums y hy hc.1
  have h2:(s.looks.any fun x=>decide (t.num < x.1) && meet x.2 p)=false:=by
    rw [List.any_eq_false];intro y hy hc
    simp only [Bool.and_eq_true,decide_eq_true_eq] at hc
    exact h.looks y hy hc.1
  simp [Jm',h1,h2,h.under]
theorem Calm.do_ {s:GamV} {t:TxV} (h:Calm s t) {x:OpM} (hx:opOk x=true):(Zp' x=true∧doG s t.id x=.put t (Z4' x))∨(Zp' x=false∧doG s t.id x=.look t):=by
  cases hw:Zp' x with
  | true=>exact .inl ⟨rfl,Znq_ hx h.find (h.late _ _) (by rw [h.under];rfl) hw⟩
  | false=>exact .inr ⟨rfl,Zl1_ hx h.find (h.late _ _) (by rw [h.under];rfl) hw⟩
theorem Znr_ {s:GamV} {n:UInt32} {x:OpM} (h:opOk x=false):doG s n x=.err s 1:=by simp [doG,h]
theorem Calm.put {s:GamV} {b:Nat} {t:TxV} (h:Calm s t) (hs:GamOk s b) (c:ChgM) (sv:SV):Calm (putG s t.id c sv) { t with own:=t.own++[c],sv:=sv }:=by
  obtain ⟨_,A,B,hts,_,hA⟩:=Jh' h.find
  have hp:(putG s t.id c sv).txs=A++{ t with own:=t.own++[c],sv:=sv }::B:=by
    show putT s.txs t.id c sv=_
    rw [hts];exact UP' (hts ▸ hs.ids) c sv
  refine ⟨?_,fun o ho hi=>?_,h.nums,h.looks⟩
  · rw [hp]
    unfold ZV'
    rw [List.find?_append,List.find?_eq_none.2 (fun x hx=>by simpa using hA x hx)]
    simp
  · rw [hp] at ho
    rcases List.mem_append.1 ho with ho | ho
    · exact h.own o (by rw [hts];simp [ho]) hi
    · rcases List.mem_cons.1 ho with rfl | ho
      · exact absurd rfl hi
      · exact h.own o (by rw [hts];simp [ho]) hi
theorem Calm.look {s:GamV} {t:TxV} (h:Calm s t) (p:SpanM):Calm (Jn' s t p) t:=by
  refine ⟨h.find,h.own,h.nums,fun y hy=>?_⟩
  rcases List.mem_append.1 hy with hy | hy
  · exact h.looks y hy
  · simp at hy;subst hy;exact fun hlt=>absurd hlt (by simp [UInt32.lt_iff_toNat_lt])
theorem Zl2_ {s:GamV} {b:Nat} {t:TxV} (h:Calm s t) (hs:GamOk s b) (hq:Quiet s.d) {m:Nat} (hm:t.own.length≤m) (hmm:m≤100) (hat:s.at_≤1000) :
    Xp' s t.id=0∧Xh' s t.id=t.num∧(comG s t.id).rows=Zw' s.rows t.own∧(comG s t.id).nums=JI' s.nums t.num t.own∧(comG s t.id).last=s.last∧(comG s t.id).txs=delT s.txs t.id∧Quiet (comG s t.id).d∧(comG s t.id).at_≤s.at_+m+2∧(∀ y ∈ (comG s t.id).looks,y ∈ s.looks):=by
  have hl:=UQ' t
  have hc:=(XK' t.own).2 (hs.own t (YZ' h.find))
  have hfit:JL' s t:=⟨by omega,by rw [hq.len];unfold secs;omega⟩
  have hcom:comG s t.id={ Yj' s t.id with d:=(addW s.d s.at_ (frame (recG t)) (secs (recG t).length)).sync,at_:=s.at_+secs (recG t).length,rows:=Zw' s.rows t.own,nums:=JI' s.nums t.num t.own }:=by
    simp only [comG,h.find,Kr',if_pos hfit]
  refine ⟨by simp only [Xp',h.find,if_pos hfit],by simp only [Xh',h.find,if_pos hfit],by rw [hcom],by rw [hcom],by rw [hcom];rfl,Qv' h.find,?_,?_,?_⟩
  · rw [hcom];exact hq.add _ _ _
  · rw [hcom];show s.at_+secs (recG t).length≤_;unfold secs;omega
  · rw [hcom];intro y hy;exact (List.mem_filter.1 hy).1
end Go.SL
namespace Go.SL.Fc
end Go.SL.Fc
namespace Go.SL
open Go Go.Proofs Fc
theorem ZiC_ {g:World} {p dp:Nat} {s:GamV} (hn:s.rows.length≤68719476736):Spec Tryz.prog g 255 [.pointer (some ⟨p,0,none⟩)] [Gs p dp s] fun K R=>∀ a m c,K (.slice a m c) (Sl 105 2 RowM.c (.slice a m c) s.rows::Gs p dp s::R):=by
 refine Spec.intro Tryz.func255 rfl Tryz.ntmps255 rfl fun R K hK=>?_
 refine WP.seq<|WP.reg<|WL.e Zb'<|WL.next<|WP.seq<|WP.seq<|WP.reg<|WL.e Za' ?_
 refine WL.h (Zg' (KD') k257 ?_)
 refine WL.e Zx'<|WL.next<|WP.cond_f rfl<|WP.opn (J1' (p:=p) (dp:=dp) (s:=s)) fun x=>?_
 obtain ⟨lp,mp,nm,lm,sv⟩:=x
 dsimp only
 refine WP.skip<|PO.next<|WP.seq<|WP.reg<|WL.e Za'<|WL.e Zk'<|WL.e (e_fa Zfs_)<|WL.e (Zc' a130) ?_
 refine WL.h (Zg' (Zae_ hn) k171 ?_)
 intro a m c
 refine WL.e Zb'<|WL.next<|WP.ret<|PO.cls (A:=Gs p dp s) (B:=[cl p 152 [.pointer (some ⟨lp,0,none⟩),.pointer (some ⟨mp,0,none⟩),nm,.int .u32 s.last.toNat,sv.v,lm],cl lp 166 [.pointer (some ⟨dp,0,none⟩),.int .i64 s.at_],Dk dp s.d,Mm mp s.rows,Mp eStr nm (List.map numC s.nums),Sl 360 3 Ye' (sv.v) s.looks,Mp eU32 lm (List.map kvT s.txs)]) (fun S h=>⟨⟨lp,mp,nm,lm,sv⟩,h⟩) ?_
 exact PO.fin Tryz.results255 (Zd' Zf') (hK a m c)
end Go.SL
namespace Go.SL
open Go
inductive DoE (σ:Type)
 | err (s:σ) (e:Nat)
 | put (f:SV→σ)
 | look (s:σ) (rows:List RowM)
structure EngM where
 St:Type
 Ok:St→Nat→Prop
 first:St
 begE:St→UInt32→Nat
 begS:St→UInt32→Nat→St
 doS:St→UInt32→OpM→DoE St
 comE:St→UInt32→Nat
 comN:St→UInt32→UInt32
 comS:St→UInt32→St
 aboE:St→UInt32→Nat
 aboS:St→UInt32→St
 rows:St→List RowM
 okFirst:Ok first 0
 okMono:∀ {s b c},Ok s b→b≤c→c≤1000000000→Ok s c
 okBB:∀ {s b},Ok s b→b≤1000000000
 okBeg:∀ {s b},Ok s b→∀ n q,Ok (begS s n q) b
 okErr:∀ {s b n x s' e},Ok s b→doS s n x=.err s' e→Ok s' b∧e≠0∧e≠10
 okPut:∀ {s b n x f},Ok s b→b+1≤1000000000→doS s n x=.put f→(∀ sv,Ok (f sv) (b+1))∧opOk x=true
 okLook:∀ {s b n x s' r},Ok s b→b+1≤1000000000→doS s n x=.look s' r→Ok s' (b+1)∧r.length≤256∧opOk x=true
 okCom:∀ {s b},Ok s b→b+1≤1000000000→∀ n,Ok (comS s n) (b+1)
 okAbo:∀ {s b},Ok s b→∀ n,Ok (aboS s n) b
 rowsLe:∀ {s b},Ok s b→(rows s).length≤b
 rising:∀ {s b},Ok s b→ZC' (rows s)
 doBad:∀ {s n x},opOk x=false→doS s n x=.err s 1
 doNone:∀ {s b x},Ok s b→opOk x=true→doS s 0 x=.err s 6
 Fr:St→List UInt32→UInt32→List ChgM→List RowM→Nat→Nat→Nat→Prop
 frOk:∀ {s ids n own rs c k b},Fr s ids n own rs c k b→Ok s b
 frRows:∀ {s ids n own rs c k b},Fr s ids n own rs c k b→rows s=rs
 frFirst:∀ n,Fr first [] n [] [] 0 0 0
 frBeg:∀ {s ids n rs c k b},Fr s ids n [] rs c k b→b+1≤1000000000→∀ j,j≠0→j ∉ ids→ids.length < 32→begE s j=0∧∀ q,Fr (begS s j q) (ids++[j]) n [] rs c k (b+1)
 frPut:∀ {s ids n own rs c k b x},Fr s ids n own rs c k b→b+1≤1000000000→n ∈ ids→opOk x=true→Zp' x=true→∃ f,doS s n x=.put f∧∀ sv,Fr (f sv) ids n (own++[Z4' x]) rs c k (b+1)
 frLook:∀ {s ids n own rs c k b x},Fr s ids n own rs c k b→b+1≤1000000000→n ∈ ids→opOk x=true→Zp' x=false→∃ s',doS s n x=.look s' (ZT' (Zw' rs own) (Zi' x) 256)∧Fr s' ids n own rs c k (b+1)
 frCom:∀ {s ids n own rs c k b},Fr s ids n own rs c k b→b+1≤1000000000→n ∈ ids→own.length≤80→c≤40→comE s n=0∧(ids=[n]→k < (comN s n).toNat∧∀ m,Fr (comS s n) [] m [] (Zw' rs own) (c+1) (comN s n).toNat (b+1))
 frAbo:∀ {s ids n own rs c k b},Fr s ids n own rs c k b→n ∈ ids→aboE s n=0∧(ids=[n]→∃ k',k≤k'∧∀ m,Fr (aboS s n) [] m [] rs c k' b)
 frAbE:∀ {s ids n own rs c k b j},Fr s ids n own rs c k b→j ∈ ids→aboE s j=0
def DoS.e:DoS→DoE StV
 | .err s e=>.err s e
 | .put s=>.put fun _=>s
 | .look s r=>.look s r
theorem DoS.e_err {x:DoS} {s:StV} {e:Nat} (h:x.e=.err s e):x=.err s e:=by cases x <;> simp [DoS.e] at h ⊢;exact h
theorem DoS.e_put {x:DoS} {f:SV→StV} (h:x.e=.put f):∃ s,x=.put s∧f=fun _=>s:=by cases x <;> simp [DoS.e] at h ⊢;exact h.symm
theorem DoS.e_look {x:DoS} {s:StV} {r:List RowM} (h:x.e=.look s r):x=.look s r:=by cases x <;> simp [DoS.e] at h ⊢;exact h
def Nz (s:StV):Prop:=∀ t ∈ s.txs,t.id≠0
theorem Nz.sub {s s':StV} (h:Nz s) (hs:∀ t ∈ s'.txs,∃ u ∈ s.txs,t.id=u.id):Nz s':=fun t ht=>by
 obtain ⟨u,hu,e⟩:=hs t ht
 rw [e];exact h u hu
theorem Nz.beg {s:StV} (h:Nz s) (n:UInt32) (q:Nat):Nz (begS s n q):=by
 unfold begS
 split
 ·rename_i hE
  intro t ht
  rcases List.mem_append.1 ht with ht | ht
  ·exact h t ht
  ·obtain rfl:=List.mem_singleton.1 ht
   exact (VV' hE).1
 ·exact h
theorem ZaZ_ {I:Kind} {G:Good I} {s:StV} {b:Nat} (h:G.Ok s b) (n:UInt32):(comS I s n).txs=delU s.txs n:=by
 obtain ⟨_,_,_,e⟩:=G.endsE h n
 unfold comS
 cases hf:Zs' s.txs n with
 | none=>
  simp only
  unfold delU
  rw [List.eraseP_of_forall_not (fun y hy=>by have:=UH' hf y hy;simpa using this)]
 | some t=>
  simp only
  split
  ·exact e
  ·split
   ·exact e
   ·exact e
theorem Za0_ {I:Kind} {G:Good I} {s:StV} {b:Nat} (h:G.Ok s b) (n:UInt32):(aboS I s n).txs=delU s.txs n:=by
 obtain ⟨_,_,_,e⟩:=G.endsE h n
 unfold aboS
 cases hf:Zs' s.txs n with
 | none=>
  simp only [Option.isSome_none,Bool.false_eq_true,if_false]
  unfold delU
  rw [List.eraseP_of_forall_not (fun y hy=>by have:=UH' hf y hy;simpa using this)]
 | some t=>exact e
theorem Zha_ {ts:List TxT} {n:UInt32} (h:n ∈ ts.map (·.id)):∃ t,Zs' ts n=some t:=by
 cases hf:Zs' ts n with
 | none=>exact absurd h (JH' hf)
 | some t=>exact ⟨t,rfl⟩
structure FrS (s:StV) (ids:List UInt32) (n:UInt32) (own:List ChgM) (rs:List RowM) (c k:Nat):Prop where
 ids:s.txs.map (·.id)=ids
 own:∀ t ∈ s.txs,t.x.own=if t.id=n then own else []
 rows:s.rows=rs
 his:s.H.length=c
 at_:s.at_≤82 * c
 kc:k≤c
section
variable {s s' : StV} {ids : List UInt32} {n : UInt32} {own : List ChgM} {rs : List RowM} {c k : Nat}
theorem FrS.find (h:FrS s ids n own rs c k) (hn:n ∈ ids):∃ t,Zs' s.txs n=some t∧t.x.own=own:=by
 obtain ⟨t,ht⟩:=Zha_ (ts:=s.txs) (n:=n) (by rw [h.ids];exact hn)
 refine ⟨t,ht,?_⟩
 rw [h.own t (ZI' ht),if_pos (Yc' ht).1]
theorem FrS.beg (h:FrS s ids n [] rs c k) (j:UInt32) (h0:j≠0) (hj:j ∉ ids) (hl:ids.length < 32):begE s j=0∧∀ q,FrS (begS s j q) (ids++[j]) n [] rs c k:=by
 have hf:Zs' s.txs j=none:=by
  cases hf:Zs' s.txs j with
  | none=>rfl
  | some t=>exact absurd (List.mem_map.2 ⟨t,ZI' hf,(Yc' hf).1⟩) (by rw [h.ids];exact hj)
 have hlen:s.txs.length=ids.length:=by rw [← h.ids,List.length_map]
 have hE:begE s j=0:=by
  unfold begE
  rw [if_neg h0,hf,hlen]
  simp;omega
 refine ⟨hE,fun q=>?_⟩
 unfold begS
 rw [if_pos hE]
 refine ⟨by simp [h.ids,begT],fun t ht=>?_,h.rows,h.his,h.at_,h.kc⟩
 rcases List.mem_append.1 ht with ht | ht
 ·exact h.own t ht
 ·obtain rfl:=List.mem_singleton.1 ht
  show []=if (begT s j q).id=n then [] else []
  split <;> rfl
theorem FrS.upd (h:FrS s ids n own rs c k) (hn:(s.txs.map (·.id)).Nodup) {t:TxT} (hf:Zs' s.txs n=some t) {x:TX} (hH:s'.H=s.H) (ha:s'.at_=s.at_) (ht:s'.txs=setU s.txs n x):FrS s' ids n x.own rs c k:=by
 refine ⟨by rw [ht,Qs'];exact h.ids,fun u hu=>?_,by rw [StV.rows,hH];exact h.rows,by rw [hH];exact h.his,by rw [ha];exact h.at_,h.kc⟩
 rw [ht] at hu
 rcases Xg' hu with ⟨v,hv,hvi,rfl⟩ | ⟨hu,hne⟩
 ·rw [if_pos hvi]
 ·rw [h.own u hu,if_neg hne,if_neg hne]
theorem FrS.fits (h:FrS s ids n own rs c k) {b:Nat} (hk:StOk s b) {t:TxT} (hf:Zs' s.txs n=some t) (ho:t.x.own=own) (hl:own.length≤80) (hc:c≤40):Y1' s t.x∧secs (Yn' own).length≤82:=by
 have hcl:=(XK' t.x.own).2 (hk.own t (ZI' hf))
 have hlen:=K0' t.x.own
 have hat:=h.at_
 rw [ho] at hcl hlen
 refine ⟨⟨by rw [ho];omega,?_⟩,by unfold secs;omega⟩
 rw [ho,hk.log.len];unfold secs;omega
theorem FrS.com {I:Kind} {G:Good I} {b:Nat} (h:FrS s ids n own rs c k) (hk:G.Ok s b) (hn:n ∈ ids) (hl:own.length≤80) (hc:c≤40) (hch:∀ t,Zs' s.txs n=some t→I.chk s t.x=false) :
  comE I s n=0∧comS I s n=addS (I.ends s n) own∧(ids=[n]→k < (comN I s n).toNat∧∀ m,FrS (comS I s n) [] m [] (Zw' rs own) (c+1) (comN I s n).toNat):=by
 obtain ⟨t,hf,ho⟩:=h.find hn
 obtain ⟨hfit,hs⟩:=h.fits (G.ok hk) hf ho hl hc
 have hE:comE I s n=0:=by simp [comE,hf,hch t hf,hfit]
 have hS:comS I s n=addS (I.ends s n) own:=by simp [comS,hf,hch t hf,hfit,ho]
 obtain ⟨e1,e2,e3,e4⟩:=G.endsE hk n
 have hN:(comN I s n).toNat=c+1:=by
  rw [comN,if_pos hE,h.his,UInt32.toNat_add,UInt32.toNat_ofNat']
  show (c % 4294967296+1) % 4294967296=c+1;omega
 refine ⟨hE,hS,fun hid=>⟨by rw [hN];have:=h.kc;omega,fun m=>?_⟩⟩
 rw [hN]
 have htx:s.txs=[t]:=by
  have h1:=h.ids
  rw [hid] at h1
  have h2:s.txs.length=1:=by have:=congrArg List.length h1;simpa using this
  obtain ⟨u,hu⟩:=List.length_eq_one_iff.1 h2
  rw [hu] at hf ⊢
  have:=ZI' hf
  rw [List.mem_singleton] at this;rw [this]
 have hem:(comS I s n).txs=[]:=by
  rw [ZaZ_ hk,htx]
  unfold delU
  rw [List.eraseP_cons_of_pos (by simpa using (Yc' hf).1)]
 refine ⟨by rw [hem];rfl,(by rw [hem];intro t ht;cases ht),?_,?_,?_,Nat.le_refl _⟩
 ·rw [hS,VW',StV.rows,e3];rw [← h.rows];rfl
 ·rw [hS];show ((I.ends s n).H++[own]).length=c+1
  rw [e3,List.length_append,h.his];rfl
 ·rw [hS];show (I.ends s n).at_+secs (Yn' own).length≤82 * (c+1)
  rw [e2];have:=h.at_;omega
theorem FrS.abo {I:Kind} {G:Good I} {b:Nat} (h:FrS s ids n own rs c k) (hk:G.Ok s b) (hn:n ∈ ids):aboE s n=0∧(ids=[n]→∀ m,FrS (aboS I s n) [] m [] rs c k):=by
 obtain ⟨t,hf,ho⟩:=h.find hn
 refine ⟨by simp [aboE,hf],fun hid m=>?_⟩
 have hem:(aboS I s n).txs=[]:=by
  rw [Za0_ hk]
  have h1:=h.ids
  rw [hid] at h1
  have h2:s.txs.length=1:=by have:=congrArg List.length h1;simpa using this
  obtain ⟨u,hu⟩:=List.length_eq_one_iff.1 h2
  rw [hu] at hf ⊢
  unfold delU
  have:=ZI' hf
  rw [List.mem_singleton] at this
  rw [← this,List.eraseP_cons_of_pos (by simpa using (Yc' hf).1)]
 obtain ⟨e1,e2,e3,e4⟩:=G.endsE hk n
 have hS:aboS I s n=I.ends s n:=by simp [aboS,hf]
 refine ⟨by rw [hem];rfl,(by rw [hem];intro t ht;cases ht),?_,?_,?_,h.kc⟩
 ·rw [hS,StV.rows,e3];exact h.rows
 ·rw [hS,e3];exact h.his
 ·rw [hS,e2];exact h.at_
end
structure FrK {I:Kind} (G:Good I) where
 first:G.Ok stF 0
 bad:∀ {s n x},opOk x=false→I.doS s n x=.err s 1
 none:∀ {s n x},Zs' s.txs n=none→opOk x=true→I.doS s n x=.err s 6
 F:StV→UInt32→Prop
 fFirst:∀ n,F stF n
 fBeg:∀ {s b n j},G.Ok s b→F s n→begE s j=0→∀ q,F (begS s j q) n
 fPut:∀ {s b n t x},G.Ok s b→F s n→Zs' s.txs n=some t→opOk x=true→Zp' x=true→∃ s' y,I.doS s n x=.put s'∧F s' n∧s'.H=s.H∧s'.at_=s.at_∧s'.txs=setU s.txs n y∧y.own=t.x.own++[Z4' x]
 fLook:∀ {s b n t x},G.Ok s b→F s n→Zs' s.txs n=some t→opOk x=true→Zp' x=false→∃ s' y,I.doS s n x=.look s' (ZT' (Zw' s.rows t.x.own) (Zi' x) 256)∧F s' n∧s'.H=s.H∧s'.at_=s.at_∧s'.txs=setU s.txs n y∧y.own=t.x.own
 fChk:∀ {s b n t},G.Ok s b→F s n→Zs' s.txs n=some t→I.chk s t.x=false
 fEnd:∀ {s b n},G.Ok s b→F s n→delU s.txs n=[]→(∀ m,F (I.ends s n) m)∧∀ own m,F (addS (I.ends s n) own) m
 e10:∀ {s n x s' e},I.doS s n x=.err s' e→e≠10
noncomputable def engS {I:Kind} {G:Good I} (Z:FrK G):EngM where
 St:=StV
 Ok:=fun s b=>G.Ok s b∧Nz s
 first:=stF
 begE:=begE
 begS:=begS
 doS:=fun s n x=>(I.doS s n x).e
 comE:=comE I
 comN:=comN I
 comS:=comS I
 aboE:=aboE
 aboS:=aboS I
 rows:=StV.rows
 okFirst:=⟨Z.first,by intro t ht;cases ht⟩
 okMono:=fun h hb hc=>⟨G.mono h.1 hb hc,h.2⟩
 okBB:=fun h=>(G.ok h.1).bb
 okBeg:=fun h n q=>⟨G.beg h.1 n q,h.2.beg n q⟩
 okErr:=fun h he=>by
  have he:=DoS.e_err he
  obtain ⟨h1,_,_,_,h2,h3,_⟩:=G.err h.1 he
  exact ⟨⟨h3,h.2.sub h2⟩,h1,Z.e10 he⟩
 okPut:=fun h hb he=>by
  obtain ⟨s',he2,rfl⟩:=DoS.e_put he
  obtain ⟨_,_,_,hx,_,_,_,_,h2,h3,_⟩:=G.put h.1 hb he2
  exact ⟨fun _=>⟨h3,h.2.sub h2⟩,hx⟩
 okLook:=fun h hb he=>by
  obtain ⟨_,_,_,hx,_,_,_,_,h2,h3,h4,_⟩:=G.look h.1 hb (DoS.e_look he)
  exact ⟨⟨h3,h.2.sub h2⟩,h4,hx⟩
 okCom:=fun h hb n=>⟨G.com h.1 hb n,fun t ht=>by rw [ZaZ_ h.1] at ht;exact h.2 t (Z8'.mem ht)⟩
 okAbo:=fun h n=>⟨ZjG_ G h.1 n,fun t ht=>by rw [Za0_ h.1] at ht;exact h.2 t (Z8'.mem ht)⟩
 rowsLe:=fun h=>(G.ok h.1).rows_le
 rising:=fun {s _} h=>s.rising
 doBad:=fun hx=>by rw [Z.bad hx];rfl
 doNone:=fun {s b x} h hx=>by
  have hf:Zs' s.txs 0=none:=by
   cases hf:Zs' s.txs 0 with
   | none=>rfl
   | some t=>exact absurd (Yc' hf).1 (h.2 t (ZI' hf))
  rw [Z.none hf hx];rfl
 Fr:=fun s ids n own rs c k b=>(G.Ok s b∧Nz s)∧FrS s ids n own rs c k∧Z.F s n
 frOk:=fun h=>h.1
 frRows:=fun h=>h.2.1.rows
 frFirst:=fun n=>⟨⟨Z.first,by intro t ht;cases ht⟩,⟨rfl,(by intro t ht;cases ht),rfl,rfl,Nat.zero_le _,Nat.le_refl _⟩,Z.fFirst n⟩
 frBeg:=fun h hb j h0 hj hl=>by
  obtain ⟨e,h2⟩:=h.2.1.beg j h0 hj hl
  exact ⟨e,fun q=>⟨⟨G.mono (G.beg h.1.1 j q) (Nat.le_succ _) hb,h.1.2.beg j q⟩,h2 q,Z.fBeg h.1.1 h.2.2 e q⟩⟩
 frPut:=fun h hb hn hx hw=>by
  obtain ⟨t,hf,ho⟩:=h.2.1.find hn
  obtain ⟨s',y,e,hF,h1,h2,h3,h4⟩:=Z.fPut h.1.1 h.2.2 hf hx hw
  obtain ⟨_,_,_,_,_,_,_,_,h5,h6,_⟩:=G.put h.1.1 hb e
  refine ⟨fun _=>s',by rw [e];rfl,fun _=>⟨⟨h6,h.1.2.sub h5⟩,?_,hF⟩⟩
  have:=h.2.1.upd (s':=s') (x:=y) (G.ok h.1.1).ids hf h1 h2 h3
  rw [h4,ho] at this;exact this
 frLook:=fun h hb hn hx hw=>by
  obtain ⟨t,hf,ho⟩:=h.2.1.find hn
  obtain ⟨s',y,e,hF,h1,h2,h3,h4⟩:=Z.fLook h.1.1 h.2.2 hf hx hw
  obtain ⟨_,_,_,_,_,_,_,_,h5,h6,_,_⟩:=G.look h.1.1 hb e
  refine ⟨s',by rw [e,ho,h.2.1.rows];rfl,⟨h6,h.1.2.sub h5⟩,?_,hF⟩
  have:=h.2.1.upd (s':=s') (x:=y) (G.ok h.1.1).ids hf h1 h2 h3
  rw [h4,ho] at this;exact this
 frCom:=fun {s ids n own rs c k b} h hb hn hl hc=>by
  obtain ⟨e,hS,h2⟩:=h.2.1.com h.1.1 hn hl hc (fun t hf=>Z.fChk h.1.1 h.2.2 hf)
  refine ⟨e,fun hid=>?_⟩
  obtain ⟨h3,h4⟩:=h2 hid
  refine ⟨h3,fun m=>⟨⟨G.com h.1.1 hb n,fun t ht=>by rw [ZaZ_ h.1.1] at ht;exact h.1.2 t (Z8'.mem ht)⟩,h4 m,?_⟩⟩
  rw [hS]
  refine (Z.fEnd h.1.1 h.2.2 ?_).2 own m
  have:=(h4 m).ids
  rw [List.map_eq_nil_iff,ZaZ_ h.1.1] at this;exact this
 frAbo:=fun {s ids n own rs c k b} h hn=>by
  obtain ⟨e,h2⟩:=h.2.1.abo h.1.1 hn
  refine ⟨e,fun hid=>⟨k,Nat.le_refl _,fun m=>⟨⟨ZjG_ G h.1.1 n,fun t ht=>by rw [Za0_ h.1.1] at ht;exact h.1.2 t (Z8'.mem ht)⟩,h2 hid m,?_⟩⟩⟩
  have hd:=(h2 hid m).ids
  rw [List.map_eq_nil_iff,Za0_ h.1.1] at hd
  obtain ⟨t,hf,_⟩:=h.2.1.find hn
  have hS:aboS I s n=I.ends s n:=by simp [aboS,hf]
  rw [hS]
  exact (Z.fEnd h.1.1 h.2.2 hd).1 m
 frAbE:=fun {s ids n own rs c k b j} h hj=>by
  obtain ⟨t,ht⟩:=Zha_ (ts:=s.txs) (n:=j) (by rw [h.2.1.ids];exact hj)
  simp [aboE,ht]
theorem Zok_ {s s':StV} {n:UInt32} {x:OpM} {e:Nat} (h:doA s n x=.err s' e):e≠10:=by
 unfold doA at h
 split at h
 ·split at h
  ·cases h;decide
  ·split at h
   ·split at h
    ·cases h;decide
    ·cases h;decide
   ·split at h <;> cases h
 ·cases h;decide
noncomputable def Zkv_:FrK Zn6_ where
 first:=ZjQ_
 bad:=fun hx=>by show doA _ _ _=_;unfold doA;rw [hx];rfl
 none:=fun hf hx=>by show doA _ _ _=_;unfold doA;rw [hx,hf];rfl
 F:=fun s n=>∀ e ∈ s.locks,e.1=n
 fFirst:=fun n e he=>by cases he
 fBeg:=fun {s b n j} h hF hE q=>by rw [begS,if_pos hE];exact hF
 fPut:=fun {s b n t x} h hF hf hx hw=>by
  have hwy:=ZgZ_ hF (Zi' x) (Zp' x)
  refine ⟨{ s with locks:=lkS s n (Zi' x) (Zp' x),txs:=setU s.txs n { t.x with own:=t.x.own++[Z4' x],waits:=[] } },_,?_,?_,rfl,rfl,rfl,rfl⟩
  ·show doA _ _ _=_
   unfold doA;rw [hx,hf];simp only [if_true,hwy];simp [hw,lkS]
  ·intro e he
   have he:e ∈ lkS s n (Zi' x) (Zp' x):=he
   unfold lkS at he
   split at he
   ·rcases (Zaj_ s.locks n (askL ((getS s.locks n).getD []) (Zi' x) (Zp' x)) e.1).1 (List.mem_map.2 ⟨e,he,rfl⟩) with h1 | h1
    ·exact h1
    ·obtain ⟨e',he',h2⟩:=List.mem_map.1 h1
     rw [← h2];exact hF e' he'
   ·exact hF e he
 fLook:=fun {s b n t x} h hF hf hx hw=>by
  have hwy:=ZgZ_ hF (Zi' x) (Zp' x)
  refine ⟨{ s with locks:=lkS s n (Zi' x) (Zp' x),txs:=setU s.txs n { t.x with waits:=[] } },_,?_,?_,rfl,rfl,rfl,rfl⟩
  ·show doA _ _ _=_
   unfold doA;rw [hx,hf];simp only [if_true,hwy];simp [hw,lkS]
  ·intro e he
   have he:e ∈ lkS s n (Zi' x) (Zp' x):=he
   unfold lkS at he
   split at he
   ·rcases (Zaj_ s.locks n (askL ((getS s.locks n).getD []) (Zi' x) (Zp' x)) e.1).1 (List.mem_map.2 ⟨e,he,rfl⟩) with h1 | h1
    ·exact h1
    ·obtain ⟨e',he',h2⟩:=List.mem_map.1 h1
     rw [← h2];exact hF e' he'
   ·exact hF e he
 fChk:=fun _ _ _=>rfl
 fEnd:=fun {s b n} h hF hd=>by
  have hno:Xn' s.locks n=[]:=by
   rw [List.eq_nil_iff_forall_not_mem]
   intro e he
   have hnd:((Xn' s.locks n).map (·.1)).Nodup:=h.keys.sublist (List.eraseP_sublist.map _)
   have h1:=Zbt_ hnd he
   rw [VY' h.keys,if_pos (hF e (List.eraseP_sublist.mem he))] at h1
   cases h1
  exact ⟨fun m e he=>(by have he:e ∈ Xn' s.locks n:=he;rw [hno] at he;cases he),fun own m e he=>by have he:e ∈ Xn' s.locks n:=he;rw [hno] at he;cases he⟩
 e10:=Zok_
theorem Zol_ {s s':StV} {n:UInt32} {x:OpM} {e:Nat} (h:doB s n x=.err s' e):e≠10:=by
 unfold doB at h
 split at h
 ·split at h
  ·cases h;decide
  ·split at h <;> cases h
 ·cases h;decide
noncomputable def ZmF_:FrK YC' where
 first:=ZdD_
 bad:=fun hx=>by show doB _ _ _=_;unfold doB;rw [hx];rfl
 none:=fun hf hx=>by show doB _ _ _=_;unfold doB;rw [hx,hf];rfl
 F:=fun s n=>∀ t ∈ s.txs,t.x.at_.toNat=s.H.length
 fFirst:=fun n t ht=>by cases ht
 fBeg:=fun {s b n j} h hF hE q=>by
  rw [begS,if_pos hE]
  intro t ht
  rcases List.mem_append.1 ht with ht | ht
  ·exact hF t ht
  ·obtain rfl:=List.mem_singleton.1 ht
   exact Vf' h.st
 fPut:=fun {s b n t x} h hF hf hx hw=>by
  refine ⟨{ s with txs:=setU s.txs n { t.x with own:=t.x.own++[Z4' x] } },_,?_,?_,rfl,rfl,rfl,rfl⟩
  ·show doB _ _ _=_
   simp [doB,hx,hf,hw]
  ·intro u hu
   rcases Xg' hu with ⟨v,hv,hvi,rfl⟩ | ⟨hu,_⟩
   ·exact hF t (ZI' hf)
   ·exact hF u hu
 fLook:=fun {s b n t x} h hF hf hx hw=>by
  refine ⟨{ s with txs:=setU s.txs n { t.x with looked:=t.x.looked++[Zi' x] } },_,?_,?_,rfl,rfl,rfl,rfl⟩
  ·show doB _ _ _=_
   have:=hF t (ZI' hf)
   simp [doB,hx,hf,hw,this,StV.rows]
  ·intro u hu
   rcases Xg' hu with ⟨v,hv,hvi,rfl⟩ | ⟨hu,_⟩
   ·exact hF t (ZI' hf)
   ·exact hF u hu
 fChk:=fun {s b n t} h hF hf=>by
  show chkB s t.x=false
  unfold chkB
  rw [List.any_eq_false]
  intro p _
  rw [hF t (ZI' hf)]
  simp [JQ']
 fEnd:=fun {s b n} h hF hd=>⟨fun m t ht=>(by have ht:t ∈ delU s.txs n:=ht;rw [hd] at ht;cases ht),fun own m t ht=>by have ht:t ∈ delU s.txs n:=ht;rw [hd] at ht;cases ht⟩
 e10:=Zol_
noncomputable def KE':EngM:=engS Zkv_
noncomputable def Yk':EngM:=engS ZmF_
end Go.SL
