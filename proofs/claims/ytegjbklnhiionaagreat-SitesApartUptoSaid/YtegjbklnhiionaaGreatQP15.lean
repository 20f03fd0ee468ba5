import Derived.Test.YtegjbklnhiionaaGreatQP14
set_option linter.unusedSimpArgs false
set_option linter.unusedVariables false
namespace Go.SL.Fc
open Go Go.Proofs Go.SL
theorem a138:ZK' Tryz.prog 138=some none:=by kernel_rfl
theorem a26:ZK' Tryz.prog 26=some (some 4):=by kernel_rfl
theorem a40:ZK' Tryz.prog 40=some (some 1):=by kernel_rfl
theorem XN':ZO' Tryz.prog 269 0=some 0:=by kernel_rfl
theorem k14:Zh' Tryz.prog 14=true:=by kernel_rfl
theorem k165:Zh' Tryz.prog 165=true:=by kernel_rfl
theorem k166:Zh' Tryz.prog 166=true:=by kernel_rfl
theorem k167:Zh' Tryz.prog 167=true:=by kernel_rfl
theorem k168:Zh' Tryz.prog 168=true:=by kernel_rfl
theorem k169:Zh' Tryz.prog 169=true:=by kernel_rfl
theorem k170:Zh' Tryz.prog 170=true:=by kernel_rfl
theorem k184:Zh' Tryz.prog 184=true:=by kernel_rfl
theorem k59:Zh' Tryz.prog 59=true:=by kernel_rfl
theorem p179:Ya' Tryz.prog 179=some [(0,1),(1,1),(2,1)]:=by kernel_rfl
theorem p40:Ya' Tryz.prog 40=some [(0,1)]:=by kernel_rfl
theorem s138:szOf Tryz.prog 138=some 1:=by kernel_rfl
theorem s40:szOf Tryz.prog 40=some 1:=by kernel_rfl
theorem z40:ZH' Tryz.prog 40=some [.slice none 0 0]:=by kernel_rfl
end Go.SL.Fc
namespace Go.SL
open Go Go.Proofs Fc
theorem Zcw_ {g:World} {A:HP} {p mp q:Nat} {l:List RowM} {cs:List ChgM} {u v1 v3 v4 v5 v6:Value} (hA:RL A 3 ChgM.c u cs) (hl:ZC' l) (hn:l.length+cs.length≤68719476000) (hok:cs.any (fun c=>!ZR' c)=false):Spec Tryz.prog g 169 [.pointer (some ⟨p,0,none⟩),.pointer (some ⟨q,0,none⟩)] [cl p 136 [v1,.pointer (some ⟨mp,0,none⟩),v3,v4,v5],Mm mp l,cl q 269 [u,v6],A] fun K R=>(cs=[]→K (.pointer (some ⟨mp,0,none⟩)) (cl p 136 [v1,.pointer (some ⟨mp,0,none⟩),v3,v4,v5]::Mm mp l::cl q 269 [u,v6]::A::R))∧(cs≠[]→∀ z,K (.pointer (some ⟨z,0,none⟩)) (Mm z (Zw' l cs)::cl p 136 [v1,.pointer (some ⟨mp,0,none⟩),v3,v4,v5]::Mm mp l::cl q 269 [u,v6]::A::R)):=by
 refine Spec.intro Tryz.func169 rfl Tryz.ntmps169 rfl fun R K hK=>?_
 refine WP.seq<|WP.reg<|WL.e Zb'<|WL.next<|WP.seq<|WP.reg<|WL.e Za'<|WL.e Zk'<|WL.e (e_fa Zcr_)<|WL.e (Zc' a130)<|WL.e Zb'<|WL.next<|WP.seq<|WP.seq<|WP.reg<|WL.e Za'<|WL.e Zk'<|WL.e (e_fa XN')<|WL.e (Zc' a138)<|WL.e (ZD' (xs:=cs) Yw' hA)<|WL.e YY'<|WL.next ?_
 refine WP.cond rfl (fun h1=>?_) (fun h1=>?_)
 ·have hne:cs≠[]:=by rintro rfl;simp at h1
  refine WP.seq<|WP.reg<|WL.e Za' ?_
  refine WL.h (Zg' (Zdo_ (l:=l) (by omega)) k184 ?_)
  intro q2
  refine WL.e Zb'<|WL.next<|WP.reg<|WL.e Za'<|WL.e Za'<|WL.e Zk'<|WL.e (e_fa XN')<|WL.e (Zc' a138) ?_
  refine WL.h (Zg' (Kw' hA hl (by omega)) k59 ?_)
  refine ⟨fun hb=>absurd hb (by rw [hok];simp),fun _=>?_⟩
  refine WL.next<|WP.seq<|WP.reg<|WL.e Za'<|WL.e Zb'<|WL.next<|WP.ret ?_
  exact PO.fin Tryz.results169 (Zd' Zf') (hK.2 hne q2)
 ·have hne:cs=[]:=by cases cs with
   | nil=>rfl
   | cons c cs=>simp at h1
  refine WP.skip<|PO.next<|WP.seq<|WP.reg<|WL.e Za'<|WL.e Zb'<|WL.next<|WP.ret ?_
  exact PO.fin Tryz.results169 (Zd' Zf') (hK.1 hne)
set_option maxHeartbeats 4000000 in
theorem ZlQ_ {g:World} {p dp b:Nat} {s:StV} (n:UInt32) (x:OpM) (hs:AlphaOk s b):Spec Tryz.prog g 157 [.pointer (some ⟨p,0,none⟩),.int .u32 n.toNat,x.v] [As p dp s,TxsU TPA s.txs] fun K R=>match doA s n x with
   | .err s' e=>K (.tuple #[.agg #[.slice none 0 0],.int .i64 e]) (As p dp s'::TxsU TPA s'.txs::R)
   | .put s'=>K (.tuple #[.agg #[.slice none 0 0],.int .i64 0]) (As p dp s'::TxsU TPA s'.txs::R)
   | .look s' rows=>∀ a m c,K (.tuple #[.agg #[.slice a m c],.int .i64 0]) (Sl 105 2 RowM.c (.slice a m c) rows::As p dp s'::TxsU TPA s'.txs::R):=by
 refine Spec.intro Tryz.func157 rfl Tryz.ntmps157 rfl fun R K hK=>?_
 refine WP.seq<|WP.reg ?_
 refine WL.h (ZL' fun b1=>?_)
 refine WL.h (Zu' z40 fun b2=>?_)
 refine WL.e Zb'<|WL.next<|WP.seq<|WP.block<|WP.seq<|WP.reg<|WL.e Za' ?_
 refine WL.h (Zg' (Ky') k161 ?_)
 refine WL.e Zx'<|WL.e Zb'<|WL.next<|WP.cond_f rfl<|WP.seq<|WP.reg<|WL.e (Zm' a26) ?_
 refine WL.h (Zg' (Vt' _) k165 ?_)
 refine WL.e Zx'<|WL.e Zb'<|WL.next ?_
 refine WP.cond rfl (fun h1=>?_) (fun h1=>?_)
 ·replace h1:opOk x=false:=by simpa using h1
  rw [show doA s n x=.err s 1 by simp [doA,h1]] at hK
  refine WP.seq<|WP.reg<|WL.e (Zv' z40 p40 (.z (.slice none 0 0)<|.n)) ?_
  refine WL.h' (Zj' s40 ?_)
  refine WL.e Zb'<|WL.next<|WP.ret<|PO.blockR<|PO.past nofun ?_
  exact PO.fin Tryz.results157 (ZB' a40 (Zd' Zf')) hK
 ·replace h1:opOk x=true:=by simpa using h1
  refine WP.opn (Qc' (p:=p) (dp:=dp) (s:=s)) fun x=>?_
  obtain ⟨lp,mp,kp,mb⟩:=x
  dsimp only
  refine WP.skip<|PO.blockN<|PO.next<|WP.seq<|WP.reg<|WL.e Za'<|WL.e Zk'<|WL.e (e_fa Ka')<|WL.e (Zc' a132)<|WL.e Za'<|WL.e (JV' (n:=n) (ts:=s.txs) Tryz.underlying132 (ZQ' Tryz.underlying24) Zcu_)<|WL.e Zb'<|WL.next<|WP.seq<|WP.seq<|WP.reg<|WL.e Za'<|WL.e (JW' Zct_)<|WL.next ?_
  refine WP.cond rfl (fun h2=>?_) (fun h2=>?_)
  ·have hf:Zs' s.txs n=none:=by simpa using h2
   rw [show doA s n x=.err s 6 by simp [doA,h1,hf]] at hK
   refine WP.seq<|WP.reg<|WL.e (Zv' z40 p40 (.z (.slice none 0 0)<|.n)) ?_
   refine WL.h' (Zj' s40 ?_)
   refine WL.e Zb'<|WL.next<|WP.ret<|PO.past nofun<|PO.cls (A:=As p dp (s)) (B:=[cl p 136 [.pointer (some ⟨lp,0,none⟩),.pointer (some ⟨mp,0,none⟩),.int .u32 (UInt32.ofNat s.H.length).toNat,.map (some mb),.pointer (some ⟨kp,0,none⟩)],cl lp 166 [.pointer (some ⟨dp,0,none⟩),.int .i64 s.at_],Dk dp s.d,Mm mp s.rows,Mp eU32 (.map (some mb)) (List.map kvU s.txs),Lk kp s.locks]) (fun S h=>⟨(lp,mp,kp,mb),h⟩) ?_
   exact PO.fin Tryz.results157 (ZB' a40 (Zd' Zf')) hK
  ·obtain ⟨t,hf⟩:∃ t,Zs' s.txs n=some t:=by cases e:Zs' s.txs n with
    | none=>rw [e] at h2;cases h2
    | some t=>exact ⟨t,rfl⟩
   rw [hf,Option.map_some]
   obtain ⟨hid,A,B,hts,hdel,_⟩:=Yc' hf
   have hol:=hs.st.own_le (ZI' hf)
   have hrl:=hs.st.rows_le
   have hbb:=hs.st.bb
   have htot:=hs.tot
   have hn0:n≠0:=hid ▸ hs.nz t (ZI' hf)
   have hok:t.x.own.any (fun c=>!ZR' c)=false:=List.any_eq_false.2 fun c hc=>by simp [hs.st.own t (ZI' hf) c hc]
   have hset:∀ y,setU s.txs n y=A++{ t with x:=y }::B:=fun y=>by rw [← hid,hts];exact Vy' (hts ▸ hs.st.ids) y
   have hs0:=hs.waitsS hf [] (Nat.zero_le _)
   rw [hset] at hs0
   refine WP.opn (Y5' (TP:=TPA) hts) fun _=>?_
   refine WP.opn (ZaV_ (t:=t)) fun x=>?_
   obtain ⟨s1,s2⟩:=x
   dsimp only
   refine WP.skip<|PO.next<|WP.seq<|WP.reg<|WL.e Za'<|WL.e Zk'<|WL.e (e_fa Zfk_) ?_
   refine WL.h' (Zj' s36 ?_)
   refine WL.next<|WP.seq<|WP.seq<|WP.reg<|WL.e (Zm' a26) ?_
   refine WL.h (Zg' (Kk' _) k14 ?_)
   refine WL.h (Zu' z45 fun b3=>?_)
   refine WL.h' (Zj' s45 ?_)
   refine WL.next<|WP.seq<|WP.reg<|WL.e (Zm' a45)<|WL.e (Zm' a45) ?_
   refine WL.h (Zg' (Y8' ⟨_,_⟩ ⟨_,_⟩) k30 ?_)
   refine WL.next ?_
   refine WP.cond rfl (fun h3=>?_) (fun h3=>?_)
   ·replace h3:meet (Zi' x) (Zi' x)=true:=h3
    refine WP.seq<|WP.draws Zq' 14<|RW.e 0 rfl Za'<|RW.e 1 rfl Zk'<|RW.e 2 rfl (e_fa Zcs_)<|RW.e 3 rfl (Zc' a133)<|RW.e 4 rfl Za'<|RW.e 5 rfl (Zm' a45)<|RW.e 6 rfl (Zm' a26) ?_
    refine RW.any (is:=[7]) rfl ⟨?_,trivial⟩
    refine RWat.h rfl rfl rfl ?_
    refine (Zg' (QG' _) k167 ?_)
    refine ⟨⟨⟨_,rfl,.inl ⟨rfl,(Zm' a45)⟩⟩,⟨_,rfl,.inl ⟨rfl,Za'⟩⟩,⟨_,rfl,.inl ⟨rfl,(Zc' a133)⟩⟩,⟨_,rfl,.inl ⟨rfl,(e_fa Zcs_)⟩⟩,⟨_,rfl,.inl ⟨rfl,Zk'⟩⟩,⟨_,rfl,.inl ⟨rfl,Za'⟩⟩,trivial⟩,?_⟩
    refine RW.any (is:=[8]) rfl ⟨?_,trivial⟩
    refine RWat.h rfl rfl rfl ?_
    refine (Zg' (Zj5_ n (Zi' x) (Zp' x) hn0 h3 hs.keys (by omega)) k166 ?_)
    refine ⟨fun hw a9 k9 c9=>?_,fun hw=>?_⟩
    ·skip
     refine ⟨trivial,?_⟩
     refine RW.e 9 rfl Za'<|RW.e 10 rfl Ze'<|RW.e 11 rfl Ze'<|RW.e 12 rfl Zb'<|RW.e 13 rfl Zb'<|RW.done<|PO.next<|WP.seq<|WP.reg<|WL.e Za'<|WL.e Z2'<|WL.next<|WP.cond_t rfl<|WP.seq<|WP.seq<|WP.reg<|WL.e Za'<|WL.e Za'<|WL.e Za' ?_
     rw [show List.map kvU s.txs=List.map kvU (A++{ t with x:={ t.x with waits:=[] } }::B) by rw [hts];simp [kvU]]
     refine WL.nils 24 1 u32C none ?_
     refine WL.cls (A:=TxA_ { t with x:={ t.x with waits:=[] } }) (B:=[cl t.q 269 [s1.v,.slice none 0 0],Sl 179 3 ChgM.c s1.v t.x.own,Sl 24 1 u32C (.slice none 0 0) []]) (fun S h=>⟨(s1,⟨none,0,0⟩),h⟩) ?_
     refine WL.cls (A:=TxsU TPA (A++{ t with x:={ t.x with waits:=[] } }::B)) (B:=[TxA_ { t with x:={ t.x with waits:=[] } },TxsU TPA (A++B)]) (fun S h=>Yb' (TP:=TPA) (t:={ t with x:={ t.x with waits:=[] } }) S h) ?_
     refine WL.cls (A:=As p dp ({ s with txs:=A++{ t with x:={ t.x with waits:=[] } }::B })) (B:=[cl p 136 [.pointer (some ⟨lp,0,none⟩),.pointer (some ⟨mp,0,none⟩),.int .u32 (UInt32.ofNat s.H.length).toNat,.map (some mb),.pointer (some ⟨kp,0,none⟩)],cl lp 166 [.pointer (some ⟨dp,0,none⟩),.int .i64 s.at_],Dk dp s.d,Mm mp s.rows,Mp eU32 (.map (some mb)) (List.map kvU (A++{ t with x:={ t.x with waits:=[] } }::B)),Lk kp s.locks]) (fun S h=>⟨(lp,mp,kp,mb),h⟩) ?_
     refine WL.h (Zg' (Zj8_ (p:=p) (dp:=dp) (way:=wayL s.locks n (Zi' x) (Zp' x)) n hs0 Zr' (Nat.le_trans (ZgY_ s.locks n (Zi' x) (Zp' x)) (Nat.le_trans (Ze5_ s.locks) (by omega)))) k168 ?_)
     refine WL.next ?_
     refine WP.cond rfl (fun h5=>?_) (fun h5=>?_)
     ·replace h5:Vh' (A++{ t with x:={ t.x with waits:=[] } }::B) n (wayL s.locks n (Zi' x) (Zp' x))=true:=h5
      rw [show doA s n x=.err (Xo' { s with txs:=A++{ t with x:={ t.x with waits:=[] } }::B } n) 9 by unfold doA;rw [h1,hf];simp only [if_true,h3,hw,hset,h5,Bool.true_and,decide_true]] at hK
      refine WP.seq<|WP.reg<|WL.e Za'<|WL.e Za' ?_
      refine WL.h (Zg' (Zcv_ n) k162 ?_)
      refine WL.next<|WP.seq<|WP.reg<|WL.e (Zv' z40 p40 (.z (.slice none 0 0)<|.n)) ?_
      refine WL.h' (Zj' s40 ?_)
      refine WL.e Zb'<|WL.next<|WP.ret<|PO.past nofun<|PO.past nofun<|PO.cls (A:=TxsU TPA (delU (A++{ t with x:={ t.x with waits:=[] } }::B) n)) (B:=[TxsU TPA (A++{ t with x:={ t.x with waits:=[] } }::B)]) (fun S h=>ZbC_ (J9' h)) ?_
      exact PO.fin Tryz.results157 (ZB' a40 (Zd' Zf')) hK
     ·replace h5:Vh' (A++{ t with x:={ t.x with waits:=[] } }::B) n (wayL s.locks n (Zi' x) (Zp' x))=false:=h5
      rw [show doA s n x=.err { s with txs:=A++{ t with x:={ t.x with waits:=wayL s.locks n (Zi' x) (Zp' x) } }::B } 8 by unfold doA;rw [h1,hf];simp only [if_true,h3,hw,hset,h5,Bool.true_and,decide_true,if_false,Bool.false_eq_true]] at hK
      refine WP.opn (Y5' (TP:=TPA) (ts:=A++{ t with x:={ t.x with waits:=[] } }::B) rfl) fun _=>?_
      refine WP.opn (ZaV_ (t:={ t with x:={ t.x with waits:=[] } })) fun x=>?_
      obtain ⟨s3,s4⟩:=x
      dsimp only
      refine WP.opn (Qc' (p:=p) (dp:=dp) (s:={ s with txs:=A++{ t with x:={ t.x with waits:=[] } }::B })) fun x=>?_
      obtain ⟨lp,mp,kp,mb⟩:=x
      dsimp only
      refine WP.skip<|PO.next<|WP.seq<|WP.reg<|WL.e Za'<|WL.e Za'<|WL.e Zk'<|WL.e (e_fa Zfk_) ?_
      refine WL.h' (Zj' s36 ?_)
      refine WL.next<|WP.seq<|WP.reg<|WL.e (Zv' z40 p40 (.z (.slice none 0 0)<|.n)) ?_
      refine WL.h' (Zj' s40 ?_)
      refine WL.e Zb'<|WL.next<|WP.ret<|PO.past nofun<|PO.conv (YS' (A:=Mp eU32 (.map (some mb)) (List.map kvU (A++{ t with x:={ t.x with waits:=[] } }::B))) (B:=Mp eU32 (.map (some mb)) (List.map kvU (A++{ t with x:={ t.x with waits:=wayL s.locks n (Zi' x) (Zp' x) } }::B))) (fun S h=>by simpa [kvU] using h) (by repeat first | exact .z | apply Put.s)) ?_
      refine PO.cls (A:=TxA_ { t with x:={ t.x with waits:=wayL s.locks n (Zi' x) (Zp' x) } }) (B:=[cl t.q 269 [s3.v,.slice a9 k9 c9],Sl 179 3 ChgM.c s3.v t.x.own,Sl 24 1 u32C (.slice a9 k9 c9) (wayL s.locks n (Zi' x) (Zp' x))]) (fun S h=>⟨(s3,⟨a9,k9,c9⟩),h⟩) ?_
      refine PO.cls (A:=TxsU TPA (A++{ t with x:={ t.x with waits:=wayL s.locks n (Zi' x) (Zp' x) } }::B)) (B:=[TxA_ { t with x:={ t.x with waits:=wayL s.locks n (Zi' x) (Zp' x) } },TxsU TPA (A++B)]) (fun S h=>Yb' (TP:=TPA) (t:={ t with x:={ t.x with waits:=wayL s.locks n (Zi' x) (Zp' x) } }) S h) ?_
      refine PO.cls (A:=As p dp ({ s with txs:=A++{ t with x:={ t.x with waits:=wayL s.locks n (Zi' x) (Zp' x) } }::B })) (B:=[cl p 136 [.pointer (some ⟨lp,0,none⟩),.pointer (some ⟨mp,0,none⟩),.int .u32 (UInt32.ofNat s.H.length).toNat,.map (some mb),.pointer (some ⟨kp,0,none⟩)],cl lp 166 [.pointer (some ⟨dp,0,none⟩),.int .i64 s.at_],Dk dp s.d,Mm mp s.rows,Mp eU32 (.map (some mb)) (List.map kvU (A++{ t with x:={ t.x with waits:=wayL s.locks n (Zi' x) (Zp' x) } }::B)),Lk kp s.locks]) (fun S h=>⟨(lp,mp,kp,mb),h⟩) ?_
      exact PO.fin Tryz.results157 (ZB' a40 (Zd' Zf')) hK
    ·have hdo:doA s n x=if Zp' x then .put { s with locks:=Y2' s.locks n (Zi' x) (Zp' x),txs:=setU s.txs n { t.x with own:=t.x.own++[Z4' x],waits:=[] } } else .look { s with locks:=Y2' s.locks n (Zi' x) (Zp' x),txs:=setU s.txs n { t.x with waits:=[] } } (ZT' (Zw' s.rows t.x.own) (Zi' x) 256):=by simp [doA,h1,hf,h3,hw]
     refine ⟨trivial,?_⟩
     refine RW.e 9 rfl Za'<|RW.e 10 rfl Ze'<|RW.e 11 rfl Ze'<|RW.e 12 rfl Zb'<|RW.e 13 rfl Zb'<|RW.done<|PO.next<|WP.seq<|WP.reg<|WL.e Za'<|WL.e Z2'<|WL.next<|WP.cond_f rfl<|WP.skip<|PO.next<|WP.seq<|WP.seq<|WP.reg<|WL.e (e_fa XF')<|WL.e (Zc' a23)<|WL.next<|WP.block<|WP.seq<|WP.reg ?_
     refine WL.e (Xq' (b:=2))<|WL.e Zb'<|WL.next ?_
     refine WP.cond rfl (fun h6=>?_) (fun h6=>?_)
     ·replace h6:x.kind=2:=by simpa using h6
      have hw:Zp' x=true:=by simp [Zp',h6]
      rw [hdo,if_pos hw,hset,show Z4' x=⟨x.key,x.val,false⟩ by simp [Z4',h6]] at hK
      dsimp only at hK
      refine WP.draws Zq' 15<|RW.e 0 rfl Za'<|RW.e 1 rfl Za'<|RW.e 2 rfl Zk'<|RW.e 3 rfl (e_fa XN')<|RW.e 4 rfl (Zc' a138)<|RW.e 5 rfl (e_fa X8')<|RW.e 6 rfl (Zc' a9)<|RW.e 7 rfl (e_fa ZaK_)<|RW.e 8 rfl (Zc' a24)<|RW.e 9 rfl (Zv' z179 p179 (.o (.tmp 83) rfl<|.o (.tmp 85) rfl<|.z (.bool false)<|.n)) ?_
      refine RW.any (is:=[10]) rfl ⟨?_,trivial⟩
      refine RWat.h rfl rfl rfl ?_
      refine (h_bs Yw' z179 (.a3 (.tmp 86) rfl<|.n) fun b4=>?_)
      refine ⟨⟨⟨_,rfl,.inl ⟨rfl,(Zc' a138)⟩⟩,⟨_,rfl,.inl ⟨rfl,(e_fa XN')⟩⟩,⟨_,rfl,.inl ⟨rfl,Zk'⟩⟩,⟨_,rfl,.inl ⟨rfl,Za'⟩⟩,⟨_,rfl,.inl ⟨rfl,Za'⟩⟩,trivial⟩,?_⟩
      refine RW.any (is:=[11]) rfl ⟨?_,trivial⟩
      refine RWat.h rfl rfl rfl ?_
      refine (ZG' (xs:=t.x.own) (ys:=[⟨x.key,x.val,false⟩]) Yw' chgE z179 (Z7' chgE [⟨x.key,x.val,false⟩] rfl) (by simp;omega) (fun a5 n5 c5=>?_))
      refine ⟨⟨⟨_,rfl,.inl ⟨rfl,Za'⟩⟩,trivial⟩,?_⟩
      refine RW.e 12 rfl Zk'<|RW.e 13 rfl (e_fa XN') ?_
      refine RW.any (is:=[14]) rfl ⟨?_,trivial⟩
      refine RWat.h' rfl rfl rfl ?_
      refine (Zj' s138 ?_)
      refine ⟨trivial,?_⟩
      refine RW.done<|PO.blockN<|PO.next<|WP.seq<|WP.reg<|WL.e (Zv' z40 p40 (.z (.slice none 0 0)<|.n)) ?_
      refine WL.h' (Zj' s40 ?_)
      refine WL.e Zb'<|WL.next<|WP.ret ?_
      rw [show List.map kvU s.txs=List.map kvU (A++{ t with x:={ t.x with own:=t.x.own++[⟨x.key,x.val,false⟩],waits:=[] } }::B) by rw [hts];simp [kvU]]
      refine PO.nils 24 1 u32C none ?_
      refine PO.cls (A:=TxA_ { t with x:={ t.x with own:=t.x.own++[⟨x.key,x.val,false⟩],waits:=[] } }) (B:=[cl t.q 269 [(.slice a5 n5 c5),.slice none 0 0],Sl 179 3 ChgM.c (.slice a5 n5 c5) (t.x.own++[⟨x.key,x.val,false⟩]),Sl 24 1 u32C (.slice none 0 0) []]) (fun S h=>⟨((⟨a5,n5,c5⟩:SV),⟨none,0,0⟩),h⟩) ?_
      refine PO.cls (A:=TxsU TPA (A++{ t with x:={ t.x with own:=t.x.own++[⟨x.key,x.val,false⟩],waits:=[] } }::B)) (B:=[TxA_ { t with x:={ t.x with own:=t.x.own++[⟨x.key,x.val,false⟩],waits:=[] } },TxsU TPA (A++B)]) (fun S h=>Yb' (TP:=TPA) (t:={ t with x:={ t.x with own:=t.x.own++[⟨x.key,x.val,false⟩],waits:=[] } }) S h) ?_
      refine PO.cls (A:=As p dp ({ s with locks:=Y2' s.locks n (Zi' x) (Zp' x),txs:=A++{ t with x:={ t.x with own:=t.x.own++[⟨x.key,x.val,false⟩],waits:=[] } }::B })) (B:=[cl p 136 [.pointer (some ⟨lp,0,none⟩),.pointer (some ⟨mp,0,none⟩),.int .u32 (UInt32.ofNat s.H.length).toNat,.map (some mb),.pointer (some ⟨kp,0,none⟩)],cl lp 166 [.pointer (some ⟨dp,0,none⟩),.int .i64 s.at_],Dk dp s.d,Mm mp s.rows,Mp eU32 (.map (some mb)) (List.map kvU (A++{ t with x:={ t.x with own:=t.x.own++[⟨x.key,x.val,false⟩],waits:=[] } }::B)),Lk kp (Y2' s.locks n (Zi' x) (Zp' x))]) (fun S h=>⟨(lp,mp,kp,mb),h⟩) ?_
      exact PO.fin Tryz.results157 (ZB' a40 (Zd' Zf')) hK
     ·replace h6:x.kind≠2:=by simpa using h6
      refine WP.seq<|WP.reg<|WL.e (Xq' (b:=3))<|WL.e Zb'<|WL.next ?_
      refine WP.cond rfl (fun h7=>?_) (fun h7=>?_)
      ·replace h7:x.kind=3:=by simpa using h7
       have hw:Zp' x=true:=by simp [Zp',h7]
       rw [hdo,if_pos hw,hset,show Z4' x=⟨x.key,0,true⟩ by simp [Z4',h7]] at hK
       dsimp only at hK
       refine WP.draws Zq' 13<|RW.e 0 rfl Za'<|RW.e 1 rfl Za'<|RW.e 2 rfl Zk'<|RW.e 3 rfl (e_fa XN')<|RW.e 4 rfl (Zc' a138)<|RW.e 5 rfl (e_fa X8')<|RW.e 6 rfl (Zc' a9)<|RW.e 7 rfl (Zv' z179 p179 (.o (.tmp 99) rfl<|.z (.int .u32 0)<|.o (.const (.bool true)) rfl<|.n)) ?_
       refine RW.any (is:=[8]) rfl ⟨?_,trivial⟩
       refine RWat.h rfl rfl rfl ?_
       refine (h_bs Yw' z179 (.a3 (.tmp 100) rfl<|.n) fun b5=>?_)
       refine ⟨⟨⟨_,rfl,.inl ⟨rfl,(Zc' a138)⟩⟩,⟨_,rfl,.inl ⟨rfl,(e_fa XN')⟩⟩,⟨_,rfl,.inl ⟨rfl,Zk'⟩⟩,⟨_,rfl,.inl ⟨rfl,Za'⟩⟩,⟨_,rfl,.inl ⟨rfl,Za'⟩⟩,trivial⟩,?_⟩
       refine RW.any (is:=[9]) rfl ⟨?_,trivial⟩
       refine RWat.h rfl rfl rfl ?_
       refine (ZG' (xs:=t.x.own) (ys:=[⟨x.key,0,true⟩]) Yw' chgE z179 (Z7' chgE [⟨x.key,0,true⟩] rfl) (by simp;omega) (fun a5 n5 c5=>?_))
       refine ⟨⟨⟨_,rfl,.inl ⟨rfl,Za'⟩⟩,trivial⟩,?_⟩
       refine RW.e 10 rfl Zk'<|RW.e 11 rfl (e_fa XN') ?_
       refine RW.any (is:=[12]) rfl ⟨?_,trivial⟩
       refine RWat.h' rfl rfl rfl ?_
       refine (Zj' s138 ?_)
       refine ⟨trivial,?_⟩
       refine RW.done<|PO.blockN<|PO.next<|WP.seq<|WP.reg<|WL.e (Zv' z40 p40 (.z (.slice none 0 0)<|.n)) ?_
       refine WL.h' (Zj' s40 ?_)
       refine WL.e Zb'<|WL.next<|WP.ret ?_
       rw [show List.map kvU s.txs=List.map kvU (A++{ t with x:={ t.x with own:=t.x.own++[⟨x.key,0,true⟩],waits:=[] } }::B) by rw [hts];simp [kvU]]
       refine PO.nils 24 1 u32C none ?_
       refine PO.cls (A:=TxA_ { t with x:={ t.x with own:=t.x.own++[⟨x.key,0,true⟩],waits:=[] } }) (B:=[cl t.q 269 [(.slice a5 n5 c5),.slice none 0 0],Sl 179 3 ChgM.c (.slice a5 n5 c5) (t.x.own++[⟨x.key,0,true⟩]),Sl 24 1 u32C (.slice none 0 0) []]) (fun S h=>⟨((⟨a5,n5,c5⟩:SV),⟨none,0,0⟩),h⟩) ?_
       refine PO.cls (A:=TxsU TPA (A++{ t with x:={ t.x with own:=t.x.own++[⟨x.key,0,true⟩],waits:=[] } }::B)) (B:=[TxA_ { t with x:={ t.x with own:=t.x.own++[⟨x.key,0,true⟩],waits:=[] } },TxsU TPA (A++B)]) (fun S h=>Yb' (TP:=TPA) (t:={ t with x:={ t.x with own:=t.x.own++[⟨x.key,0,true⟩],waits:=[] } }) S h) ?_
       refine PO.cls (A:=As p dp ({ s with locks:=Y2' s.locks n (Zi' x) (Zp' x),txs:=A++{ t with x:={ t.x with own:=t.x.own++[⟨x.key,0,true⟩],waits:=[] } }::B })) (B:=[cl p 136 [.pointer (some ⟨lp,0,none⟩),.pointer (some ⟨mp,0,none⟩),.int .u32 (UInt32.ofNat s.H.length).toNat,.map (some mb),.pointer (some ⟨kp,0,none⟩)],cl lp 166 [.pointer (some ⟨dp,0,none⟩),.int .i64 s.at_],Dk dp s.d,Mm mp s.rows,Mp eU32 (.map (some mb)) (List.map kvU (A++{ t with x:={ t.x with own:=t.x.own++[⟨x.key,0,true⟩],waits:=[] } }::B)),Lk kp (Y2' s.locks n (Zi' x) (Zp' x))]) (fun S h=>⟨(lp,mp,kp,mb),h⟩) ?_
       exact PO.fin Tryz.results157 (ZB' a40 (Zd' Zf')) hK
      ·replace h7:x.kind≠3:=by simpa using h7
       have hw:Zp' x=false:=by simp [Zp',h6,h7]
       rw [hdo,if_neg (by rw [hw];decide),hset] at hK
       dsimp only at hK
       refine WP.seq<|WP.draws Zq' 9<|RW.e 0 rfl Za'<|RW.e 1 rfl Za'<|RW.e 3 rfl (Zm' a26) ?_
       refine RW.any (is:=[2]) rfl ⟨?_,trivial⟩
       refine RWat.h rfl rfl rfl ?_
       refine (Zg' (Zcw_ (p:=p) (mp:=mp) (q:=t.q) (l:=s.rows) (cs:=t.x.own) Zr' s.rising (by omega) hok) k169 ?_)
       refine ⟨fun he=>?_,fun _ z=>?_⟩
       ·rw [show Zw' s.rows t.x.own=s.rows by rw [he];rfl] at hK
        refine ⟨⟨⟨_,rfl,.inl ⟨rfl,(Zm' a26)⟩⟩,trivial⟩,?_⟩
        refine RW.any (is:=[4]) rfl ⟨?_,trivial⟩
        refine RWat.h rfl rfl rfl ?_
        refine (Zg' (Kk' _) k14 ?_)
        refine ⟨trivial,?_⟩
        refine RW.any (is:=[5]) rfl ⟨?_,trivial⟩
        refine RWat.h rfl rfl rfl ?_
        refine (Zg' (KY' (l:=s.rows) (Zi' x) 256 s.rising (by omega) (by decide)) k170 ?_)
        intro a8 m8 c8
        refine ⟨trivial,?_⟩
        refine RW.e 6 rfl (Zv' z40 p40 (.o (.tmp 73) rfl<|.n)) ?_
        refine RW.any (is:=[7]) rfl ⟨?_,trivial⟩
        refine RWat.h' rfl rfl rfl ?_
        refine (Zj' s40 ?_)
        refine ⟨trivial,?_⟩
        refine RW.e 8 rfl Zb'<|RW.done<|PO.next<|WP.ret<|PO.blockR<|PO.past nofun ?_
        rw [show List.map kvU s.txs=List.map kvU (A++{ t with x:={ t.x with own:=t.x.own,waits:=[] } }::B) by rw [hts];simp [kvU]]
        refine PO.nils 24 1 u32C none ?_
        refine PO.cls (A:=TxA_ { t with x:={ t.x with own:=t.x.own,waits:=[] } }) (B:=[cl t.q 269 [s1.v,.slice none 0 0],Sl 179 3 ChgM.c s1.v (t.x.own),Sl 24 1 u32C (.slice none 0 0) []]) (fun S h=>⟨(s1,⟨none,0,0⟩),h⟩) ?_
        refine PO.cls (A:=TxsU TPA (A++{ t with x:={ t.x with own:=t.x.own,waits:=[] } }::B)) (B:=[TxA_ { t with x:={ t.x with own:=t.x.own,waits:=[] } },TxsU TPA (A++B)]) (fun S h=>Yb' (TP:=TPA) (t:={ t with x:={ t.x with own:=t.x.own,waits:=[] } }) S h) ?_
        refine PO.cls (A:=As p dp ({ s with locks:=Y2' s.locks n (Zi' x) (Zp' x),txs:=A++{ t with x:={ t.x with own:=t.x.own,waits:=[] } }::B })) (B:=[cl p 136 [.pointer (some ⟨lp,0,none⟩),.pointer (some ⟨mp,0,none⟩),.int .u32 (UInt32.ofNat s.H.length).toNat,.map (some mb),.pointer (some ⟨kp,0,none⟩)],cl lp 166 [.pointer (some ⟨dp,0,none⟩),.int .i64 s.at_],Dk dp s.d,Mm mp s.rows,Mp eU32 (.map (some mb)) (List.map kvU (A++{ t with x:={ t.x with own:=t.x.own,waits:=[] } }::B)),Lk kp (Y2' s.locks n (Zi' x) (Zp' x))]) (fun S h=>⟨(lp,mp,kp,mb),h⟩) ?_
        exact PO.fin Tryz.results157 (ZB' a40 (Zd' Zf')) (hK a8 m8 c8)
       ·skip
        refine ⟨⟨⟨_,rfl,.inl ⟨rfl,(Zm' a26)⟩⟩,trivial⟩,?_⟩
        refine RW.any (is:=[4]) rfl ⟨?_,trivial⟩
        refine RWat.h rfl rfl rfl ?_
        refine (Zg' (Kk' _) k14 ?_)
        refine ⟨trivial,?_⟩
        refine RW.any (is:=[5]) rfl ⟨?_,trivial⟩
        refine RWat.h rfl rfl rfl ?_
        refine (Zg' (KY' (l:=Zw' s.rows t.x.own) (Zi' x) 256 (ZS' _ s.rising).1 (by have:=(ZS' t.x.own s.rising).2;omega) (by decide)) k170 ?_)
        intro a8 m8 c8
        refine ⟨trivial,?_⟩
        refine RW.e 6 rfl (Zv' z40 p40 (.o (.tmp 73) rfl<|.n)) ?_
        refine RW.any (is:=[7]) rfl ⟨?_,trivial⟩
        refine RWat.h' rfl rfl rfl ?_
        refine (Zj' s40 ?_)
        refine ⟨trivial,?_⟩
        refine RW.e 8 rfl Zb'<|RW.done<|PO.next<|WP.ret<|PO.blockR<|PO.past nofun ?_
        rw [show List.map kvU s.txs=List.map kvU (A++{ t with x:={ t.x with own:=t.x.own,waits:=[] } }::B) by rw [hts];simp [kvU]]
        refine PO.nils 24 1 u32C none ?_
        refine PO.cls (A:=TxA_ { t with x:={ t.x with own:=t.x.own,waits:=[] } }) (B:=[cl t.q 269 [s1.v,.slice none 0 0],Sl 179 3 ChgM.c s1.v (t.x.own),Sl 24 1 u32C (.slice none 0 0) []]) (fun S h=>⟨(s1,⟨none,0,0⟩),h⟩) ?_
        refine PO.cls (A:=TxsU TPA (A++{ t with x:={ t.x with own:=t.x.own,waits:=[] } }::B)) (B:=[TxA_ { t with x:={ t.x with own:=t.x.own,waits:=[] } },TxsU TPA (A++B)]) (fun S h=>Yb' (TP:=TPA) (t:={ t with x:={ t.x with own:=t.x.own,waits:=[] } }) S h) ?_
        refine PO.cls (A:=As p dp ({ s with locks:=Y2' s.locks n (Zi' x) (Zp' x),txs:=A++{ t with x:={ t.x with own:=t.x.own,waits:=[] } }::B })) (B:=[cl p 136 [.pointer (some ⟨lp,0,none⟩),.pointer (some ⟨mp,0,none⟩),.int .u32 (UInt32.ofNat s.H.length).toNat,.map (some mb),.pointer (some ⟨kp,0,none⟩)],cl lp 166 [.pointer (some ⟨dp,0,none⟩),.int .i64 s.at_],Dk dp s.d,Mm mp s.rows,Mp eU32 (.map (some mb)) (List.map kvU (A++{ t with x:={ t.x with own:=t.x.own,waits:=[] } }::B)),Lk kp (Y2' s.locks n (Zi' x) (Zp' x))]) (fun S h=>⟨(lp,mp,kp,mb),h⟩) ?_
        exact PO.fin Tryz.results157 (ZB' a40 (Zd' Zf')) (hK a8 m8 c8)
   ·replace h3:meet (Zi' x) (Zi' x)=false:=h3
    have hdo:doA s n x=if Zp' x then .put { s with locks:=s.locks,txs:=setU s.txs n { t.x with own:=t.x.own++[Z4' x],waits:=[] } } else .look { s with locks:=s.locks,txs:=setU s.txs n { t.x with waits:=[] } } (ZT' (Zw' s.rows t.x.own) (Zi' x) 256):=by simp [doA,h1,hf,h3]
    refine WP.skip<|PO.next<|WP.seq<|WP.seq<|WP.reg<|WL.e (e_fa XF')<|WL.e (Zc' a23)<|WL.next<|WP.block<|WP.seq<|WP.reg<|WL.e (Xq' (b:=2))<|WL.e Zb'<|WL.next ?_
    refine WP.cond rfl (fun h6=>?_) (fun h6=>?_)
    ·replace h6:x.kind=2:=by simpa using h6
     have hw:Zp' x=true:=by simp [Zp',h6]
     rw [hdo,if_pos hw,hset,show Z4' x=⟨x.key,x.val,false⟩ by simp [Z4',h6]] at hK
     dsimp only at hK
     refine WP.draws Zq' 15<|RW.e 0 rfl Za'<|RW.e 1 rfl Za'<|RW.e 2 rfl Zk'<|RW.e 3 rfl (e_fa XN')<|RW.e 4 rfl (Zc' a138)<|RW.e 5 rfl (e_fa X8')<|RW.e 6 rfl (Zc' a9)<|RW.e 7 rfl (e_fa ZaK_)<|RW.e 8 rfl (Zc' a24)<|RW.e 9 rfl (Zv' z179 p179 (.o (.tmp 83) rfl<|.o (.tmp 85) rfl<|.z (.bool false)<|.n)) ?_
     refine RW.any (is:=[10]) rfl ⟨?_,trivial⟩
     refine RWat.h rfl rfl rfl ?_
     refine (h_bs Yw' z179 (.a3 (.tmp 86) rfl<|.n) fun b6=>?_)
     refine ⟨⟨⟨_,rfl,.inl ⟨rfl,(Zc' a138)⟩⟩,⟨_,rfl,.inl ⟨rfl,(e_fa XN')⟩⟩,⟨_,rfl,.inl ⟨rfl,Zk'⟩⟩,⟨_,rfl,.inl ⟨rfl,Za'⟩⟩,⟨_,rfl,.inl ⟨rfl,Za'⟩⟩,trivial⟩,?_⟩
     refine RW.any (is:=[11]) rfl ⟨?_,trivial⟩
     refine RWat.h rfl rfl rfl ?_
     refine (ZG' (xs:=t.x.own) (ys:=[⟨x.key,x.val,false⟩]) Yw' chgE z179 (Z7' chgE [⟨x.key,x.val,false⟩] rfl) (by simp;omega) (fun a5 n5 c5=>?_))
     refine ⟨⟨⟨_,rfl,.inl ⟨rfl,Za'⟩⟩,trivial⟩,?_⟩
     refine RW.e 12 rfl Zk'<|RW.e 13 rfl (e_fa XN') ?_
     refine RW.any (is:=[14]) rfl ⟨?_,trivial⟩
     refine RWat.h' rfl rfl rfl ?_
     refine (Zj' s138 ?_)
     refine ⟨trivial,?_⟩
     refine RW.done<|PO.blockN<|PO.next<|WP.seq<|WP.reg<|WL.e (Zv' z40 p40 (.z (.slice none 0 0)<|.n)) ?_
     refine WL.h' (Zj' s40 ?_)
     refine WL.e Zb'<|WL.next<|WP.ret ?_
     rw [show List.map kvU s.txs=List.map kvU (A++{ t with x:={ t.x with own:=t.x.own++[⟨x.key,x.val,false⟩],waits:=[] } }::B) by rw [hts];simp [kvU]]
     refine PO.nils 24 1 u32C none ?_
     refine PO.cls (A:=TxA_ { t with x:={ t.x with own:=t.x.own++[⟨x.key,x.val,false⟩],waits:=[] } }) (B:=[cl t.q 269 [(.slice a5 n5 c5),.slice none 0 0],Sl 179 3 ChgM.c (.slice a5 n5 c5) (t.x.own++[⟨x.key,x.val,false⟩]),Sl 24 1 u32C (.slice none 0 0) []]) (fun S h=>⟨((⟨a5,n5,c5⟩:SV),⟨none,0,0⟩),h⟩) ?_
     refine PO.cls (A:=TxsU TPA (A++{ t with x:={ t.x with own:=t.x.own++[⟨x.key,x.val,false⟩],waits:=[] } }::B)) (B:=[TxA_ { t with x:={ t.x with own:=t.x.own++[⟨x.key,x.val,false⟩],waits:=[] } },TxsU TPA (A++B)]) (fun S h=>Yb' (TP:=TPA) (t:={ t with x:={ t.x with own:=t.x.own++[⟨x.key,x.val,false⟩],waits:=[] } }) S h) ?_
     refine PO.cls (A:=As p dp ({ s with locks:=s.locks,txs:=A++{ t with x:={ t.x with own:=t.x.own++[⟨x.key,x.val,false⟩],waits:=[] } }::B })) (B:=[cl p 136 [.pointer (some ⟨lp,0,none⟩),.pointer (some ⟨mp,0,none⟩),.int .u32 (UInt32.ofNat s.H.length).toNat,.map (some mb),.pointer (some ⟨kp,0,none⟩)],cl lp 166 [.pointer (some ⟨dp,0,none⟩),.int .i64 s.at_],Dk dp s.d,Mm mp s.rows,Mp eU32 (.map (some mb)) (List.map kvU (A++{ t with x:={ t.x with own:=t.x.own++[⟨x.key,x.val,false⟩],waits:=[] } }::B)),Lk kp (s.locks)]) (fun S h=>⟨(lp,mp,kp,mb),h⟩) ?_
     exact PO.fin Tryz.results157 (ZB' a40 (Zd' Zf')) hK
    ·replace h6:x.kind≠2:=by simpa using h6
     refine WP.seq<|WP.reg<|WL.e (Xq' (b:=3))<|WL.e Zb'<|WL.next ?_
     refine WP.cond rfl (fun h7=>?_) (fun h7=>?_)
     ·replace h7:x.kind=3:=by simpa using h7
      have hw:Zp' x=true:=by simp [Zp',h7]
      rw [hdo,if_pos hw,hset,show Z4' x=⟨x.key,0,true⟩ by simp [Z4',h7]] at hK
      dsimp only at hK
      refine WP.draws Zq' 13<|RW.e 0 rfl Za'<|RW.e 1 rfl Za'<|RW.e 2 rfl Zk'<|RW.e 3 rfl (e_fa XN')<|RW.e 4 rfl (Zc' a138)<|RW.e 5 rfl (e_fa X8')<|RW.e 6 rfl (Zc' a9)<|RW.e 7 rfl (Zv' z179 p179 (.o (.tmp 99) rfl<|.z (.int .u32 0)<|.o (.const (.bool true)) rfl<|.n)) ?_
      refine RW.any (is:=[8]) rfl ⟨?_,trivial⟩
      refine RWat.h rfl rfl rfl ?_
      refine (h_bs Yw' z179 (.a3 (.tmp 100) rfl<|.n) fun b7=>?_)
      refine ⟨⟨⟨_,rfl,.inl ⟨rfl,(Zc' a138)⟩⟩,⟨_,rfl,.inl ⟨rfl,(e_fa XN')⟩⟩,⟨_,rfl,.inl ⟨rfl,Zk'⟩⟩,⟨_,rfl,.inl ⟨rfl,Za'⟩⟩,⟨_,rfl,.inl ⟨rfl,Za'⟩⟩,trivial⟩,?_⟩
      refine RW.any (is:=[9]) rfl ⟨?_,trivial⟩
      refine RWat.h rfl rfl rfl ?_
      refine (ZG' (xs:=t.x.own) (ys:=[⟨x.key,0,true⟩]) Yw' chgE z179 (Z7' chgE [⟨x.key,0,true⟩] rfl) (by simp;omega) (fun a5 n5 c5=>?_))
      refine ⟨⟨⟨_,rfl,.inl ⟨rfl,Za'⟩⟩,trivial⟩,?_⟩
      refine RW.e 10 rfl Zk'<|RW.e 11 rfl (e_fa XN') ?_
      refine RW.any (is:=[12]) rfl ⟨?_,trivial⟩
      refine RWat.h' rfl rfl rfl ?_
      refine (Zj' s138 ?_)
      refine ⟨trivial,?_⟩
      refine RW.done<|PO.blockN<|PO.next<|WP.seq<|WP.reg<|WL.e (Zv' z40 p40 (.z (.slice none 0 0)<|.n)) ?_
      refine WL.h' (Zj' s40 ?_)
      refine WL.e Zb'<|WL.next<|WP.ret ?_
      rw [show List.map kvU s.txs=List.map kvU (A++{ t with x:={ t.x with own:=t.x.own++[⟨x.key,0,true⟩],waits:=[] } }::B) by rw [hts];simp [kvU]]
      refine PO.nils 24 1 u32C none ?_
      refine PO.cls (A:=TxA_ { t with x:={ t.x with own:=t.x.own++[⟨x.key,0,true⟩],waits:=[] } }) (B:=[cl t.q 269 [(.slice a5 n5 c5),.slice none 0 0],Sl 179 3 ChgM.c (.slice a5 n5 c5) (t.x.own++[⟨x.key,0,true⟩]),Sl 24 1 u32C (.slice none 0 0) []]) (fun S h=>⟨((⟨a5,n5,c5⟩:SV),⟨none,0,0⟩),h⟩) ?_
      refine PO.cls (A:=TxsU TPA (A++{ t with x:={ t.x with own:=t.x.own++[⟨x.key,0,true⟩],waits:=[] } }::B)) (B:=[TxA_ { t with x:={ t.x with own:=t.x.own++[⟨x.key,0,true⟩],waits:=[] } },TxsU TPA (A++B)]) (fun S h=>Yb' (TP:=TPA) (t:={ t with x:={ t.x with own:=t.x.own++[⟨x.key,0,true⟩],waits:=[] } }) S h) ?_
      refine PO.cls (A:=As p dp ({ s with locks:=s.locks,txs:=A++{ t with x:={ t.x with own:=t.x.own++[⟨x.key,0,true⟩],waits:=[] } }::B })) (B:=[cl p 136 [.pointer (some ⟨lp,0,none⟩),.pointer (some ⟨mp,0,none⟩),.int .u32 (UInt32.ofNat s.H.length).toNat,.map (some mb),.pointer (some ⟨kp,0,none⟩)],cl lp 166 [.pointer (some ⟨dp,0,none⟩),.int .i64 s.at_],Dk dp s.d,Mm mp s.rows,Mp eU32 (.map (some mb)) (List.map kvU (A++{ t with x:={ t.x with own:=t.x.own++[⟨x.key,0,true⟩],waits:=[] } }::B)),Lk kp (s.locks)]) (fun S h=>⟨(lp,mp,kp,mb),h⟩) ?_
      exact PO.fin Tryz.results157 (ZB' a40 (Zd' Zf')) hK
     ·replace h7:x.kind≠3:=by simpa using h7
      have hw:Zp' x=false:=by simp [Zp',h6,h7]
      rw [hdo,if_neg (by rw [hw];decide),hset] at hK
      dsimp only at hK
      refine WP.seq<|WP.draws Zq' 9<|RW.e 0 rfl Za'<|RW.e 1 rfl Za'<|RW.e 3 rfl (Zm' a26) ?_
      refine RW.any (is:=[2]) rfl ⟨?_,trivial⟩
      refine RWat.h rfl rfl rfl ?_
      refine (Zg' (Zcw_ (p:=p) (mp:=mp) (q:=t.q) (l:=s.rows) (cs:=t.x.own) Zr' s.rising (by omega) hok) k169 ?_)
      refine ⟨fun he=>?_,fun _ z=>?_⟩
      ·rw [show Zw' s.rows t.x.own=s.rows by rw [he];rfl] at hK
       refine ⟨⟨⟨_,rfl,.inl ⟨rfl,(Zm' a26)⟩⟩,trivial⟩,?_⟩
       refine RW.any (is:=[4]) rfl ⟨?_,trivial⟩
       refine RWat.h rfl rfl rfl ?_
       refine (Zg' (Kk' _) k14 ?_)
       refine ⟨trivial,?_⟩
       refine RW.any (is:=[5]) rfl ⟨?_,trivial⟩
       refine RWat.h rfl rfl rfl ?_
       refine (Zg' (KY' (l:=s.rows) (Zi' x) 256 s.rising (by omega) (by decide)) k170 ?_)
       intro a8 m8 c8
       refine ⟨trivial,?_⟩
       refine RW.e 6 rfl (Zv' z40 p40 (.o (.tmp 73) rfl<|.n)) ?_
       refine RW.any (is:=[7]) rfl ⟨?_,trivial⟩
       refine RWat.h' rfl rfl rfl ?_
       refine (Zj' s40 ?_)
       refine ⟨trivial,?_⟩
       refine RW.e 8 rfl Zb'<|RW.done<|PO.next<|WP.ret<|PO.blockR<|PO.past nofun ?_
       rw [show List.map kvU s.txs=List.map kvU (A++{ t with x:={ t.x with own:=t.x.own,waits:=[] } }::B) by rw [hts];simp [kvU]]
       refine PO.nils 24 1 u32C none ?_
       refine PO.cls (A:=TxA_ { t with x:={ t.x with own:=t.x.own,waits:=[] } }) (B:=[cl t.q 269 [s1.v,.slice none 0 0],Sl 179 3 ChgM.c s1.v (t.x.own),Sl 24 1 u32C (.slice none 0 0) []]) (fun S h=>⟨(s1,⟨none,0,0⟩),h⟩) ?_
       refine PO.cls (A:=TxsU TPA (A++{ t with x:={ t.x with own:=t.x.own,waits:=[] } }::B)) (B:=[TxA_ { t with x:={ t.x with own:=t.x.own,waits:=[] } },TxsU TPA (A++B)]) (fun S h=>Yb' (TP:=TPA) (t:={ t with x:={ t.x with own:=t.x.own,waits:=[] } }) S h) ?_
       refine PO.cls (A:=As p dp ({ s with locks:=s.locks,txs:=A++{ t with x:={ t.x with own:=t.x.own,waits:=[] } }::B })) (B:=[cl p 136 [.pointer (some ⟨lp,0,none⟩),.pointer (some ⟨mp,0,none⟩),.int .u32 (UInt32.ofNat s.H.length).toNat,.map (some mb),.pointer (some ⟨kp,0,none⟩)],cl lp 166 [.pointer (some ⟨dp,0,none⟩),.int .i64 s.at_],Dk dp s.d,Mm mp s.rows,Mp eU32 (.map (some mb)) (List.map kvU (A++{ t with x:={ t.x with own:=t.x.own,waits:=[] } }::B)),Lk kp (s.locks)]) (fun S h=>⟨(lp,mp,kp,mb),h⟩) ?_
       exact PO.fin Tryz.results157 (ZB' a40 (Zd' Zf')) (hK a8 m8 c8)
      ·skip
       refine ⟨⟨⟨_,rfl,.inl ⟨rfl,(Zm' a26)⟩⟩,trivial⟩,?_⟩
       refine RW.any (is:=[4]) rfl ⟨?_,trivial⟩
       refine RWat.h rfl rfl rfl ?_
       refine (Zg' (Kk' _) k14 ?_)
       refine ⟨trivial,?_⟩
       refine RW.any (is:=[5]) rfl ⟨?_,trivial⟩
       refine RWat.h rfl rfl rfl ?_
       refine (Zg' (KY' (l:=Zw' s.rows t.x.own) (Zi' x) 256 (ZS' _ s.rising).1 (by have:=(ZS' t.x.own s.rising).2;omega) (by decide)) k170 ?_)
       intro a8 m8 c8
       refine ⟨trivial,?_⟩
       refine RW.e 6 rfl (Zv' z40 p40 (.o (.tmp 73) rfl<|.n)) ?_
       refine RW.any (is:=[7]) rfl ⟨?_,trivial⟩
       refine RWat.h' rfl rfl rfl ?_
       refine (Zj' s40 ?_)
       refine ⟨trivial,?_⟩
       refine RW.e 8 rfl Zb'<|RW.done<|PO.next<|WP.ret<|PO.blockR<|PO.past nofun ?_
       rw [show List.map kvU s.txs=List.map kvU (A++{ t with x:={ t.x with own:=t.x.own,waits:=[] } }::B) by rw [hts];simp [kvU]]
       refine PO.nils 24 1 u32C none ?_
       refine PO.cls (A:=TxA_ { t with x:={ t.x with own:=t.x.own,waits:=[] } }) (B:=[cl t.q 269 [s1.v,.slice none 0 0],Sl 179 3 ChgM.c s1.v (t.x.own),Sl 24 1 u32C (.slice none 0 0) []]) (fun S h=>⟨(s1,⟨none,0,0⟩),h⟩) ?_
       refine PO.cls (A:=TxsU TPA (A++{ t with x:={ t.x with own:=t.x.own,waits:=[] } }::B)) (B:=[TxA_ { t with x:={ t.x with own:=t.x.own,waits:=[] } },TxsU TPA (A++B)]) (fun S h=>Yb' (TP:=TPA) (t:={ t with x:={ t.x with own:=t.x.own,waits:=[] } }) S h) ?_
       refine PO.cls (A:=As p dp ({ s with locks:=s.locks,txs:=A++{ t with x:={ t.x with own:=t.x.own,waits:=[] } }::B })) (B:=[cl p 136 [.pointer (some ⟨lp,0,none⟩),.pointer (some ⟨mp,0,none⟩),.int .u32 (UInt32.ofNat s.H.length).toNat,.map (some mb),.pointer (some ⟨kp,0,none⟩)],cl lp 166 [.pointer (some ⟨dp,0,none⟩),.int .i64 s.at_],Dk dp s.d,Mm mp s.rows,Mp eU32 (.map (some mb)) (List.map kvU (A++{ t with x:={ t.x with own:=t.x.own,waits:=[] } }::B)),Lk kp (s.locks)]) (fun S h=>⟨(lp,mp,kp,mb),h⟩) ?_
       exact PO.fin Tryz.results157 (ZB' a40 (Zd' Zf')) (hK a8 m8 c8)
end Go.SL
namespace Go.SL.Fc
open Go Go.Proofs Go.SL
theorem Zj9_:ZO' Tryz.prog 136 0=some 0:=by kernel_rfl
theorem Zax_:ZO' Tryz.prog 136 2=some 2:=by kernel_rfl
theorem k163:Zh' Tryz.prog 163=true:=by kernel_rfl
theorem k164:Zh' Tryz.prog 164=true:=by kernel_rfl
theorem k78:Zh' Tryz.prog 78=true:=by kernel_rfl
end Go.SL.Fc
namespace Go.SL
open Go Go.Proofs Fc
theorem ZdI_:∀ (A B:List HP),Split (A++B) A B
 | [],B=>.nil
 | a::A,B=>.cons .z (ZdI_ A B)
theorem PO.finDS {P:Program} {g:World} {L:List HP} {fn:Func} {K:Value→List HP→Prop} {e:Exit} {n:Nat} {l:List (Nat × Value)} {rs:List ResultVar} {vs:List Value} {f:FuncId} {args:List Value} {Pre R:List HP} {T:(Value→List HP→Prop)→List HP→Prop} (hs:SpecD P g f args Pre T) (hf:Zh' P f=true)
  (hr:fn.results=rs.toArray) (hv:∀ M,RV P g ⟨n,[],l⟩ M rs vs) (hK:T (fun _ M=>K (JA' vs) M) R)
  (hL:Sub L (Pre++R):=by repeat first | exact .refl | exact Pick.z | apply Pick.s | apply Sub.cons | apply Sub.drop) (he:e=.ret∨e=.normal:=by first | exact .inl rfl | exact .inr rfl):PO g (RP P g fn K) e ⟨n,[dfr f args],l⟩ L:=by
 have h:PO g (RP P g fn K) e ⟨n,[dfr f args],l⟩ (Pre++R):=PO.finD hs hf hr hv hK ?hL he
 case hL=>exact ZdI_ Pre R
 exact fun a w ha hw=>h a w ha (hw.conv fun _=>hL.to)
set_option maxHeartbeats 4000000 in
theorem Zfm_ {g:World} {p dp b:Nat} {s:StV} (n:UInt32) (hs:AlphaOk s b) (hb1:b+1≤1000000000):Spec Tryz.prog g 156 [.pointer (some ⟨p,0,none⟩),.int .u32 n.toNat] [As p dp s,TxsU TPA s.txs] fun K R=>K (.tuple #[.int .u32 (comN YH' s n).toNat,.int .i64 (comE YH' s n)]) (As p dp (comS YH' s n)::TxsU TPA (comS YH' s n).txs::R):=by
 refine Spec.intro Tryz.func156 rfl Tryz.ntmps156 rfl fun R K hK=>?_
 refine WP.seq<|WP.reg<|WL.e Zb'<|WL.e Zb'<|WL.next<|WP.seq<|WP.seq<|WP.reg<|WL.e Za' ?_
 refine WL.h (Zg' (Ky') k161 ?_)
 refine WL.e Zx'<|WL.next<|WP.cond_f rfl<|WP.opn (Qc' (p:=p) (dp:=dp) (s:=s)) fun x=>?_
 obtain ⟨lp,mp,kp,mb⟩:=x
 dsimp only
 refine WP.skip<|PO.next<|WP.seq<|WP.reg<|WL.e Za'<|WL.e Zk'<|WL.e (e_fa Ka')<|WL.e (Zc' a132)<|WL.e Za'<|WL.e (JV' (n:=n) (ts:=s.txs) Tryz.underlying132 (ZQ' Tryz.underlying24) Zcu_)<|WL.e Zb'<|WL.next<|WP.seq<|WP.seq<|WP.reg<|WL.e Za'<|WL.e (JW' Zct_)<|WL.next ?_
 refine WP.cond rfl (fun h2=>?_) (fun h2=>?_)
 ·have hf:Zs' s.txs n=none:=by simpa using h2
  rw [show comE YH' s n=6 by simp [comE,hf],show comN YH' s n=0 by simp [comN,comE,hf],show comS YH' s n=s by simp [comS,hf]] at hK
  refine WP.seq<|WP.reg<|WL.e Zb'<|WL.e Zb'<|WL.next<|WP.ret<|PO.past nofun<|PO.cls (A:=As p dp (s)) (B:=[cl p 136 [.pointer (some ⟨lp,0,none⟩),.pointer (some ⟨mp,0,none⟩),.int .u32 (UInt32.ofNat s.H.length).toNat,.map (some mb),.pointer (some ⟨kp,0,none⟩)],cl lp 166 [.pointer (some ⟨dp,0,none⟩),.int .i64 s.at_],Dk dp s.d,Mm mp s.rows,Mp eU32 (.map (some mb)) (List.map kvU s.txs),Lk kp s.locks]) (fun S h=>⟨(lp,mp,kp,mb),h⟩) ?_
  exact PO.fin Tryz.results156 (Zd' (Zd' Zf')) hK
 ·obtain ⟨t,hf⟩:∃ t,Zs' s.txs n=some t:=by cases e:Zs' s.txs n with
   | none=>rw [e] at h2;cases h2
   | some t=>exact ⟨t,rfl⟩
  rw [hf,Option.map_some]
  obtain ⟨hid,A,B,hts,hdel,_⟩:=Yc' hf
  refine WP.opn (Y5' (TP:=TPA) hts) fun _=>?_
  refine WP.opn (ZaV_ (t:=t)) fun x=>?_
  obtain ⟨s1,s2⟩:=x
  dsimp only
  rw [← hdel]
  have hck:YH'.chk s t.x=false:=rfl
  have hol:=hs.st.own_le (ZI' hf)
  have hrw:=hs.st.rows_le
  have hbb:=hs.st.bb
  have hhl:=hs.st.hl
  have hcl:=XK' t.x.own
  have hok:=hs.st.own t (ZI' hf)
  have hcl2:=hcl.2 hok
  have hall:t.x.own.all ZR'=true:=List.all_eq_true.2 hok
  have hany:t.x.own.any (fun c=>!ZR' c)=false:=List.any_eq_false.2 fun c hc=>by simp [hok c hc]
  have hrl:=K0' t.x.own
  have hdk:=hs.st.log
  refine WP.skip<|PO.next<|WP.seq<|WP.reg<|WL.e Za'<|WL.e Za'<|WL.defer<|WL.next<|WP.seq<|WP.reg<|WL.e Za'<|WL.e Zk'<|WL.e (e_fa XN')<|WL.e (Zc' a138) ?_
  refine WL.h (Zg' (JY' (u:=s1.v) (Zr' (xs:=t.x.own)) (by omega) (by omega)) k78 ?_)
  refine ⟨fun hb=>absurd hb (by rw [hall];simp),fun _ hle=>?_,fun _ hle a3 n3 c3=>?_⟩
  ·have hnf:¬ Y1' s t.x:=Zat_ hle
   rw [show comE YH' s n=5 by simp [comE,hf,hck,hnf],show comN YH' s n=0 by simp [comN,comE,hf,hck,hnf],show comS YH' s n=Xo' s n by simp only [comS,hf,hck,hnf,if_false,Bool.false_eq_true];rfl] at hK
   refine WL.e Za'<|WL.e Ze'<|WL.e Ze'<|WL.e Zb'<|WL.e Zb'<|WL.next<|WP.seq<|WP.seq<|WP.reg<|WL.e Za'<|WL.e Z2'<|WL.e Za' ?_
   refine WL.bool 32 rfl (fun hg=>?_) (fun hg=>?_)
   ·skip
    refine WL.skip<|WL.skip<|WL.skip<|WL.skip<|WL.skip<|WL.skip<|WL.skip<|WL.e Zn'<|WL.next<|WP.cond_t rfl<|WP.seq<|WP.reg<|WL.e Zb'<|WL.e Zb'<|WL.next<|WP.ret<|PO.past nofun<|PO.cls (A:=As p dp (s)) (B:=[cl p 136 [.pointer (some ⟨lp,0,none⟩),.pointer (some ⟨mp,0,none⟩),.int .u32 (UInt32.ofNat s.H.length).toNat,.map (some mb),.pointer (some ⟨kp,0,none⟩)],cl lp 166 [.pointer (some ⟨dp,0,none⟩),.int .i64 s.at_],Dk dp s.d,Mm mp s.rows,Mp eU32 (.map (some mb)) (List.map kvU s.txs),Lk kp s.locks]) (fun S h=>⟨(lp,mp,kp,mb),h⟩) ?_
    exact PO.finDS (QL' n) k162 Tryz.results156 (fun M=>(Zd' (Zd' Zf'))) hK
   ·exact absurd hg (by decide) 
  ·skip
   refine WL.e Za'<|WL.e Ze'<|WL.e Ze'<|WL.e Zb'<|WL.e Zb'<|WL.next<|WP.seq<|WP.seq<|WP.reg<|WL.e Za'<|WL.e Z2'<|WL.e Za' ?_
   refine WL.bool 32 rfl (fun hg=>?_) (fun hg=>?_)
   ·exact absurd hg (by decide) 
   ·skip
    refine WL.e Za'<|WL.e Zk'<|WL.e (e_fa Zj9_)<|WL.e (Zc' a126)<|WL.e Za' ?_
    refine WL.h (Zg' (Zbr_ (i:=s.at_) (d:=s.d) (Zr' (xs:=Yn' t.x.own)) hdk.ok (by have:=hdk.le;have:=hdk.len;omega) (by rw [hdk.waits];simp)) k163 ?_)
    refine ⟨fun h=>?_,fun h h'=>?_,fun h h'=>?_⟩
    ·have hnf:¬ Y1' s t.x:=fun hf=>absurd hf.1 (by omega)
     rw [show comE YH' s n=5 by simp [comE,hf,hck,hnf],show comN YH' s n=0 by simp [comN,comE,hf,hck,hnf],show comS YH' s n=Xo' s n by simp only [comS,hf,hck,hnf,if_false,Bool.false_eq_true];rfl] at hK
     refine WL.e Z2'<|WL.e Zl'<|WL.next<|WP.cond_t rfl<|WP.seq<|WP.reg<|WL.e Zb'<|WL.e Zb'<|WL.next<|WP.ret<|PO.past nofun<|PO.cls (A:=As p dp (s)) (B:=[cl p 136 [.pointer (some ⟨lp,0,none⟩),.pointer (some ⟨mp,0,none⟩),.int .u32 (UInt32.ofNat s.H.length).toNat,.map (some mb),.pointer (some ⟨kp,0,none⟩)],cl lp 166 [.pointer (some ⟨dp,0,none⟩),.int .i64 s.at_],Dk dp s.d,Mm mp s.rows,Mp eU32 (.map (some mb)) (List.map kvU s.txs),Lk kp s.locks]) (fun S h=>⟨(lp,mp,kp,mb),h⟩) ?_
     exact PO.finDS (QL' n) k162 Tryz.results156 (fun M=>(Zd' (Zd' Zf'))) hK
    ·have hnf:¬ Y1' s t.x:=fun hf=>absurd hf.2 (by omega)
     rw [show comE YH' s n=5 by simp [comE,hf,hck,hnf],show comN YH' s n=0 by simp [comN,comE,hf,hck,hnf],show comS YH' s n=Xo' s n by simp only [comS,hf,hck,hnf,if_false,Bool.false_eq_true];rfl] at hK
     refine WL.e Z2'<|WL.e Zl'<|WL.next<|WP.cond_t rfl<|WP.seq<|WP.reg<|WL.e Zb'<|WL.e Zb'<|WL.next<|WP.ret<|PO.past nofun<|PO.cls (A:=As p dp (s)) (B:=[cl p 136 [.pointer (some ⟨lp,0,none⟩),.pointer (some ⟨mp,0,none⟩),.int .u32 (UInt32.ofNat s.H.length).toNat,.map (some mb),.pointer (some ⟨kp,0,none⟩)],cl lp 166 [.pointer (some ⟨dp,0,none⟩),.int .i64 s.at_],Dk dp s.d,Mm mp s.rows,Mp eU32 (.map (some mb)) (List.map kvU s.txs),Lk kp s.locks]) (fun S h=>⟨(lp,mp,kp,mb),h⟩) ?_
     exact PO.finDS (QL' n) k162 Tryz.results156 (fun M=>(Zd' (Zd' Zf'))) hK
    ·have hfit:Y1' s t.x:=⟨h,h'⟩
     refine WL.e Z2'<|WL.e Zl'<|WL.next<|WP.cond_f rfl<|WP.skip<|PO.next<|WP.seq<|WP.reg<|WL.e Za'<|WL.e Zk'<|WL.e (e_fa Zj9_)<|WL.e (Zc' a126) ?_
     refine WL.h (Zg' (Uv' (d:=(addW s.d s.at_ (frame (Yn' t.x.own)) (secs (Yn' t.x.own).length))) (KW' _ _ _ _ hdk.ok)) k164 ?_)
     refine WL.next<|WP.seq<|WP.draws Zq' 9<|RW.e 0 rfl Za'<|RW.e 1 rfl Zk'<|RW.e 2 rfl (e_fa Zcr_)<|RW.e 3 rfl (Zc' a130)<|RW.e 4 rfl Za'<|RW.e 5 rfl Zk'<|RW.e 6 rfl (e_fa XN')<|RW.e 7 rfl (Zc' a138) ?_
     refine RW.any (is:=[8]) rfl ⟨?_,trivial⟩
     refine RWat.h rfl rfl rfl ?_
     refine (Zg' (Kw' (l:=s.rows) (cs:=t.x.own) (Zr' (E:=179) (u:=s1.v)) s.rising (by omega)) k59 ?_)
     refine ⟨fun hb=>absurd hb (by rw [hany];simp),fun _=>?_⟩
     refine ⟨trivial,?_⟩
     refine RW.done<|PO.next<|WP.seq<|WP.reg<|WL.e Za'<|WL.e Zk'<|WL.e (e_fa Zax_)<|WL.e (Zc' a24)<|WL.e (ZaJ_ (b:=1))<|WL.e Zk'<|WL.e (e_fa Zax_) ?_
     refine WL.h' (Zj' s24 ?_)
     refine WL.next<|WP.seq<|WP.reg<|WL.e Za'<|WL.e Zk'<|WL.e (e_fa Zax_)<|WL.e (Zc' a24)<|WL.e Zb'<|WL.e Zb'<|WL.next<|WP.ret ?_
     have hln:UInt32.ofNat s.H.length+1=UInt32.ofNat (s.H++[t.x.own]).length:=by rw [List.length_append];simp [UInt32.ofNat_add]
     rw [show comE YH' s n=0 by simp [comE,hf,hck,hfit],show comN YH' s n=UInt32.ofNat s.H.length+1 by simp [comN,comE,hf,hck,hfit],show comS YH' s n=Xo' (addS s t.x.own) n by simp only [comS,hf,hck,hfit,if_true,if_false,Bool.false_eq_true];rfl] at hK
     rw [show Zw' s.rows t.x.own=(addS s t.x.own).rows from (VW' s t.x.own).symm]
     rw [hln] at hK ⊢
     refine PO.cls (A:=As p dp (addS s t.x.own)) (B:=[cl p 136 [.pointer (some ⟨lp,0,none⟩),.pointer (some ⟨mp,0,none⟩),.int .u32 (UInt32.ofNat (s.H++[t.x.own]).length).toNat,.map (some mb),.pointer (some ⟨kp,0,none⟩)],cl lp 166 [.pointer (some ⟨dp,0,none⟩),.int .i64 (s.at_+secs (Yn' t.x.own).length:Nat)],Dk dp (addW s.d s.at_ (frame (Yn' t.x.own)) (secs (Yn' t.x.own).length)).sync,Mm mp (addS s t.x.own).rows,Mp eU32 (.map (some mb)) (List.map kvU s.txs),Lk kp s.locks]) (fun S h=>⟨(lp,mp,kp,mb),h⟩) ?_
     exact PO.finDS (QL' n) k162 Tryz.results156 (fun M=>(Zd' (Zd' Zf'))) hK
end Go.SL
namespace Go.SL.Fc
open Go Go.Proofs Go.SL
theorem a180:ZK' Tryz.prog 180=some none:=by kernel_rfl
theorem a183:ZK' Tryz.prog 183=some none:=by kernel_rfl
theorem Zcx_:ZO' Tryz.prog 216 0=some 0:=by kernel_rfl
theorem Zka_:ZO' Tryz.prog 216 1=some 1:=by kernel_rfl
theorem k100:Zh' Tryz.prog 100=true:=by kernel_rfl
theorem k101:Zh' Tryz.prog 101=true:=by kernel_rfl
theorem k102:Zh' Tryz.prog 102=true:=by kernel_rfl
theorem k74:Zh' Tryz.prog 74=true:=by kernel_rfl
theorem k75:Zh' Tryz.prog 75=true:=by kernel_rfl
theorem k76:Zh' Tryz.prog 76=true:=by kernel_rfl
theorem k77:Zh' Tryz.prog 77=true:=by kernel_rfl
theorem p216:Ya' Tryz.prog 216=some [(0,1),(1,1)]:=by kernel_rfl
theorem s180:szOf Tryz.prog 180=some 1:=by kernel_rfl
theorem z180:ZH' Tryz.prog 180=some [.pointer none]:=by kernel_rfl
theorem z216:ZH' Tryz.prog 216=some [.slice none 0 0,.bool false]:=by kernel_rfl
end Go.SL.Fc
namespace Go.SL
open Go Go.Proofs Fc
theorem Zg4_ {l:List RecV} {x:RecV} (h:x ∈ l):RL (JF' l) 1 eB x.1.v x.2.1:=fun S hS=>by
 obtain ⟨T,h1,h2⟩:=ZjD_ (List.mem_map.2 ⟨x,h,rfl⟩:recR x ∈ l.map recR) S hS
 exact Zlp_ (Zr' T h2) h1
theorem ZdJ_ {g:World} {A:HP} {r:Nat} {v:SV} {xs rest:List UInt8} (n:Nat) (hn:xs.length=n) (hA:RL A 1 eB v.v (xs++rest)):Spec Tryz.prog g 102 [.pointer (some ⟨r,0,none⟩),.int .i64 n] [cl r 216 [v.v,.bool false],A] fun K R=>∀ y w:SV,RL A 1 eB y.v xs→RL A 1 eB w.v rest→K y.v (cl r 216 [w.v,.bool false]::A::R):=by
 refine Spec.intro Tryz.func102 rfl Tryz.ntmps102 rfl fun R K hK=>?_
 refine WP.seq<|WP.reg<|WL.e Zb'<|WL.next<|WP.seq<|WP.seq<|WP.reg<|WL.e Za'<|WL.e Za'<|WL.e Zk'<|WL.e (e_fa Zcx_)<|WL.e (Zc' a137)<|WL.e (ZD' Z6' hA)<|WL.e YY'<|WL.next ?_
 refine WP.cond rfl (fun h=>?_) (fun h=>?_)
 ·(rw [decide_eq_true_eq] at h;simp at h;omega)
 ·have hle:n≤(xs++rest).length:=by simp;omega
  refine WP.skip<|PO.next<|WP.seq<|WP.draws Zq' 17<|RW.e 0 rfl Za'<|RW.e 1 rfl Za'<|RW.e 2 rfl Zk'<|RW.e 3 rfl (e_fa Zcx_)<|RW.e 4 rfl (Zc' a137)<|RW.e 5 rfl Za'<|RW.e 6 rfl (VH' (hi:=n) Z6' hA hle)<|RW.e 7 rfl Za'<|RW.e 8 rfl Zk'<|RW.e 9 rfl (e_fa Zcx_)<|RW.e 10 rfl (Zc' a137)<|RW.e 11 rfl Za'<|RW.e 12 rfl (XV' (lo:=n) Z6' hA hle)<|RW.e 13 rfl Zb'<|RW.e 14 rfl Zk'<|RW.e 15 rfl (e_fa Zcx_) ?_
  refine RW.any (is:=[16]) rfl ⟨?_,trivial⟩
  refine RWat.h' rfl rfl rfl ?_
  refine (Zj' s137 ?_)
  refine ⟨trivial,?_⟩
  refine RW.done<|PO.next<|WP.seq<|WP.reg<|WL.e Za'<|WL.e Zb'<|WL.next<|WP.ret ?_
  exact PO.fin Tryz.results102 (Zd' Zf') (hK (subS v 0 n 1) (subS v n (xs++rest).length 1) (by have:=RL.to_ Yp' hA hle;rwa [List.take_left' hn] at this) (by have:=RL.from_ Yp' hA hle;rwa [List.drop_left' hn] at this))
theorem Qd' {g:World} {A:HP} {r:Nat} {v:SV} {xs rest:List UInt8} (n:Nat) (hn:xs.length=n) (hA:RL A 1 eB v.v (xs++rest)) (hb:n≤4):Spec Tryz.prog g 77 [.pointer (some ⟨r,0,none⟩),.int .i64 n] [cl r 216 [v.v,.bool false],A] fun K R=>∀ w:SV,RL A 1 eB w.v rest→K (.int .u32 (beN xs).toNat) (cl r 216 [w.v,.bool false]::A::R):=by
 refine Spec.intro Tryz.func77 rfl Tryz.ntmps77 rfl fun R K hK=>?_
 refine WP.seq<|WP.reg<|WL.e Zb'<|WL.next<|WP.seq<|WP.seq<|WP.reg<|WL.e Za'<|WL.e Za' ?_
 refine WL.h (Zg' (ZdJ_ n hn hA) k102 ?_)
 intro y w hy hw
 refine WL.e (ZD' Z6' hy)<|WL.e Za'<|WL.next<|WP.block<|WP.loopK (fun (x:Nat × UInt32)=>[(11,.int .i64 x.1),(4,.int .u32 x.2.toNat)]) (fun (x:Nat × UInt32)=>cl r 216 [w.v,.bool false]::A::R) [(9,_),(10,_)] (fun (x:Nat × UInt32)=>x.1≤xs.length∧x.2=beN (xs.take x.1)) (fun (x:Nat × UInt32)=>xs.length - x.1) (0,0) (⟨Nat.zero_le _,by simp [beN]⟩) ?_
 rintro ⟨x,m⟩ ⟨hx1,hx2⟩
 simp only at hx1 hx2
 dsimp only
 refine WP.seq<|WP.reg<|WL.e Z3'<|WL.next<|WP.seq ?_
 refine WP.cond rfl (fun h2=>?_) (fun h2=>?_)
 ·have hlt:x < xs.length:=by simp at h2;omega
  obtain ⟨c,hc⟩:∃ c,xs[x]?=some c:=⟨_,List.getElem?_eq_getElem hlt⟩
  refine WP.skip<|PO.next<|WP.seq<|WP.block<|WP.seq<|WP.reg<|WL.e (ZZ' Z6' hy hlt)<|WL.e (Ys' a5 Yp' hy hc)<|WL.e Zb'<|WL.next<|WP.reg<|WL.e Za'<|WL.e (ZgH_ (m:=8) (by decide))<|WL.e Za'<|WL.e (Zeq_ (by rw [Tryz.underlying5];rfl) Tryz.underlying24)<|WL.e Zi6_<|WL.e Zb'<|WL.nil<|PO.blockN<|PO.next<|WP.reg<|WL.e (ZE' rfl rfl (Zt' (by omega) (by omega)))<|WL.e Za'<|WL.nil ?_
  exact PO.againK (x+1,(m <<< 8) ||| c.toUInt32) ⟨by simp only;omega,by simp only;rw [ZA' hc,UG',← hx2]⟩ (by simp only;omega)
 ·obtain rfl:m=beN xs:=by rw [hx2,List.take_of_length_le (by simp at h2;omega)]
  refine WP.exit<|PO.past nofun<|PO.round nofun<|PO.blockX<|PO.next<|WP.seq<|WP.reg<|WL.e Za'<|WL.e Zb'<|WL.next<|WP.ret ?_
  exact PO.fin Tryz.results77 (Zd' Zf') (hK w hw)
theorem Zik_ {g:World} {A:HP} {r:Nat} {v:SV} {rest:List UInt8} (s:ByteArray) (hs:s.size < 256) (hA:RL A 1 eB v.v (YW' s++rest)):Spec Tryz.prog g 76 [.pointer (some ⟨r,0,none⟩)] [cl r 216 [v.v,.bool false],A] fun K R=>∀ w:SV,RL A 1 eB w.v rest→K (.string s) (cl r 216 [w.v,.bool false]::A::R):=by
 refine Spec.intro Tryz.func76 rfl Tryz.ntmps76 rfl fun R K hK=>?_
 refine WP.seq<|WP.reg<|WL.e Zb'<|WL.next<|WP.seq<|WP.reg<|WL.e Za'<|WL.e Za' ?_
 refine WL.h (Zg' (Qd' (xs:=[UInt8.ofNat s.size]) (rest:=Ki' s++rest) 1 rfl hA (by decide)) k77 ?_)
 intro w hw
 rw [Zlm_ _ hs]
 refine WL.e (Y6' (c:=(s.size:Int)) (by rw [Tryz.underlying24];rfl) Tryz.underlying3 rfl (Zt' (by omega) (by omega))) ?_
 refine WL.h (Zg' (ZdJ_ (xs:=Ki' s) (rest:=rest) s.size (YJ' s) hw) k102 ?_)
 intro y w2 hy hw2
 refine WL.e (Zht_ Tryz.underlying137 Tryz.underlying5 Tryz.underlying9 hy)<|WL.e Zb'<|WL.next<|WP.ret ?_
 rw [ZeX_]
 exact PO.fin Tryz.results76 (Zd' Zf') (hK w2 hw2)
theorem Zkb_ {g:World} {A:HP} {r:Nat} {v:SV} {rest:List UInt8} (c:ChgM) (hc:ZR' c=true) (hA:RL A 1 eB v.v (chgB c++rest)):Spec Tryz.prog g 75 [.pointer (some ⟨r,0,none⟩)] [cl r 216 [v.v,.bool false],A] fun K R=>∀ w:SV,RL A 1 eB w.v rest→K c.v (cl r 216 [w.v,.bool false]::A::R):=by
 have hks:=Zlo_ hc
 refine Spec.intro Tryz.func75 rfl Tryz.ntmps75 rfl fun R K hK=>?_
 refine WP.seq<|WP.reg ?_
 refine WL.h (Zu' z179 fun b1=>?_)
 refine WL.next<|WP.seq<|WP.reg<|WL.e Za' ?_
 refine WL.h (Zg' (Zik_ (rest:=[if c.gone then (1:UInt8) else 0]++(numB c.val 4++rest)) c.key hks (by have h0:=hA;simpa [chgB] using h0)) k76 ?_)
 intro w1 hw1
 refine WL.e (e_fa XC') ?_
 refine WL.h' (Zj' s9 ?_)
 refine WL.next<|WP.seq<|WP.reg<|WL.e Za' ?_
 refine WL.h (Zg' (Qd' (xs:=[if c.gone then (1:UInt8) else 0]) (rest:=numB c.val 4++rest) 1 rfl hw1 (by decide)) k77 ?_)
 intro w2 hw2
 refine WL.e (Jt' (b:=1))<|WL.e (e_fa QU') ?_
 refine WL.h' (Zj' s4 ?_)
 refine WL.next<|WP.seq<|WP.reg<|WL.e Za' ?_
 refine WL.h (Zg' (Qd' (xs:=numB c.val 4) (rest:=rest) 4 (Yh' _ _) hw2 (by decide)) k77 ?_)
 intro w3 hw3
 rw [ZeW_,ZjB_ c]
 refine WL.e (e_fa Y4') ?_
 refine WL.h' (Zj' s24 ?_)
 refine WL.next<|WP.seq<|WP.reg<|WL.e (Zm' a179) ?_
 refine WL.h' (Zj' s179 ?_)
 refine WL.next<|WP.ret ?_
 exact PO.fin Tryz.results75 (ZB' a179 Zf') (hK w3 hw3)
def GetJ (b4 b8 r:Nat) (y:Value):HP:=fun S=>∃ _:Unit,Zo' [cl b4 183 [y],cl b8 180 [.pointer (some ⟨r,0,none⟩)]] S
theorem Zkc_ {g:World} {A:HP} {r b4 b8:Nat} {y:Value} {v:SV} {rest:List UInt8} (h1:∀ c rest (v:SV),ZR' c=true→RL A 1 eB v.v (chgB c++rest)→CallV Tryz.prog g y [.pointer (some ⟨r,0,none⟩)] [cl r 216 [v.v,.bool false],A] fun K R=>∀ w:SV,RL A 1 eB w.v rest→K c.v (cl r 216 [w.v,.bool false]::A::R)) (c:ChgM) (hc:ZR' c=true) (hA:RL A 1 eB v.v (chgB c++rest)):Spec Tryz.prog g 101 [.pointer (some ⟨b4,0,none⟩),.pointer (some ⟨b8,0,none⟩)] [GetJ b4 b8 r y,cl r 216 [v.v,.bool false],A] fun K R=>∀ w:SV,RL A 1 eB w.v rest→K c.v (GetJ b4 b8 r y::cl r 216 [w.v,.bool false]::A::R):=by
 refine Spec.intro Tryz.func101 rfl Tryz.ntmps101 rfl fun R K hK=>?_
 refine WP.opn (B:=fun _:Unit=>[cl b4 183 [y],cl b8 180 [.pointer (some ⟨r,0,none⟩)]]) (fun _ h=>h) fun _=>?_
 refine WP.seq<|WP.reg ?_
 refine WL.h (Zu' z179 fun b1=>?_)
 refine WL.next<|WP.seq<|WP.reg<|WL.e (Zc' a183)<|WL.e (Zc' a180) ?_
 refine WL.h (YE' (h1 c rest v hc hA) ?_)
 intro w hw
 refine WL.h' (Zj' s179 ?_)
 refine WL.next<|WP.ret<|PO.cls (A:=GetJ b4 b8 r y) (B:=[cl b4 183 [y],cl b8 180 [.pointer (some ⟨r,0,none⟩)]]) (fun S h=>⟨(),h⟩) ?_
 exact PO.fin Tryz.results101 (ZB' a179 Zf') (hK w hw)
theorem Zfn_ {g:World} {A B:HP} {r:Nat} {y:Value} {v:SV} {l:List ChgM} (h2:∀ c rest (v:SV),ZR' c=true→RL A 1 eB v.v (chgB c++rest)→CallV Tryz.prog g y [] [B,cl r 216 [v.v,.bool false],A] fun K R=>∀ w:SV,RL A 1 eB w.v rest→K c.v (B::cl r 216 [w.v,.bool false]::A::R)) (hl:l.length≤4096) (hok:∀ c ∈ l,ZR' c=true) (hA:RL A 1 eB v.v (Yn' l)):Spec Tryz.prog g 100 [.pointer (some ⟨r,0,none⟩),y] [B,cl r 216 [v.v,.bool false],A] fun K R=>∀ a m c (w:SV),K (.slice a m c) (Sl 179 3 ChgM.c (.slice a m c) l::B::cl r 216 [w.v,.bool false]::A::R):=by
 have hln:(UInt32.ofNat l.length).toNat=l.length:=by rw [UInt32.toNat_ofNat'];exact Nat.mod_eq_of_lt (by omega)
 refine Spec.intro Tryz.func100 rfl Tryz.ntmps100 rfl fun R K hK=>?_
 refine WP.seq<|WP.reg<|WL.e Zb'<|WL.next<|WP.seq<|WP.seq<|WP.reg<|WL.e Za' ?_
 refine WL.h (Zg' (Qd' (xs:=numB (UInt32.ofNat l.length) 2) (rest:=l.flatMap chgB) 2 (Yh' _ _) hA (by decide)) k77 ?_)
 intro w hw
 rw [Zln_ _ (by rw [hln];omega),hln]
 refine WL.e Zb'<|WL.next<|WP.block<|WP.nils 179 3 ChgM.c none ?_
 refine WP.loopK (fun (x:Nat × SV × SV)=>[(5,.int .u32 ((l.length - x.1:Nat):Int)),(4,x.2.1.v)]) (fun (x:Nat × SV × SV)=>Sl 179 3 ChgM.c x.2.1.v (l.take x.1)::B::cl r 216 [x.2.2.v,.bool false]::A::R) [(0,_),(1,_)] (fun (x:Nat × SV × SV)=>x.1≤l.length∧RL A 1 eB x.2.2.v ((l.drop x.1).flatMap chgB)) (fun (x:Nat × SV × SV)=>l.length - x.1) (0,⟨none,0,0⟩,w) (⟨Nat.zero_le _,hw⟩) ?_
 rintro ⟨i,w4,w⟩ ⟨hi,hw⟩
 simp only at hi hw
 dsimp only
 refine WP.seq<|WP.seq<|WP.reg<|WL.e Za'<|WL.e YY'<|WL.e Za' ?_
 refine WL.join 16 (.bool (decide (i < l.length))) (.c (.c (.c (.c (.c (.c .n)))))) ?_ ?_
 ·refine WL.bool 10 rfl (fun hg=>?_) (fun hg=>?_)
  ·skip
   refine WL.e Za'<|WL.e Zk'<|WL.e (e_fa Zka_)<|WL.e (Zc' a4)<|WL.e Zx'<|WL.e Zn' ?_
   exact WL.nil (PO.joined rfl (by rw [decide_eq_true_eq] at hg;simp;omega))
  ·skip
   refine WL.skip<|WL.skip<|WL.skip<|WL.skip<|WL.skip<|WL.e Zl' ?_
   exact WL.nil (PO.joined rfl (by rw [decide_eq_false_iff_not] at hg;simp;omega))
 refine WL.next ?_
 refine WP.cond rfl (fun h3=>?_) (fun h3=>?_)
 ·have hlt:i < l.length:=of_decide_eq_true h3
  obtain ⟨x,hx⟩:∃ x,l[i]?=some x:=⟨_,List.getElem?_eq_getElem hlt⟩
  rw [ZjC_ hx,List.flatMap_cons] at hw
  refine WP.skip<|PO.next<|WP.seq<|WP.block<|WP.reg<|WL.e Za'<|WL.e Za' ?_
  refine WL.h (YE' (h2 x ((l.drop (i+1)).flatMap chgB) w (hok x (List.mem_of_getElem? hx)) hw) ?_)
  intro w2 hw2
  refine WL.h (h_bs Yw' z179 (.a3 (.tmp 21) rfl<|.n) fun b1=>?_)
  refine WL.h (ZG' (xs:=l.take i) (ys:=[x]) Yw' chgE z179 (Z7' chgE [x] rfl) (by simp;omega) (fun a2 n2 c2=>?_))
  rw [show l.take i++[x]=l.take (i+1) from (ZA' hx).symm]
  refine WL.e Zb'<|WL.nil<|PO.blockN<|PO.next<|WP.reg<|WL.e Za'<|WL.e (Y9' (c:=((l.length - (i+1):Nat):Int)) rfl rfl (by rw [ZoC_ (by omega) (by omega)];omega))<|WL.e Zb'<|WL.nil ?_
  exact PO.againK (i+1,⟨a2,n2,c2⟩,w2) ⟨by simp only;omega,hw2⟩ (by simp only;omega)
 ·replace h3:=of_decide_eq_false h3
  rw [List.take_of_length_le (show l.length≤i by omega)]
  refine WP.exit<|PO.past nofun<|PO.round nofun<|PO.blockX<|PO.next<|WP.seq<|WP.reg<|WL.e Za'<|WL.e Zb'<|WL.next<|WP.ret<|PO.sh (u:=w4.v) ?_
  rintro a1 n1 c1 e1
  exact PO.fin Tryz.results100 (Zd' Zf') (by have h9:=hK w4.a w4.n w4.c w;exact h9)
theorem Zkd_ {g:World} {A:HP} {fn:Fn} {y2:Value} {v:SV} {l:List ChgM} (h1:∀ r c rest (v:SV),ZR' c=true→RL A 1 eB v.v (chgB c++rest)→CallV Tryz.prog g (.func fn #[] #[]) [.pointer (some ⟨r,0,none⟩)] [cl r 216 [v.v,.bool false],A] fun K R=>∀ w:SV,RL A 1 eB w.v rest→K c.v (cl r 216 [w.v,.bool false]::A::R)) (h3:∀ (l:List ChgM) (u:SV),l.length≤4096→l.all ZR'=true→CallV Tryz.prog g y2 [u.v] [Sl 179 3 ChgM.c u.v l] fun K R=>∀ a m c,K (.tuple #[.slice a m c,.int .i64 0]) (Sl 5 1 eB (.slice a m c) (Yn' l)::Sl 179 3 ChgM.c u.v l::R)) (hl:l.length≤4096) (hok:∀ c ∈ l,ZR' c=true) (hA:RL A 1 eB v.v (Yn' l)):Spec Tryz.prog g 74 [v.v,(.func fn #[] #[]),y2] [A] fun K R=>∀ a m c,K (.tuple #[.slice a m c,.int .i64 0]) (Sl 179 3 ChgM.c (.slice a m c) l::A::R):=by
 refine Spec.intro Tryz.func74 rfl Tryz.ntmps74 rfl fun R K hK=>?_
 refine WP.seq<|WP.reg ?_
 refine WL.h (ZL' fun b1=>?_)
 refine WL.e Zb'<|WL.e Zb'<|WL.next<|WP.seq<|WP.reg<|WL.e Za'<|WL.e (Zv' z216 p216 (.o (.tmp 12) rfl<|.z (.bool false)<|.n)) ?_
 refine WL.h (ZL' fun b2=>?_)
 refine WL.h (Zu' z180 fun b3=>?_)
 refine WL.h' (Zj' s180 ?_)
 refine WL.next<|WP.seq<|WP.reg<|WL.e (Zc' a180)<|WL.e Ym'<|WL.cls (A:=GetJ b1 b3 b2 (.func fn #[] #[])) (B:=[cl b1 183 [(.func fn #[] #[])],cl b3 180 [.pointer (some ⟨b2,0,none⟩)]]) (fun S h=>⟨(),h⟩) ?_
 refine WL.h (Zg' (Zfn_ (y:=.func (.func 101) #[] #[.pointer (some ⟨b1,0,none⟩),.pointer (some ⟨b3,0,none⟩)]) (fun c rest v hc hr=>CallV.of_spec (fs:=[]) (cs:=[.pointer (some ⟨b1,0,none⟩),.pointer (some ⟨b3,0,none⟩)]) (Zkc_ (h1 b2) c hc hr) k101) hl hok hA) k100 ?_)
 intro a5 n5 c5 w
 refine WL.opn (B:=fun _:Unit=>[cl b1 183 [(.func fn #[] #[])],cl b3 180 [.pointer (some ⟨b2,0,none⟩)]]) (fun _ h=>h) fun _=>?_
 refine WL.e Zb'<|WL.next<|WP.seq<|WP.reg<|WL.e Za'<|WL.e Za' ?_
 refine WL.h (YE' (h3 l ⟨a5,n5,c5⟩ hl (List.all_eq_true.2 hok)) ?_)
 intro a6 n6 c6
 refine WL.e Za'<|WL.e Ze'<|WL.e Ze'<|WL.e Zb'<|WL.e Zb'<|WL.next<|WP.seq<|WP.seq<|WP.reg<|WL.e (Zc' a180)<|WL.e Zk'<|WL.e (e_fa Zka_)<|WL.e (Zc' a4)<|WL.e Za' ?_
 refine WL.bool 28 rfl (fun y1=>?_) (fun y1=>?_)
 ·exact absurd y1 (by decide) 
 ·skip
  refine WL.e Za'<|WL.e Z2'<|WL.e Zl'<|WL.e Za' ?_
  refine WL.bool 32 rfl (fun y2=>?_) (fun y2=>?_)
  ·exact absurd y2 (by decide) 
  ·skip
   refine WL.e Za'<|WL.e Za' ?_
   refine WL.h (Zg' (Zbb_ hA (Zr' (xs:=Yn' l))) k71 ?_)
   rw [beq_self_eq_true]
   refine WL.e Zx'<|WL.e Zl'<|WL.next<|WP.cond_f rfl<|WP.skip<|PO.next<|WP.seq<|WP.reg<|WL.e Za'<|WL.e Zb'<|WL.e Zb'<|WL.next<|WP.ret ?_
   exact PO.fin Tryz.results74 (Zd' (Zd' Zf')) (hK a5 n5 c5)
theorem Zke_ {g:World} (l:List ChgM) (u:SV) (h1:l.length≤4096) (h2:l.all ZR'=true):CallV Tryz.prog g (.func (.func 78) #[] #[]) [u.v] [Sl 179 3 ChgM.c u.v l] fun K R=>∀ a m c,K (.tuple #[.slice a m c,.int .i64 0]) (Sl 5 1 eB (.slice a m c) (Yn' l)::Sl 179 3 ChgM.c u.v l::R):=fun R K w r hw hT=>by
 have hcl:=(XK' l).2 fun c hc=>List.all_eq_true.1 h2 c hc
 have hn:l.length≤68719476736:=by omega
 have hb:2+(l.flatMap chgB).length≤68719476736:=by omega
 have hs:=JY' (g:=g) (A:=Sl 179 3 ChgM.c u.v l) (u:=u.v) (l:=l) Zr' hn hb
 have h:=CallV.of_spec (fs:=[]) (cs:=[]) (args:=[u.v]) hs k78
 exact h R K w r hw ⟨fun h=>absurd h (by rw [h2];simp),fun _ h=>absurd h1 h,fun _ _=>hT⟩
theorem V0' {g:World} {A:HP} {v:SV} {l:List ChgM} (hl:l.length≤4096) (hok:∀ c ∈ l,ZR' c=true) (hA:RL A 1 eB v.v (Yn' l)):Spec Tryz.prog g 58 [v.v] [A] fun K R=>∀ a m c,K (.tuple #[.slice a m c,.int .i64 0]) (Sl 179 3 ChgM.c (.slice a m c) l::A::R):=by
 refine Spec.intro Tryz.func58 rfl Tryz.ntmps58 rfl fun R K hK=>?_
 refine WP.seq<|WP.reg<|WL.e Zb'<|WL.e Zb'<|WL.next<|WP.seq<|WP.reg<|WL.e Za' ?_
 refine WL.h (Zg' (Zkd_ (fn:=.func 75) (y2:=.func (.func 78) #[] #[]) (fun r c rest v hc hr=>CallV.of_spec (fs:=[]) (cs:=[]) (Zkb_ c hc hr) k75) Zke_ hl hok hA) k74 ?_)
 intro a m c
 refine WL.e Ze'<|WL.e Ze'<|WL.e Zb'<|WL.e Zb'<|WL.next<|WP.ret ?_
 exact PO.fin Tryz.results58 (Zd' (Zd' Zf')) (hK a m c)
end Go.SL
namespace Go.SL.Fc
open Go Go.Proofs Go.SL
theorem k55:Zh' Tryz.prog 55=true:=by kernel_rfl
theorem k56:Zh' Tryz.prog 56=true:=by kernel_rfl
theorem k57:Zh' Tryz.prog 57=true:=by kernel_rfl
theorem k58:Zh' Tryz.prog 58=true:=by kernel_rfl
theorem p136:Ya' Tryz.prog 136=some [(0,1),(1,1),(2,1),(3,1),(4,1)]:=by kernel_rfl
theorem z136:ZH' Tryz.prog 136=some [.pointer none,.pointer none,.int .u32 0,.map none,.pointer none]:=by kernel_rfl
end Go.SL.Fc
namespace Go.SL
open Go Go.Proofs Fc
theorem Zil_ {H:List (List ChgM)} {i:Nat} {y:List ChgM} (h:H[i]?=some y):ZJ' H (i+1)=Zw' (ZJ' H i) y:=by
 unfold ZJ'
 rw [ZA' h,List.flatten_append,QH'];simp
set_option maxHeartbeats 4000000 in
theorem ZdK_ {g:World} {dp:Nat} {d:DiskM} {at0:Nat} (H:List (List ChgM)) (hd:DiskLogB d at0 (H.map Yn')) (hok:∀ cs ∈ H,cs.length≤4096∧∀ c ∈ cs,ZR' c=true) (hsum:H.flatten.length≤1000000000) :
  Spec Tryz.prog g 42 [.pointer (some ⟨dp,0,none⟩)] [Dk dp d] fun K R=>∀ p,K (.tuple #[.pointer (some ⟨p,0,none⟩),.int .i64 0]) (As p dp (st0 d at0 H)::TxsU TPA []::R):=by
 refine Spec.intro Tryz.func42 rfl Tryz.ntmps42 rfl fun R K hK=>?_
 refine WP.seq<|WP.reg<|WL.e Zb'<|WL.e Zb'<|WL.next<|WP.seq<|WP.reg<|WL.e Za' ?_
 refine WL.h (Zg' (Zab_ hd.ok (by rw [hd.waits];simp)) k55 ?_)
 intro lp rv xs hx
 obtain ⟨hz,ha,hc⟩:=hd.recs
 obtain rfl:tot xs=at0:=by rw [← ha,← hx];simp [tot];rfl
 have hxl:xs.map (·.2.1)=H.map Yn':=by rw [← hz,← hx];simp
 have hlen:xs.length=H.length:=by have:=congrArg List.length hxl;simpa using this
 have hxb:xs.length≤4096:=by have h7:=(ZaN_ _ d.seen.flatten (Nat.le_refl _)).2;rw [VN' hd.ok.l2,hd.ok.len] at h7;have h8:=hd.ok.le;have h9:=congrArg List.length hx;simp at h9;omega
 rw [hc,hd.sync]
 refine WL.e Za'<|WL.e Ze'<|WL.e Ze'<|WL.e Ze'<|WL.e Zb'<|WL.e Zb'<|WL.e Zb'<|WL.next<|WP.seq<|WP.seq<|WP.reg<|WL.e Za'<|WL.e Z2'<|WL.next<|WP.cond_f rfl<|WP.skip<|PO.next<|WP.seq<|WP.reg<|WL.e Za' ?_
 refine WL.h (Zg' (Zad_) k56 ?_)
 intro mp
 refine WL.h (YN' (ek:=eU32) fun mb=>?_)
 refine WL.h (Zg' (Zj0_) k57 ?_)
 intro kp
 refine WL.e (Zv' z136 p136 (.o (.tmp 21) rfl<|.o (.tmp 22) rfl<|.z (.int .u32 0)<|.o (.tmp 23) rfl<|.o (.tmp 24) rfl<|.n)) ?_
 refine WL.h (ZL' fun b1=>?_)
 refine WL.e Zb'<|WL.next<|WP.seq<|WP.seq<|WP.reg<|WL.e Za'<|WL.e (ZD' (xs:=xs) Uu' Zr')<|WL.e Za'<|WL.next<|WP.block<|WP.loopK (fun (i:Nat)=>[(29,.int .i64 i)]) (fun (i:Nat)=>cl b1 136 [.pointer (some ⟨lp,0,none⟩),.pointer (some ⟨mp,0,none⟩),.int .u32 (UInt32.ofNat (i)).toNat,.map (some mb),.pointer (some ⟨kp,0,none⟩)]::cl lp 166 [.pointer (some ⟨dp,0,none⟩),.int .i64 (tot xs)]::Dk dp d::Mm mp (ZJ' H (i))::Mp eU32 (.map (some mb)) ([]:List (UInt32 × Value))::Lk kp []::Sl 137 1 recC rv.v xs::JF' xs::R) [(7,_),(27,_),(28,_)] (fun (i:Nat)=>i≤H.length) (fun (i:Nat)=>H.length - i) 0 (Nat.zero_le _) ?_
 intro i hi
 refine WP.seq<|WP.reg<|WL.e Z3'<|WL.next<|WP.seq ?_
 refine WP.cond rfl (fun h1=>?_) (fun h1=>?_)
 ·have hlt:i < xs.length:=by rw [decide_eq_true_eq] at h1;omega
  obtain ⟨x,hxi⟩:∃ x,xs[i]?=some x:=⟨_,List.getElem?_eq_getElem hlt⟩
  obtain ⟨y,hy⟩:∃ y,H[i]?=some y:=⟨_,List.getElem?_eq_getElem (by omega)⟩
  have hxy:x.2.1=Yn' y:=by have:=congrArg (·[i]?) hxl;simpa [hxi,hy] using this
  have hrl:=Zg4_ (List.mem_of_getElem? hxi)
  obtain ⟨hy1,hy2⟩:=hok y (List.mem_of_getElem? hy)
  have hrn:=VT' H i
  refine WP.skip<|PO.next<|WP.seq<|WP.block<|WP.seq<|WP.reg<|WL.e (ZZ' (j:=i) (xs:=xs) Uu' Zr' hlt)<|WL.e (Ys' (j:=i) (xs:=xs) (a:=x) a137 ZdU_ Zr' hxi)<|WL.e Zb'<|WL.next<|WP.seq<|WP.reg<|WL.e Za' ?_
  refine WL.h (Zg' (V0' (v:=x.1) (l:=y) hy1 hy2 (hxy ▸ hrl)) k58 ?_)
  intro a5 n5 c5
  refine WL.e Za'<|WL.e Ze'<|WL.e Ze'<|WL.e Zb'<|WL.e Zb'<|WL.next<|WP.seq<|WP.seq<|WP.reg<|WL.e Za'<|WL.e Z2'<|WL.e Za' ?_
  refine WL.bool 40 rfl (fun hg=>?_) (fun hg=>?_)
  ·exact absurd hg (by decide) 
  ·skip
   refine WL.e Za'<|WL.e Zk'<|WL.e (e_fa Zcr_)<|WL.e (Zc' a130)<|WL.e Za' ?_
   refine WL.h (Zg' (Kw' (l:=ZJ' H i) (cs:=y) (Zr' (E:=179)) (YP' _ _) (by omega)) k59 ?_)
   refine ⟨fun hb=>absurd hb (by rw [List.any_eq_false.2 fun c hc=>by simp [hy2 c hc]];simp),fun _=>?_⟩
   refine WL.e Z2'<|WL.e Zl'<|WL.next<|WP.cond_f rfl<|WP.skip<|PO.next<|WP.reg<|WL.e Za'<|WL.e Zk'<|WL.e (e_fa Zax_)<|WL.e (Zc' a24)<|WL.e (ZaJ_ (b:=1))<|WL.e Zk'<|WL.e (e_fa Zax_) ?_
   refine WL.h' (Zj' s24 ?_)
   refine WL.nil<|PO.blockN<|PO.next<|WP.reg<|WL.e (ZE' rfl rfl (Zt' (by omega) (by omega)))<|WL.e Za'<|WL.nil ?_
   rw [← Zil_ hy,show UInt32.ofNat i+1=UInt32.ofNat (i+1) by simp [UInt32.ofNat_add]]
   exact PO.againK (i+1) (by omega) (by omega)
 ·have hih:i=H.length:=by rw [decide_eq_false_iff_not] at h1;omega
  subst hih
  refine WP.exit<|PO.past nofun<|PO.round nofun<|PO.blockX<|PO.next<|WP.seq<|WP.reg<|WL.e Za'<|WL.e Zb'<|WL.e Zb'<|WL.next<|WP.ret<|PO.conv (fun S h=>Vz' (TP:=TPA) h) ?_
  refine PO.cls (A:=As b1 dp (st0 d (tot xs) H)) (B:=[cl b1 136 [.pointer (some ⟨lp,0,none⟩),.pointer (some ⟨mp,0,none⟩),.int .u32 (UInt32.ofNat (H.length)).toNat,.map (some mb),.pointer (some ⟨kp,0,none⟩)],cl lp 166 [.pointer (some ⟨dp,0,none⟩),.int .i64 (tot xs)],Dk dp d,Mm mp (ZJ' H (H.length)),Mp eU32 (.map (some mb)) ([]:List (UInt32 × Value)),Lk kp []]) (fun S h=>⟨(lp,mp,kp,mb),h⟩) ?_
  exact PO.fin Tryz.results42 (Zd' (Zd' Zf')) (hK b1)
end Go.SL
