import Derived.Test.YtegjbklnhiionaaGreatQP17
set_option linter.unusedSimpArgs false
set_option linter.unusedVariables false
namespace Go.SL.Fc
open Go Go.Proofs Go.SL
theorem a111:ZK' Tryz.prog 111=some none:=by kernel_rfl
theorem a22:ZK' Tryz.prog 22=some none:=by kernel_rfl
theorem Zkl_:ZO' Tryz.prog 146 0=some 0:=by kernel_rfl
theorem ZcE_:ZO' Tryz.prog 306 1=some 1:=by kernel_rfl
theorem k199:Zh' Tryz.prog 199=true:=by kernel_rfl
theorem k200:Zh' Tryz.prog 200=true:=by kernel_rfl
theorem k201:Zh' Tryz.prog 201=true:=by kernel_rfl
theorem k202:Zh' Tryz.prog 202=true:=by kernel_rfl
theorem k203:Zh' Tryz.prog 203=true:=by kernel_rfl
theorem k204:Zh' Tryz.prog 204=true:=by kernel_rfl
theorem k28:Zh' Tryz.prog 28=true:=by kernel_rfl
theorem k46:Zh' Tryz.prog 46=true:=by kernel_rfl
theorem k60:Zh' Tryz.prog 60=true:=by kernel_rfl
theorem k61:Zh' Tryz.prog 61=true:=by kernel_rfl
theorem p146:Ya' Tryz.prog 146=some [(0,1),(1,1),(2,1)]:=by kernel_rfl
theorem p306:Ya' Tryz.prog 306=some [(0,1),(1,1),(2,1)]:=by kernel_rfl
theorem ZdX_:X3' Tryz.prog 304=true:=by kernel_rfl
theorem s22:szOf Tryz.prog 22=some 1:=by kernel_rfl
theorem s304:szOf Tryz.prog 304=some 1:=by kernel_rfl
theorem sl22:slOf Tryz.prog 22=some (45,2,32):=by kernel_rfl
theorem z146:ZH' Tryz.prog 146=some [.pointer none,.pointer none,.map none]:=by kernel_rfl
theorem z306:ZH' Tryz.prog 306=some [.int .u32 0,.slice none 0 0,.slice none 0 0]:=by kernel_rfl
theorem ZdY_:(Tryz.prog.info? 304).bind (·.zero)=some (.pointer none):=by kernel_rfl
end Go.SL.Fc
namespace Go.SL
open Go Go.Proofs Fc
theorem Zfq_ {g:World} {p dp:Nat} {s:StV} (n:UInt32) (hf:Zs' s.txs n=none):Spec Tryz.prog g 199 [.pointer (some ⟨p,0,none⟩),.int .u32 n.toNat] [Bs p dp s,TxsU TPB s.txs] fun K R=>∀ q,K (.tuple #[]) (Bs p dp { s with txs:=s.txs++[begT s n q] }::TxsU TPB (s.txs++[begT s n q])::R):=by
 refine Spec.intro Tryz.func199 rfl Tryz.ntmps199 rfl fun R K hK=>?_
 refine WP.opn (KK' (p:=p) (dp:=dp) (s:=s)) fun x=>?_
 obtain ⟨lp,pp,mb⟩:=x
 dsimp only
 refine WP.draws Zq' 13<|RW.e 0 rfl Za'<|RW.e 1 rfl Zk'<|RW.e 2 rfl (e_fa Kc')<|RW.e 3 rfl (Zc' a144)<|RW.e 4 rfl Za'<|RW.e 5 rfl Za'<|RW.e 6 rfl Zk'<|RW.e 7 rfl (e_fa KA')<|RW.e 8 rfl (Zc' a142) ?_
 refine RW.any (is:=[9]) rfl ⟨?_,trivial⟩
 refine RWat.h rfl rfl rfl ?_
 refine (Zg' (Zay_) k206 ?_)
 refine ⟨⟨⟨_,rfl,.inl ⟨rfl,Za'⟩⟩,⟨_,rfl,.inl ⟨rfl,(Zc' a144)⟩⟩,⟨_,rfl,.inl ⟨rfl,(e_fa Kc')⟩⟩,⟨_,rfl,.inl ⟨rfl,Zk'⟩⟩,⟨_,rfl,.inl ⟨rfl,Za'⟩⟩,trivial⟩,?_⟩
 refine RW.e 10 rfl (Zv' z306 p306 (.o (.tmp 13) rfl<|.z (.slice none 0 0)<|.z (.slice none 0 0)<|.n)) ?_
 refine RW.any (is:=[11]) rfl ⟨?_,trivial⟩
 refine RWat.h rfl rfl rfl ?_
 refine (ZL' fun b1=>?_)
 refine ⟨⟨⟨_,rfl,.inl ⟨rfl,Za'⟩⟩,⟨_,rfl,.inl ⟨rfl,(Zc' a144)⟩⟩,⟨_,rfl,.inl ⟨rfl,(e_fa Kc')⟩⟩,⟨_,rfl,.inl ⟨rfl,Zk'⟩⟩,⟨_,rfl,.inl ⟨rfl,Za'⟩⟩,trivial⟩,?_⟩
 refine RW.any (is:=[12]) rfl ⟨?_,trivial⟩
 refine RWat.h' rfl rfl rfl ?_
 refine (YI' (k:=n) (kvs:=List.map kvU s.txs) Tryz.underlying144 (ZQ' Tryz.underlying24) ?_)
 rw [show mset (List.map kvU s.txs) n (.pointer (some ⟨b1,0,none⟩))=List.map kvU (s.txs++[begT s n b1]) from ZeO_ s.txs (begT s n b1) hf]
 refine ⟨trivial,?_⟩
 refine RW.done<|PO.nils 45 2 SpanM.c none ?_
 refine PO.nils 179 3 ChgM.c none ?_
 refine PO.cls (A:=Bs p dp ({ s with txs:=s.txs++[begT s n b1] })) (B:=[cl p 146 [.pointer (some ⟨lp,0,none⟩),.pointer (some ⟨pp,0,none⟩),.map (some mb)],cl lp 166 [.pointer (some ⟨dp,0,none⟩),.int .i64 s.at_],Dk dp s.d,Pa pp s.H s.trim,Mp eU32 (.map (some mb)) (List.map kvU (s.txs++[begT s n b1]))]) (fun S h=>⟨(lp,pp,mb),h⟩) ?_
 refine PO.cls (A:=TxB_ (begT s n b1)) (B:=[cl b1 306 [.int .u32 (UInt32.ofNat s.H.length).toNat,.slice none 0 0,.slice none 0 0],Sl 45 2 SpanM.c (.slice none 0 0) [],Sl 179 3 ChgM.c (.slice none 0 0) []]) (fun S h=>⟨(⟨none,0,0⟩,⟨none,0,0⟩),h⟩) ?_
 refine PO.cls (A:=TxsU TPB (s.txs++[begT s n b1])) (B:=[TxB_ (begT s n b1),TxsU TPB s.txs]) (fun S h=>Yb' (TP:=TPB) (A:=s.txs) (B:=[]) (t:=begT s n b1) S (by rw [List.append_nil];exact h)) ?_
 exact PO.fin Tryz.results199 Zf' (hK b1)
theorem Zgk_ {g:World} {p dp:Nat} {s:StV} (n:UInt32):Spec Tryz.prog g 194 [.pointer (some ⟨p,0,none⟩),.int .u32 n.toNat] [Bs p dp s,TxsU TPB s.txs] fun K R=>∀ q,K (.int .i64 (begE s n)) (Bs p dp (begS s n q)::TxsU TPB (begS s n q).txs::R):=by
 refine Spec.intro Tryz.func194 rfl Tryz.ntmps194 rfl fun R K hK=>?_
 refine WP.seq<|WP.reg<|WL.e Zb'<|WL.next<|WP.seq<|WP.block<|WP.seq<|WP.reg<|WL.e Za' ?_
 refine WL.h (Zg' (KB') k200 ?_)
 refine WL.e Zx'<|WL.e Zb'<|WL.next<|WP.cond_f rfl<|WP.seq<|WP.reg<|WL.e Za'<|WL.e (Jt' (b:=0))<|WL.e Zb'<|WL.next ?_
 refine WP.cond rfl (fun h1=>?_) (fun h1=>?_)
 ·replace h1:n=0:=by simpa using h1
  have hE:begE s n=1:=by simp [begE,h1]
  refine WP.seq<|WP.reg<|WL.e Zb'<|WL.next<|WP.ret<|PO.blockR<|PO.past nofun ?_
  have hK:=hK 0
  rw [hE,show begS s n 0=s by simp [begS,hE]] at hK
  exact PO.fin Tryz.results194 (Zd' Zf') hK
 ·replace h1:n≠0:=by simpa using h1
  refine WP.opn (KK' (p:=p) (dp:=dp) (s:=s)) fun x=>?_
  obtain ⟨lp,pp,mb⟩:=x
  dsimp only
  refine WP.seq<|WP.reg<|WL.e Za'<|WL.e Zk'<|WL.e (e_fa Kc')<|WL.e (Zc' a144)<|WL.e Za'<|WL.e (JV' (n:=n) (ts:=s.txs) Tryz.underlying144 (ZQ' Tryz.underlying24) ZdY_)<|WL.e (JX' ZdX_)<|WL.e Zb'<|WL.next ?_
  refine WP.cond rfl (fun h2=>?_) (fun h2=>?_)
  ·replace h2:(Zs' s.txs n).isSome=true:=by cases e:Zs' s.txs n with
    | none=>rw [e] at h2;cases h2
    | some t=>rfl
   have hE:begE s n=7:=by simp only [begE,h1,h2];simp
   refine WP.seq<|WP.reg<|WL.e Zb'<|WL.next<|WP.ret<|PO.blockR<|PO.past nofun<|PO.cls (A:=Bs p dp (s)) (B:=[cl p 146 [.pointer (some ⟨lp,0,none⟩),.pointer (some ⟨pp,0,none⟩),.map (some mb)],cl lp 166 [.pointer (some ⟨dp,0,none⟩),.int .i64 s.at_],Dk dp s.d,Pa pp s.H s.trim,Mp eU32 (.map (some mb)) (List.map kvU s.txs)]) (fun S h=>⟨(lp,pp,mb),h⟩) ?_
   have hK:=hK 0
   rw [hE,show begS s n 0=s by simp [begS,hE]] at hK
   exact PO.fin Tryz.results194 (Zd' Zf') hK
  ·have hf:Zs' s.txs n=none:=by cases e:Zs' s.txs n with
    | none=>rfl
    | some t=>rw [e] at h2;cases h2
   refine WP.seq<|WP.reg<|WL.e Za'<|WL.e Zk'<|WL.e (e_fa Kc')<|WL.e (Zc' a144)<|WL.e (U3' Tryz.underlying144)<|WL.e YD'<|WL.e Zb'<|WL.next ?_
   refine WP.cond rfl (fun h3=>?_) (fun h3=>?_)
   ·replace h3:32≤s.txs.length:=by simp at h3;omega
    have hE:begE s n=5:=by simp [begE,h1,hf,h3]
    refine WP.seq<|WP.reg<|WL.e Zb'<|WL.next<|WP.ret<|PO.blockR<|PO.past nofun<|PO.cls (A:=Bs p dp (s)) (B:=[cl p 146 [.pointer (some ⟨lp,0,none⟩),.pointer (some ⟨pp,0,none⟩),.map (some mb)],cl lp 166 [.pointer (some ⟨dp,0,none⟩),.int .i64 s.at_],Dk dp s.d,Pa pp s.H s.trim,Mp eU32 (.map (some mb)) (List.map kvU s.txs)]) (fun S h=>⟨(lp,pp,mb),h⟩) ?_
    have hK:=hK 0
    rw [hE,show begS s n 0=s by simp [begS,hE]] at hK
    exact PO.fin Tryz.results194 (Zd' Zf') hK
   ·replace h3:¬ 32≤s.txs.length:=by simp at h3;omega
    have hE:begE s n=0:=by simp only [begE,h1,hf,h3];simp
    refine WP.cls (A:=Bs p dp (s)) (B:=[cl p 146 [.pointer (some ⟨lp,0,none⟩),.pointer (some ⟨pp,0,none⟩),.map (some mb)],cl lp 166 [.pointer (some ⟨dp,0,none⟩),.int .i64 s.at_],Dk dp s.d,Pa pp s.H s.trim,Mp eU32 (.map (some mb)) (List.map kvU s.txs)]) (fun S h=>⟨(lp,pp,mb),h⟩) ?_
    refine WP.skip<|PO.blockN<|PO.next<|WP.seq<|WP.reg<|WL.e Za'<|WL.e Za' ?_
    refine WL.h (Zg' (Zfq_ n hf) k199 ?_)
    intro q
    refine WL.next<|WP.seq<|WP.reg<|WL.e Zb'<|WL.next<|WP.ret ?_
    have hK:=hK q
    rw [hE,begS,if_pos hE] at hK
    exact PO.fin Tryz.results194 (Zd' Zf') hK
theorem Zgl_ {g:World} {p dp b:Nat} {s:StV} (n:UInt32) (hs:BetOk s b):Spec Tryz.prog g 193 [.pointer (some ⟨p,0,none⟩),.int .u32 n.toNat] [Bs p dp s,TxsU TPB s.txs] fun K R=>K (.int .i64 (aboE s n)) (Bs p dp (aboS YG' s n)::TxsU TPB (aboS YG' s n).txs::R):=by
 refine Spec.intro Tryz.func193 rfl Tryz.ntmps193 rfl fun R K hK=>?_
 refine WP.seq<|WP.reg<|WL.e Zb'<|WL.next<|WP.seq<|WP.block<|WP.seq<|WP.reg<|WL.e Za' ?_
 refine WL.h (Zg' (KB') k200 ?_)
 refine WL.e Zx'<|WL.e Zb'<|WL.next<|WP.cond_f rfl<|WP.opn (KK' (p:=p) (dp:=dp) (s:=s)) fun x=>?_
 obtain ⟨lp,pp,mb⟩:=x
 dsimp only
 refine WP.seq<|WP.reg<|WL.e Za'<|WL.e Zk'<|WL.e (e_fa Kc')<|WL.e (Zc' a144)<|WL.e Za'<|WL.e (JV' (n:=n) (ts:=s.txs) Tryz.underlying144 (ZQ' Tryz.underlying24) ZdY_)<|WL.e (JW' ZdX_)<|WL.e Zb'<|WL.next ?_
 refine WP.cond rfl (fun h2=>?_) (fun h2=>?_)
 ·have hf:Zs' s.txs n=none:=by simpa using h2
  rw [show aboE s n=6 by simp [aboE,hf],show aboS YG' s n=s by simp [aboS,hf]] at hK
  refine WP.seq<|WP.reg<|WL.e Zb'<|WL.next<|WP.ret<|PO.blockR<|PO.past nofun<|PO.cls (A:=Bs p dp (s)) (B:=[cl p 146 [.pointer (some ⟨lp,0,none⟩),.pointer (some ⟨pp,0,none⟩),.map (some mb)],cl lp 166 [.pointer (some ⟨dp,0,none⟩),.int .i64 s.at_],Dk dp s.d,Pa pp s.H s.trim,Mp eU32 (.map (some mb)) (List.map kvU s.txs)]) (fun S h=>⟨(lp,pp,mb),h⟩) ?_
  exact PO.fin Tryz.results193 (Zd' Zf') hK
 ·obtain ⟨t,hf⟩:∃ t,Zs' s.txs n=some t:=by cases e:Zs' s.txs n with
   | none=>rw [e] at h2;cases h2
   | some t=>exact ⟨t,rfl⟩
  rw [hf,Option.map_some]
  obtain ⟨hid,A,B,hts,hdel,_⟩:=Yc' hf
  rw [show aboE s n=0 by simp [aboE,hf],show aboS YG' s n=Xa' s n by simp [aboS,hf,YG']] at hK
  refine WP.cls (A:=Bs p dp (s)) (B:=[cl p 146 [.pointer (some ⟨lp,0,none⟩),.pointer (some ⟨pp,0,none⟩),.map (some mb)],cl lp 166 [.pointer (some ⟨dp,0,none⟩),.int .i64 s.at_],Dk dp s.d,Pa pp s.H s.trim,Mp eU32 (.map (some mb)) (List.map kvU s.txs)]) (fun S h=>⟨(lp,pp,mb),h⟩) ?_
  refine WP.cls (A:=TxsU TPB (delU s.txs n)) (B:=[TxsU TPB s.txs]) (fun S h=>ZbC_ (J9' h)) ?_
  refine WP.skip<|PO.blockN<|PO.next<|WP.seq<|WP.reg<|WL.e Za'<|WL.e Za' ?_
  refine WL.h (Zg' (ZcD_ n hs (by have:=hs.st.tl;omega)) k201 ?_)
  refine WL.next<|WP.seq<|WP.reg<|WL.e Zb'<|WL.next<|WP.ret ?_
  exact PO.fin Tryz.results193 (Zd' Zf') hK
set_option maxHeartbeats 4000000 in
theorem ZlX_ {g:World} {p dp b:Nat} {s:StV} (n:UInt32) (x:OpM) (hs:BetOk s b):Spec Tryz.prog g 196 [.pointer (some ⟨p,0,none⟩),.int .u32 n.toNat,x.v] [Bs p dp s,TxsU TPB s.txs] fun K R=>match doB s n x with
   | .err s' e=>K (.tuple #[.agg #[.slice none 0 0],.int .i64 e]) (Bs p dp s'::TxsU TPB s'.txs::R)
   | .put s'=>K (.tuple #[.agg #[.slice none 0 0],.int .i64 0]) (Bs p dp s'::TxsU TPB s'.txs::R)
   | .look s' rows=>∀ a m c,K (.tuple #[.agg #[.slice a m c],.int .i64 0]) (Sl 105 2 RowM.c (.slice a m c) rows::Bs p dp s'::TxsU TPB s'.txs::R):=by
 refine Spec.intro Tryz.func196 rfl Tryz.ntmps196 rfl fun R K hK=>?_
 refine WP.seq<|WP.reg ?_
 refine WL.h (ZL' fun b1=>?_)
 refine WL.h (Zu' z40 fun b2=>?_)
 refine WL.e Zb'<|WL.next<|WP.seq<|WP.block<|WP.seq<|WP.reg<|WL.e Za' ?_
 refine WL.h (Zg' (KB') k200 ?_)
 refine WL.e Zx'<|WL.e Zb'<|WL.next<|WP.cond_f rfl<|WP.seq<|WP.reg<|WL.e (Zm' a26) ?_
 refine WL.h (Zg' (Vt' _) k165 ?_)
 refine WL.e Zx'<|WL.e Zb'<|WL.next ?_
 refine WP.cond rfl (fun h1=>?_) (fun h1=>?_)
 ·replace h1:opOk x=false:=by simpa using h1
  rw [show doB s n x=.err s 1 by simp [doB,h1]] at hK
  refine WP.seq<|WP.reg<|WL.e (Zv' z40 p40 (.z (.slice none 0 0)<|.n)) ?_
  refine WL.h' (Zj' s40 ?_)
  refine WL.e Zb'<|WL.next<|WP.ret<|PO.blockR<|PO.past nofun ?_
  exact PO.fin Tryz.results196 (ZB' a40 (Zd' Zf')) hK
 ·replace h1:opOk x=true:=by simpa using h1
  refine WP.opn (KK' (p:=p) (dp:=dp) (s:=s)) fun x=>?_
  obtain ⟨lp,pp,mb⟩:=x
  dsimp only
  refine WP.skip<|PO.blockN<|PO.next<|WP.seq<|WP.reg<|WL.e Za'<|WL.e Zk'<|WL.e (e_fa Kc')<|WL.e (Zc' a144)<|WL.e Za'<|WL.e (JV' (n:=n) (ts:=s.txs) Tryz.underlying144 (ZQ' Tryz.underlying24) ZdY_)<|WL.e Zb'<|WL.next<|WP.seq<|WP.seq<|WP.reg<|WL.e Za'<|WL.e (JW' ZdX_)<|WL.next ?_
  refine WP.cond rfl (fun h2=>?_) (fun h2=>?_)
  ·have hf:Zs' s.txs n=none:=by simpa using h2
   rw [show doB s n x=.err s 6 by simp [doB,h1,hf]] at hK
   refine WP.seq<|WP.reg<|WL.e (Zv' z40 p40 (.z (.slice none 0 0)<|.n)) ?_
   refine WL.h' (Zj' s40 ?_)
   refine WL.e Zb'<|WL.next<|WP.ret<|PO.past nofun<|PO.cls (A:=Bs p dp (s)) (B:=[cl p 146 [.pointer (some ⟨lp,0,none⟩),.pointer (some ⟨pp,0,none⟩),.map (some mb)],cl lp 166 [.pointer (some ⟨dp,0,none⟩),.int .i64 s.at_],Dk dp s.d,Pa pp s.H s.trim,Mp eU32 (.map (some mb)) (List.map kvU s.txs)]) (fun S h=>⟨(lp,pp,mb),h⟩) ?_
   exact PO.fin Tryz.results196 (ZB' a40 (Zd' Zf')) hK
  ·obtain ⟨t,hf⟩:∃ t,Zs' s.txs n=some t:=by cases e:Zs' s.txs n with
    | none=>rw [e] at h2;cases h2
    | some t=>exact ⟨t,rfl⟩
   rw [hf,Option.map_some]
   obtain ⟨hid,A,B,hts,hdel,_⟩:=Yc' hf
   have hol:=hs.st.own_le (ZI' hf)
   have hlk:=hs.st.lks t (ZI' hf)
   have hbb:=hs.st.bb
   have hset:∀ y,setU s.txs n y=A++{ t with x:=y }::B:=fun y=>by rw [← hid,hts];exact Vy' (hts ▸ hs.st.ids) y
   refine WP.opn (Y5' (TP:=TPB) hts) fun _=>?_
   refine WP.opn (ZaX_ (t:=t)) fun x=>?_
   obtain ⟨s1,s2⟩:=x
   dsimp only
   refine WP.skip<|PO.next<|WP.seq<|WP.seq<|WP.reg<|WL.e (e_fa XF')<|WL.e (Zc' a23)<|WL.next<|WP.block<|WP.seq<|WP.reg<|WL.e (Xq' (b:=2))<|WL.e Zb'<|WL.next ?_
   refine WP.cond rfl (fun h4=>?_) (fun h4=>?_)
   ·replace h4:x.kind=2:=by simpa using h4
    have hw:Zp' x=true:=by simp [Zp',h4]
    rw [show doB s n x=.put { s with txs:=setU s.txs n { t.x with own:=t.x.own++[Z4' x] } } by simp [doB,h1,hf,hw],hset,show Z4' x=⟨x.key,x.val,false⟩ by simp [Z4',h4]] at hK
    dsimp only at hK
    refine WP.draws Zq' 15<|RW.e 0 rfl Za'<|RW.e 1 rfl Za'<|RW.e 2 rfl Zk'<|RW.e 3 rfl (e_fa Qe')<|RW.e 4 rfl (Zc' a138)<|RW.e 5 rfl (e_fa X8')<|RW.e 6 rfl (Zc' a9)<|RW.e 7 rfl (e_fa ZaK_)<|RW.e 8 rfl (Zc' a24)<|RW.e 9 rfl (Zv' z179 p179 (.o (.tmp 56) rfl<|.o (.tmp 58) rfl<|.z (.bool false)<|.n)) ?_
    refine RW.any (is:=[10]) rfl ⟨?_,trivial⟩
    refine RWat.h rfl rfl rfl ?_
    refine (h_bs Yw' z179 (.a3 (.tmp 59) rfl<|.n) fun b3=>?_)
    refine ⟨⟨⟨_,rfl,.inl ⟨rfl,(Zc' a138)⟩⟩,⟨_,rfl,.inl ⟨rfl,(e_fa Qe')⟩⟩,⟨_,rfl,.inl ⟨rfl,Zk'⟩⟩,⟨_,rfl,.inl ⟨rfl,Za'⟩⟩,⟨_,rfl,.inl ⟨rfl,Za'⟩⟩,trivial⟩,?_⟩
    refine RW.any (is:=[11]) rfl ⟨?_,trivial⟩
    refine RWat.h rfl rfl rfl ?_
    refine (ZG' (xs:=t.x.own) (ys:=[⟨x.key,x.val,false⟩]) Yw' chgE z179 (Z7' chgE [⟨x.key,x.val,false⟩] rfl) (by simp;omega) (fun a5 n5 c5=>?_))
    refine ⟨⟨⟨_,rfl,.inl ⟨rfl,Za'⟩⟩,trivial⟩,?_⟩
    refine RW.e 12 rfl Zk'<|RW.e 13 rfl (e_fa Qe') ?_
    refine RW.any (is:=[14]) rfl ⟨?_,trivial⟩
    refine RWat.h' rfl rfl rfl ?_
    refine (Zj' s138 ?_)
    refine ⟨trivial,?_⟩
    refine RW.done<|PO.blockN<|PO.next<|WP.seq<|WP.reg<|WL.e (Zv' z40 p40 (.z (.slice none 0 0)<|.n)) ?_
    refine WL.h' (Zj' s40 ?_)
    refine WL.e Zb'<|WL.next<|WP.ret ?_
    rw [show List.map kvU s.txs=List.map kvU (A++{ t with x:={ t.x with own:=t.x.own++[⟨x.key,x.val,false⟩] } }::B) by rw [hts];simp [kvU]]
    refine PO.cls (A:=TxB_ { t with x:={ t.x with own:=t.x.own++[⟨x.key,x.val,false⟩] } }) (B:=[cl t.q 306 [.int .u32 t.x.at_.toNat,s1.v,.slice a5 n5 c5],Sl 45 2 SpanM.c s1.v t.x.looked,Sl 179 3 ChgM.c (.slice a5 n5 c5) (t.x.own++[⟨x.key,x.val,false⟩])]) (fun S h=>⟨(s1,⟨a5,n5,c5⟩),h⟩) ?_
    refine PO.cls (A:=TxsU TPB (A++{ t with x:={ t.x with own:=t.x.own++[⟨x.key,x.val,false⟩] } }::B)) (B:=[TxB_ { t with x:={ t.x with own:=t.x.own++[⟨x.key,x.val,false⟩] } },TxsU TPB (A++B)]) (fun S h=>Yb' (TP:=TPB) (t:={ t with x:={ t.x with own:=t.x.own++[⟨x.key,x.val,false⟩] } }) S h) ?_
    refine PO.cls (A:=Bs p dp ({ s with txs:=A++{ t with x:={ t.x with own:=t.x.own++[⟨x.key,x.val,false⟩] } }::B })) (B:=[cl p 146 [.pointer (some ⟨lp,0,none⟩),.pointer (some ⟨pp,0,none⟩),.map (some mb)],cl lp 166 [.pointer (some ⟨dp,0,none⟩),.int .i64 s.at_],Dk dp s.d,Pa pp s.H s.trim,Mp eU32 (.map (some mb)) (List.map kvU (A++{ t with x:={ t.x with own:=t.x.own++[⟨x.key,x.val,false⟩] } }::B))]) (fun S h=>⟨(lp,pp,mb),h⟩) ?_
    exact PO.fin Tryz.results196 (ZB' a40 (Zd' Zf')) hK
   ·replace h4:x.kind≠2:=by simpa using h4
    refine WP.seq<|WP.reg<|WL.e (Xq' (b:=3))<|WL.e Zb'<|WL.next ?_
    refine WP.cond rfl (fun h5=>?_) (fun h5=>?_)
    ·replace h5:x.kind=3:=by simpa using h5
     have hw:Zp' x=true:=by simp [Zp',h5]
     rw [show doB s n x=.put { s with txs:=setU s.txs n { t.x with own:=t.x.own++[Z4' x] } } by simp [doB,h1,hf,hw],hset,show Z4' x=⟨x.key,0,true⟩ by simp [Z4',h5]] at hK
     dsimp only at hK
     refine WP.draws Zq' 13<|RW.e 0 rfl Za'<|RW.e 1 rfl Za'<|RW.e 2 rfl Zk'<|RW.e 3 rfl (e_fa Qe')<|RW.e 4 rfl (Zc' a138)<|RW.e 5 rfl (e_fa X8')<|RW.e 6 rfl (Zc' a9)<|RW.e 7 rfl (Zv' z179 p179 (.o (.tmp 72) rfl<|.z (.int .u32 0)<|.o (.const (.bool true)) rfl<|.n)) ?_
     refine RW.any (is:=[8]) rfl ⟨?_,trivial⟩
     refine RWat.h rfl rfl rfl ?_
     refine (h_bs Yw' z179 (.a3 (.tmp 73) rfl<|.n) fun b4=>?_)
     refine ⟨⟨⟨_,rfl,.inl ⟨rfl,(Zc' a138)⟩⟩,⟨_,rfl,.inl ⟨rfl,(e_fa Qe')⟩⟩,⟨_,rfl,.inl ⟨rfl,Zk'⟩⟩,⟨_,rfl,.inl ⟨rfl,Za'⟩⟩,⟨_,rfl,.inl ⟨rfl,Za'⟩⟩,trivial⟩,?_⟩
     refine RW.any (is:=[9]) rfl ⟨?_,trivial⟩
     refine RWat.h rfl rfl rfl ?_
     refine (ZG' (xs:=t.x.own) (ys:=[⟨x.key,0,true⟩]) Yw' chgE z179 (Z7' chgE [⟨x.key,0,true⟩] rfl) (by simp;omega) (fun a5 n5 c5=>?_))
     refine ⟨⟨⟨_,rfl,.inl ⟨rfl,Za'⟩⟩,trivial⟩,?_⟩
     refine RW.e 10 rfl Zk'<|RW.e 11 rfl (e_fa Qe') ?_
     refine RW.any (is:=[12]) rfl ⟨?_,trivial⟩
     refine RWat.h' rfl rfl rfl ?_
     refine (Zj' s138 ?_)
     refine ⟨trivial,?_⟩
     refine RW.done<|PO.blockN<|PO.next<|WP.seq<|WP.reg<|WL.e (Zv' z40 p40 (.z (.slice none 0 0)<|.n)) ?_
     refine WL.h' (Zj' s40 ?_)
     refine WL.e Zb'<|WL.next<|WP.ret ?_
     rw [show List.map kvU s.txs=List.map kvU (A++{ t with x:={ t.x with own:=t.x.own++[⟨x.key,0,true⟩] } }::B) by rw [hts];simp [kvU]]
     refine PO.cls (A:=TxB_ { t with x:={ t.x with own:=t.x.own++[⟨x.key,0,true⟩] } }) (B:=[cl t.q 306 [.int .u32 t.x.at_.toNat,s1.v,.slice a5 n5 c5],Sl 45 2 SpanM.c s1.v t.x.looked,Sl 179 3 ChgM.c (.slice a5 n5 c5) (t.x.own++[⟨x.key,0,true⟩])]) (fun S h=>⟨(s1,⟨a5,n5,c5⟩),h⟩) ?_
     refine PO.cls (A:=TxsU TPB (A++{ t with x:={ t.x with own:=t.x.own++[⟨x.key,0,true⟩] } }::B)) (B:=[TxB_ { t with x:={ t.x with own:=t.x.own++[⟨x.key,0,true⟩] } },TxsU TPB (A++B)]) (fun S h=>Yb' (TP:=TPB) (t:={ t with x:={ t.x with own:=t.x.own++[⟨x.key,0,true⟩] } }) S h) ?_
     refine PO.cls (A:=Bs p dp ({ s with txs:=A++{ t with x:={ t.x with own:=t.x.own++[⟨x.key,0,true⟩] } }::B })) (B:=[cl p 146 [.pointer (some ⟨lp,0,none⟩),.pointer (some ⟨pp,0,none⟩),.map (some mb)],cl lp 166 [.pointer (some ⟨dp,0,none⟩),.int .i64 s.at_],Dk dp s.d,Pa pp s.H s.trim,Mp eU32 (.map (some mb)) (List.map kvU (A++{ t with x:={ t.x with own:=t.x.own++[⟨x.key,0,true⟩] } }::B))]) (fun S h=>⟨(lp,pp,mb),h⟩) ?_
     exact PO.fin Tryz.results196 (ZB' a40 (Zd' Zf')) hK
    ·replace h5:x.kind≠3:=by simpa using h5
     have hw:Zp' x=false:=by simp [Zp',h4,h5]
     rw [show doB s n x=.look { s with txs:=setU s.txs n { t.x with looked:=t.x.looked++[Zi' x] } } (ZT' (Zw' (ZJ' s.H t.x.at_.toNat) t.x.own) (Zi' x) 256) by simp [doB,h1,hf,hw],hset] at hK
     dsimp only at hK
     refine WP.seq<|WP.reg<|WL.e (Zm' a26) ?_
     refine WL.h (Zg' (Kk' _) k14 ?_)
     refine WL.h (Zu' z45 fun b5=>?_)
     refine WL.h' (Zj' s45 ?_)
     refine WL.next<|WP.seq<|WP.draws Zq' 11<|RW.e 0 rfl Za'<|RW.e 1 rfl Za'<|RW.e 2 rfl Zk'<|RW.e 3 rfl (e_fa ZcE_)<|RW.e 4 rfl (Zc' a22)<|RW.e 5 rfl (Zm' a45) ?_
     refine RW.any (is:=[6]) rfl ⟨?_,trivial⟩
     refine RWat.h rfl rfl rfl ?_
     refine (h_bs sl22 z45 (.a2 (.tmp 38) rfl<|.n) fun b6=>?_)
     refine ⟨⟨⟨_,rfl,.inl ⟨rfl,(Zc' a22)⟩⟩,⟨_,rfl,.inl ⟨rfl,(e_fa ZcE_)⟩⟩,⟨_,rfl,.inl ⟨rfl,Zk'⟩⟩,⟨_,rfl,.inl ⟨rfl,Za'⟩⟩,⟨_,rfl,.inl ⟨rfl,Za'⟩⟩,trivial⟩,?_⟩
     refine RW.any (is:=[7]) rfl ⟨?_,trivial⟩
     refine RWat.h rfl rfl rfl ?_
     refine (ZG' (xs:=t.x.looked) (ys:=[Zi' x]) sl22 Jk' z45 (Z7' Jk' [Zi' x] rfl) (by simp;omega) (fun a5 n5 c5=>?_))
     refine ⟨⟨⟨_,rfl,.inl ⟨rfl,Za'⟩⟩,trivial⟩,?_⟩
     refine RW.e 8 rfl Zk'<|RW.e 9 rfl (e_fa ZcE_) ?_
     refine RW.any (is:=[10]) rfl ⟨?_,trivial⟩
     refine RWat.h' rfl rfl rfl ?_
     refine (Zj' s22 ?_)
     refine ⟨trivial,?_⟩
     refine RW.done<|PO.next<|WP.seq<|WP.reg<|WL.e Za'<|WL.e Za'<|WL.e (Zm' a45)<|WL.cls (A:=Bs p dp (s)) (B:=[cl p 146 [.pointer (some ⟨lp,0,none⟩),.pointer (some ⟨pp,0,none⟩),.map (some mb)],cl lp 166 [.pointer (some ⟨dp,0,none⟩),.int .i64 s.at_],Dk dp s.d,Pa pp s.H s.trim,Mp eU32 (.map (some mb)) (List.map kvU s.txs)]) (fun S h=>⟨(lp,pp,mb),h⟩) ?_
     refine WL.h (Zg' (Zkk_ (t:=t) (Zi' x) hs (ZI' hf) (Zr' (E:=179) (u:=s2.v) (xs:=t.x.own))) k204 ?_)
     intro a8 m8 c8
     refine WL.opn (KK' (p:=p) (dp:=dp) (s:=s)) fun x=>?_
     obtain ⟨lp,pp,mb⟩:=x
     dsimp only
     refine WL.e (Zv' z40 p40 (.o (.tmp 46) rfl<|.n)) ?_
     refine WL.h' (Zj' s40 ?_)
     refine WL.e Zb'<|WL.next<|WP.ret<|PO.blockR<|PO.past nofun ?_
     rw [show List.map kvU s.txs=List.map kvU (A++{ t with x:={ t.x with looked:=t.x.looked++[Zi' x] } }::B) by rw [hts];simp [kvU]]
     refine PO.cls (A:=TxB_ { t with x:={ t.x with looked:=t.x.looked++[Zi' x] } }) (B:=[cl t.q 306 [.int .u32 t.x.at_.toNat,.slice a5 n5 c5,s2.v],Sl 45 2 SpanM.c (.slice a5 n5 c5) (t.x.looked++[Zi' x]),Sl 179 3 ChgM.c s2.v t.x.own]) (fun S h=>⟨(⟨a5,n5,c5⟩,s2),h⟩) ?_
     refine PO.cls (A:=TxsU TPB (A++{ t with x:={ t.x with looked:=t.x.looked++[Zi' x] } }::B)) (B:=[TxB_ { t with x:={ t.x with looked:=t.x.looked++[Zi' x] } },TxsU TPB (A++B)]) (fun S h=>Yb' (TP:=TPB) (t:={ t with x:={ t.x with looked:=t.x.looked++[Zi' x] } }) S h) ?_
     refine PO.cls (A:=Bs p dp ({ s with txs:=A++{ t with x:={ t.x with looked:=t.x.looked++[Zi' x] } }::B })) (B:=[cl p 146 [.pointer (some ⟨lp,0,none⟩),.pointer (some ⟨pp,0,none⟩),.map (some mb)],cl lp 166 [.pointer (some ⟨dp,0,none⟩),.int .i64 s.at_],Dk dp s.d,Pa pp s.H s.trim,Mp eU32 (.map (some mb)) (List.map kvU (A++{ t with x:={ t.x with looked:=t.x.looked++[Zi' x] } }::B))]) (fun S h=>⟨(lp,pp,mb),h⟩) ?_
     exact PO.fin Tryz.results196 (ZB' a40 (Zd' Zf')) (hK a8 m8 c8)
theorem Zgm_ {g:World} {A B:HP} {u y:Value} {xs:List (SpanM)} {p:SpanM→Bool} (hA:RL A 2 SpanM.c u xs) (hn:xs.length≤68719476736) (hy:∀ x,CallV Tryz.prog g y [.agg (SpanM.c x).toArray] [B] fun K R=>K (.bool (p x)) (B::R)) :
  Spec Tryz.prog g 46 [u,y] [A,B] fun K R=>K (.int .i64 (if xs.any p then (xs.findIdx p:Nat) else -1)) (A::B::R):=by
 refine Spec.intro Tryz.func46 rfl Tryz.ntmps46 rfl fun R K hK=>?_
 refine WP.seq<|WP.reg<|WL.e Zb'<|WL.next<|WP.seq<|WP.seq<|WP.reg<|WL.e Za'<|WL.e (ZD' sl22 hA)<|WL.e Za'<|WL.next<|WP.block<|WP.loopK (fun (i:Nat)=>[(8,.int .i64 i)]) (fun (i:Nat)=>A::B::R) [(0,_),(1,_),(7,_)] (fun (i:Nat)=>i≤xs.length∧(xs.take i).any p=false) (fun (i:Nat)=>xs.length - i) 0 (⟨Nat.zero_le _,by simp⟩) ?_
 rintro i ⟨h1,h2⟩
 refine WP.seq<|WP.reg<|WL.e Z3'<|WL.next<|WP.seq ?_
 refine WP.cond rfl (fun h3=>?_) (fun h3=>?_)
 ·have hlt:i < xs.length:=by rw [decide_eq_true_eq] at h3;omega
  obtain ⟨x,hx⟩:∃ x,xs[i]?=some x:=⟨_,List.getElem?_eq_getElem hlt⟩
  refine WP.skip<|PO.next<|WP.seq<|WP.block<|WP.seq<|WP.reg<|WL.e Za'<|WL.e Zb'<|WL.next<|WP.seq<|WP.reg<|WL.e Za'<|WL.e Za'<|WL.e Za'<|WL.e (ZZ' sl22 hA hlt)<|WL.e (YA' (vs:=SpanM.c x) a45 Jk' hA hx (hv:=Zaf_ (Jk'.len x))) ?_
  refine WL.h (YE' (hy x) ?_)
  refine WL.next ?_
  refine WP.cond rfl (fun h4=>?_) (fun h4=>?_)
  ·skip
   refine WP.seq<|WP.reg<|WL.e Za'<|WL.e Zb'<|WL.next<|WP.ret<|PO.blockR<|PO.past nofun<|PO.round nofun<|PO.blockR<|PO.past nofun ?_
   exact PO.finE Tryz.results46 (Zd' Zf') (by rw [Vw' h2 hx h4];rfl) hK
  ·skip
   refine WP.skip<|PO.blockN<|PO.next<|WP.reg<|WL.e (ZE' rfl rfl (Zt' (by omega) (by omega)))<|WL.e Za'<|WL.nil ?_
   exact PO.againK (i+1) ⟨by omega,by rw [ZA' hx,List.any_append,h2];simp [h4]⟩ (by omega)
 ·have hall:xs.any p=false:=by rw [decide_eq_false_iff_not] at h3;rwa [List.take_of_length_le (by omega)] at h2
  refine WP.exit<|PO.past nofun<|PO.round nofun<|PO.blockX<|PO.next<|WP.seq<|WP.reg<|WL.e Zb'<|WL.next<|WP.ret ?_
  exact PO.finE Tryz.results46 (Zd' Zf') (by rw [hall];rfl) hK
theorem Kq' {g:World} {A B:HP} {u y:Value} {xs:List SpanM} {p:SpanM→Bool} (hA:RL A 2 SpanM.c u xs) (hn:xs.length≤68719476736) (hy:∀ x,CallV Tryz.prog g y [.agg (SpanM.c x).toArray] [B] fun K R=>K (.bool (p x)) (B::R)) :
  Spec Tryz.prog g 28 [u,y] [A,B] fun K R=>K (.bool (xs.any p)) (A::B::R):=by
 refine Spec.intro Tryz.func28 rfl Tryz.ntmps28 rfl fun R K hK=>?_
 refine WP.seq<|WP.reg<|WL.e Zb'<|WL.next<|WP.seq<|WP.reg<|WL.e Za'<|WL.e Za' ?_
 refine WL.h (Zg' (Zgm_ hA hn hy) k46 ?_)
 refine WL.e YD'<|WL.e Zb'<|WL.next<|WP.ret ?_
 exact PO.finE Tryz.results28 (Zd' Zf') (by cases h:xs.any p <;> simp) hK
theorem Ziv_ {g:World} {c2 c6 p dp b:Nat} {s:StV} {t:TxT} {v1 v2:Value} (sp:SpanM) (hs:BetOk s b) (ht:t ∈ s.txs):Spec Tryz.prog g 202 [.agg (SpanM.c sp).toArray,.pointer (some ⟨c2,0,none⟩),.pointer (some ⟨c6,0,none⟩)] [cl c2 111 [.pointer (some ⟨p,0,none⟩)],cl c6 304 [.pointer (some ⟨t.q,0,none⟩)],cl t.q 306 [.int .u32 t.x.at_.toNat,v1,v2],Bs p dp s] fun K R=>K (.bool (JQ' s.H t.x.at_.toNat sp)) (cl c2 111 [.pointer (some ⟨p,0,none⟩)]::cl c6 304 [.pointer (some ⟨t.q,0,none⟩)]::cl t.q 306 [.int .u32 t.x.at_.toNat,v1,v2]::Bs p dp s::R):=by
 refine Spec.intro Tryz.func202 rfl Tryz.ntmps202 rfl fun R K hK=>?_
 refine WP.opn (KK' (p:=p) (dp:=dp) (s:=s)) fun x=>?_
 obtain ⟨lp,pp,mb⟩:=x
 dsimp only
 refine WP.seq<|WP.reg ?_
 refine WL.h (ZL' fun b1=>?_)
 refine WL.e Zb'<|WL.next<|WP.seq<|WP.draws Zq' 11<|RW.e 0 rfl (Zc' a111)<|RW.e 1 rfl Zk'<|RW.e 2 rfl (e_fa KA')<|RW.e 3 rfl (Zc' a142)<|RW.e 4 rfl (Zc' a304)<|RW.e 5 rfl Zk'<|RW.e 6 rfl (e_fa Zfo_)<|RW.e 7 rfl (Zc' a24)<|RW.e 8 rfl (Zm' a45) ?_
 refine RW.any (is:=[9]) rfl ⟨?_,trivial⟩
 refine RWat.h rfl rfl rfl ?_
 refine (Zg' (Zgj_ (p:=pp) (H:=s.H) (trim:=s.trim) t.x.at_ sp (hs.ats t ht).1 (by have:=hs.st.hl;have:=hs.st.bb;omega)) k203 ?_)
 refine ⟨trivial,?_⟩
 refine RW.e 10 rfl Zb'<|RW.done<|PO.next<|WP.ret<|PO.cls (A:=Bs p dp (s)) (B:=[cl p 146 [.pointer (some ⟨lp,0,none⟩),.pointer (some ⟨pp,0,none⟩),.map (some mb)],cl lp 166 [.pointer (some ⟨dp,0,none⟩),.int .i64 s.at_],Dk dp s.d,Pa pp s.H s.trim,Mp eU32 (.map (some mb)) (List.map kvU s.txs)]) (fun S h=>⟨(lp,pp,mb),h⟩) ?_
 exact PO.fin Tryz.results202 (Zd' Zf') hK
set_option maxHeartbeats 4000000 in
theorem Zfr_ {g:World} {p dp b:Nat} {s:StV} (n:UInt32) (hs:BetOk s b) (hb1:b+1≤1000000000):Spec Tryz.prog g 195 [.pointer (some ⟨p,0,none⟩),.int .u32 n.toNat] [Bs p dp s,TxsU TPB s.txs] fun K R=>K (.tuple #[.int .u32 (comN YG' s n).toNat,.int .i64 (comE YG' s n)]) (Bs p dp (comS YG' s n)::TxsU TPB (comS YG' s n).txs::R):=by
 refine Spec.intro Tryz.func195 rfl Tryz.ntmps195 rfl fun R K hK=>?_
 refine WP.seq<|WP.reg ?_
 refine WL.h (ZL' fun b1=>?_)
 refine WL.e Zb'<|WL.e Zb'<|WL.next<|WP.seq<|WP.seq<|WP.reg<|WL.e (Zc' a111) ?_
 refine WL.h (Zg' (KB') k200 ?_)
 refine WL.e Zx'<|WL.next<|WP.cond_f rfl<|WP.opn (KK' (p:=p) (dp:=dp) (s:=s)) fun x=>?_
 obtain ⟨lp,pp,mb⟩:=x
 dsimp only
 refine WP.skip<|PO.next<|WP.seq<|WP.reg<|WL.e (Zc' a111)<|WL.e Zk'<|WL.e (e_fa Kc')<|WL.e (Zc' a144)<|WL.e Za'<|WL.e (JV' (n:=n) (ts:=s.txs) Tryz.underlying144 (ZQ' Tryz.underlying24) ZdY_) ?_
 refine WL.h (Zu' z304 fun b2=>?_)
 refine WL.h' (Zj' s304 ?_)
 refine WL.next<|WP.seq<|WP.seq<|WP.reg<|WL.e (Zc' a304)<|WL.e (JW' ZdX_)<|WL.next ?_
 refine WP.cond rfl (fun h2=>?_) (fun h2=>?_)
 ·have hf:Zs' s.txs n=none:=by simpa using h2
  rw [show comE YG' s n=6 by simp [comE,hf],show comN YG' s n=0 by simp [comN,comE,hf],show comS YG' s n=s by simp [comS,hf]] at hK
  refine WP.seq<|WP.reg<|WL.e Zb'<|WL.e Zb'<|WL.next<|WP.ret<|PO.past nofun<|PO.cls (A:=Bs p dp (s)) (B:=[cl p 146 [.pointer (some ⟨lp,0,none⟩),.pointer (some ⟨pp,0,none⟩),.map (some mb)],cl lp 166 [.pointer (some ⟨dp,0,none⟩),.int .i64 s.at_],Dk dp s.d,Pa pp s.H s.trim,Mp eU32 (.map (some mb)) (List.map kvU s.txs)]) (fun S h=>⟨(lp,pp,mb),h⟩) ?_
  exact PO.fin Tryz.results195 (Zd' (Zd' Zf')) hK
 ·obtain ⟨t,hf⟩:∃ t,Zs' s.txs n=some t:=by cases e:Zs' s.txs n with
   | none=>rw [e] at h2;cases h2
   | some t=>exact ⟨t,rfl⟩
  rw [hf,Option.map_some]
  obtain ⟨hid,A,B,hts,hdel,_⟩:=Yc' hf
  refine WP.cls (A:=Bs p dp (s)) (B:=[cl p 146 [.pointer (some ⟨lp,0,none⟩),.pointer (some ⟨pp,0,none⟩),.map (some mb)],cl lp 166 [.pointer (some ⟨dp,0,none⟩),.int .i64 s.at_],Dk dp s.d,Pa pp s.H s.trim,Mp eU32 (.map (some mb)) (List.map kvU s.txs)]) (fun S h=>⟨(lp,pp,mb),h⟩) ?_
  refine WP.opn (Y5' (TP:=TPB) hts) fun _=>?_
  refine WP.opn (ZaX_ (t:=t)) fun x=>?_
  obtain ⟨s1,s2⟩:=x
  dsimp only
  rw [← hdel]
  have hol:=hs.st.own_le (ZI' hf)
  have hlk:=hs.st.lks t (ZI' hf)
  have hbb:=hs.st.bb
  have hhl:=hs.st.hl
  have hcl:=XK' t.x.own
  have hok:=hs.st.own t (ZI' hf)
  have hcl2:=hcl.2 hok
  have hall:t.x.own.all ZR'=true:=List.all_eq_true.2 hok
  have hrl:=K0' t.x.own
  have hdk:=hs.st.log
  refine WP.skip<|PO.next<|WP.seq<|WP.reg<|WL.e (Zc' a304)<|WL.e Zk'<|WL.e (e_fa ZcE_)<|WL.e (Zc' a22)<|WL.e Ym'<|WL.cls (A:=bun [cl b1 111 [.pointer (some ⟨p,0,none⟩)],cl b2 304 [.pointer (some ⟨t.q,0,none⟩)],cl t.q 306 [.int .u32 t.x.at_.toNat,s1.v,s2.v],Bs p dp s]) (B:=[cl b1 111 [.pointer (some ⟨p,0,none⟩)],cl b2 304 [.pointer (some ⟨t.q,0,none⟩)],cl t.q 306 [.int .u32 t.x.at_.toNat,s1.v,s2.v],Bs p dp s]) (fun S h=>h) ?_
  refine WL.h (Zg' (Kq' (B:=bun [cl b1 111 [.pointer (some ⟨p,0,none⟩)],cl b2 304 [.pointer (some ⟨t.q,0,none⟩)],cl t.q 306 [.int .u32 t.x.at_.toNat,s1.v,s2.v],Bs p dp s]) (xs:=t.x.looked) Zr' (by omega) (fun sp=>CallV.bun (CallV.of_spec (fs:=[]) (cs:=[.pointer (some ⟨b1,0,none⟩),.pointer (some ⟨b2,0,none⟩)]) (Ziv_ (c2:=b1) (c6:=b2) (p:=p) (dp:=dp) (t:=t) (v1:=s1.v) (v2:=s2.v) sp hs (ZI' hf)) k202))) k28 ?_)
  show WL _ _ _ _ _ _ _ _
  refine WL.open_ (k:=?_)
  refine WL.e Zb'<|WL.next<|WP.seq<|WP.reg<|WL.e (Zc' a111)<|WL.e Za' ?_
  refine WL.h (Zg' (ZcD_ n hs (by have:=hs.st.tl;omega)) k201 ?_)
  refine WL.next<|WP.seq<|WP.seq<|WP.reg<|WL.e Za'<|WL.next ?_
  refine WP.cond rfl (fun h3=>?_) (fun h3=>?_)
  ·have hck:YG'.chk s t.x=true:=h3
   rw [show comE YG' s n=9 by simp [comE,hf,hck],show comN YG' s n=0 by simp [comN,comE,hf,hck],show comS YG' s n=Xa' s n by simp only [comS,hf,hck,if_true];rfl] at hK
   refine WP.seq<|WP.reg<|WL.e Zb'<|WL.e Zb'<|WL.next<|WP.ret<|PO.past nofun ?_
   exact PO.fin Tryz.results195 (Zd' (Zd' Zf')) hK
  ·have hck:YG'.chk s t.x=false:=h3
   refine WP.skip<|PO.next<|WP.seq<|WP.reg<|WL.e (Zc' a304)<|WL.e Zk'<|WL.e (e_fa Qe')<|WL.e (Zc' a138) ?_
   refine WL.h (Zg' (JY' (u:=s2.v) (Zr' (xs:=t.x.own)) (by omega) (by omega)) k78 ?_)
   refine ⟨fun hb=>absurd hb (by rw [hall];simp),fun _ hle=>?_,fun _ hle a3 n3 c3=>?_⟩
   ·have hnf:¬ Y1' s t.x:=Zat_ hle
    rw [show comE YG' s n=5 by simp [comE,hf,hck,hnf],show comN YG' s n=0 by simp [comN,comE,hf,hck,hnf],show comS YG' s n=Xa' s n by simp only [comS,hf,hck,hnf,if_false,Bool.false_eq_true];rfl] at hK
    refine WL.e Za'<|WL.e Ze'<|WL.e Ze'<|WL.e Zb'<|WL.e Zb'<|WL.next<|WP.seq<|WP.seq<|WP.reg<|WL.e Za'<|WL.e Z2'<|WL.e Za' ?_
    refine WL.bool 41 rfl (fun hg=>?_) (fun hg=>?_)
    ·skip
     refine WL.skip<|WL.skip<|WL.skip<|WL.skip<|WL.skip<|WL.skip<|WL.skip<|WL.e Zn'<|WL.next<|WP.cond_t rfl<|WP.seq<|WP.reg<|WL.e Zb'<|WL.e Zb'<|WL.next<|WP.ret<|PO.past nofun ?_
     exact PO.fin Tryz.results195 (Zd' (Zd' Zf')) hK
    ·exact absurd hg (by decide) 
   ·refine WL.opn (KK' (p:=p) (dp:=dp) (s:=(Xa' s n))) fun x=>?_
    obtain ⟨lp,pp,mb⟩:=x
    dsimp only
    refine WL.e Za'<|WL.e Ze'<|WL.e Ze'<|WL.e Zb'<|WL.e Zb'<|WL.next<|WP.seq<|WP.seq<|WP.reg<|WL.e Za'<|WL.e Z2'<|WL.e Za' ?_
    refine WL.bool 41 rfl (fun hg=>?_) (fun hg=>?_)
    ·exact absurd hg (by decide) 
    ·skip
     refine WL.e (Zc' a111)<|WL.e Zk'<|WL.e (e_fa Zkl_)<|WL.e (Zc' a126)<|WL.e Za' ?_
     refine WL.h (Zg' (Zbr_ (i:=s.at_) (d:=s.d) (Zr' (xs:=Yn' t.x.own)) hdk.ok (by have:=hdk.le;have:=hdk.len;omega) (by rw [hdk.waits];simp)) k163 ?_)
     refine ⟨fun h=>?_,fun h h'=>?_,fun h h'=>?_⟩
     ·have hnf:¬ Y1' s t.x:=fun hf=>absurd hf.1 (by omega)
      rw [show comE YG' s n=5 by simp [comE,hf,hck,hnf],show comN YG' s n=0 by simp [comN,comE,hf,hck,hnf],show comS YG' s n=Xa' s n by simp only [comS,hf,hck,hnf,if_false,Bool.false_eq_true];rfl] at hK
      refine WL.e Z2'<|WL.e Zl'<|WL.next<|WP.cond_t rfl<|WP.seq<|WP.reg<|WL.e Zb'<|WL.e Zb'<|WL.next<|WP.ret<|PO.past nofun<|PO.cls (A:=Bs p dp ((Xa' s n))) (B:=[cl p 146 [.pointer (some ⟨lp,0,none⟩),.pointer (some ⟨pp,0,none⟩),.map (some mb)],cl lp 166 [.pointer (some ⟨dp,0,none⟩),.int .i64 s.at_],Dk dp s.d,Pa pp s.H (Xa' s n).trim,Mp eU32 (.map (some mb)) (List.map kvU (delU s.txs n))]) (fun S h=>⟨(lp,pp,mb),h⟩) ?_
      exact PO.fin Tryz.results195 (Zd' (Zd' Zf')) hK
     ·have hnf:¬ Y1' s t.x:=fun hf=>absurd hf.2 (by omega)
      rw [show comE YG' s n=5 by simp [comE,hf,hck,hnf],show comN YG' s n=0 by simp [comN,comE,hf,hck,hnf],show comS YG' s n=Xa' s n by simp only [comS,hf,hck,hnf,if_false,Bool.false_eq_true];rfl] at hK
      refine WL.e Z2'<|WL.e Zl'<|WL.next<|WP.cond_t rfl<|WP.seq<|WP.reg<|WL.e Zb'<|WL.e Zb'<|WL.next<|WP.ret<|PO.past nofun<|PO.cls (A:=Bs p dp ((Xa' s n))) (B:=[cl p 146 [.pointer (some ⟨lp,0,none⟩),.pointer (some ⟨pp,0,none⟩),.map (some mb)],cl lp 166 [.pointer (some ⟨dp,0,none⟩),.int .i64 s.at_],Dk dp s.d,Pa pp s.H (Xa' s n).trim,Mp eU32 (.map (some mb)) (List.map kvU (delU s.txs n))]) (fun S h=>⟨(lp,pp,mb),h⟩) ?_
      exact PO.fin Tryz.results195 (Zd' (Zd' Zf')) hK
     ·have hfit:Y1' s t.x:=⟨h,h'⟩
      refine WL.e Z2'<|WL.e Zl'<|WL.next<|WP.cond_f rfl<|WP.skip<|PO.next<|WP.seq<|WP.reg<|WL.e (Zc' a111)<|WL.e Zk'<|WL.e (e_fa Zkl_)<|WL.e (Zc' a126) ?_
      refine WL.h (Zg' (Uv' (d:=(addW s.d s.at_ (frame (Yn' t.x.own)) (secs (Yn' t.x.own).length))) (KW' _ _ _ _ hdk.ok)) k164 ?_)
      refine WL.next<|WP.seq<|WP.draws Zq' 13<|RW.e 0 rfl (Zc' a111)<|RW.e 1 rfl Zk'<|RW.e 2 rfl (e_fa KA')<|RW.e 3 rfl (Zc' a142)<|RW.e 4 rfl (Zc' a304)<|RW.e 5 rfl Zk'<|RW.e 6 rfl (e_fa Qe')<|RW.e 7 rfl (Zc' a138) ?_
      refine RW.any (is:=[8]) rfl ⟨?_,trivial⟩
      refine RWat.h rfl rfl rfl ?_
      refine (Zg' (Zaz_ (p:=pp) (H:=s.H) (trim:=(Xa' s n).trim) (u:=s2.v) (cs:=t.x.own) (Zr' (E:=179)) hok (by omega) (by omega)) k61 ?_)
      refine ⟨trivial,?_⟩
      refine RW.e 9 rfl Ze'<|RW.e 10 rfl Ze'<|RW.e 11 rfl Zb'<|RW.e 12 rfl Zb'<|RW.done<|PO.next<|WP.ret ?_
      rw [show comE YG' s n=0 by simp [comE,hf,hck,hfit],show comN YG' s n=UInt32.ofNat s.H.length+1 by simp [comN,comE,hf,hck,hfit],show comS YG' s n=addS (Xa' s n) t.x.own by simp only [comS,hf,hck,hfit,if_true,if_false,Bool.false_eq_true];rfl] at hK
      refine PO.cls (A:=Bs p dp (addS (Xa' s n) t.x.own)) (B:=[cl p 146 [.pointer (some ⟨lp,0,none⟩),.pointer (some ⟨pp,0,none⟩),.map (some mb)],cl lp 166 [.pointer (some ⟨dp,0,none⟩),.int .i64 (s.at_+secs (Yn' t.x.own).length:Nat)],Dk dp (addW s.d s.at_ (frame (Yn' t.x.own)) (secs (Yn' t.x.own).length)).sync,Pa pp (s.H++[t.x.own]) (Xa' s n).trim,Mp eU32 (.map (some mb)) (List.map kvU (delU s.txs n))]) (fun S h=>⟨(lp,pp,mb),h⟩) ?_
      exact PO.fin Tryz.results195 (Zd' (Zd' Zf')) hK
theorem Ziw_ {g:World} {p dp b:Nat} {s:StV} (hs:BetOk s b):Spec Tryz.prog g 198 [.pointer (some ⟨p,0,none⟩)] [Bs p dp s] fun K R=>∀ a m c,K (.slice a m c) (Sl 105 2 RowM.c (.slice a m c) s.rows::Bs p dp s::R):=by
 refine Spec.intro Tryz.func198 rfl Tryz.ntmps198 rfl fun R K hK=>?_
 refine WP.seq<|WP.reg<|WL.e Zb'<|WL.next<|WP.seq<|WP.seq<|WP.reg<|WL.e Za' ?_
 refine WL.h (Zg' (KB') k200 ?_)
 refine WL.e Zx'<|WL.next<|WP.cond_f rfl<|WP.opn (KK' (p:=p) (dp:=dp) (s:=s)) fun x=>?_
 obtain ⟨lp,pp,mb⟩:=x
 dsimp only
 have hbb:=hs.st.bb
 have hhl:=hs.st.hl
 have hsum:=hs.st.sum
 refine WP.skip<|PO.next<|WP.seq<|WP.draws Zq' 12<|RW.e 0 rfl Za'<|RW.e 1 rfl Zk'<|RW.e 2 rfl (e_fa KA')<|RW.e 3 rfl (Zc' a142)<|RW.e 4 rfl Za'<|RW.e 5 rfl Zk'<|RW.e 6 rfl (e_fa KA')<|RW.e 7 rfl (Zc' a142)<|RW.e 9 rfl (Zv' z45 p45 (.o (.const (.string ⟨#[48]⟩)) rfl<|.o (.const (.string ⟨#[122,122,122,122,122,122,122,122,122,122,122,122,122,122,122,122]⟩)) rfl<|.n)) ?_
 refine RW.any (is:=[8]) rfl ⟨?_,trivial⟩
 refine RWat.h rfl rfl rfl ?_
 refine (Zg' (Zay_) k206 ?_)
 refine ⟨⟨⟨_,rfl,.inl ⟨rfl,(Zv' z45 p45 (.o (.const (.string ⟨#[48]⟩)) rfl<|.o (.const (.string ⟨#[122,122,122,122,122,122,122,122,122,122,122,122,122,122,122,122]⟩)) rfl<|.n))⟩⟩,⟨_,rfl,.inl ⟨rfl,(Zc' a142)⟩⟩,⟨_,rfl,.inl ⟨rfl,(e_fa KA')⟩⟩,⟨_,rfl,.inl ⟨rfl,Zk'⟩⟩,⟨_,rfl,.inl ⟨rfl,Za'⟩⟩,trivial⟩,?_⟩
 refine RW.any (is:=[10]) rfl ⟨?_,trivial⟩
 refine RWat.h rfl rfl rfl ?_
 refine (Zg' (ZcA_ (p:=pp) (H:=s.H) (trim:=s.trim) (UInt32.ofNat s.H.length) Uk' 2147483647 (by rw [UInt32.le_iff_toNat_le,Vf' hs.st];exact hs.trim) (by rw [Vf' hs.st];exact Nat.le_refl _) (by omega) (by omega) (by decide)) k205 ?_)
 rw [Vf' hs.st,Zlv_ (YP' _ _) (Zch_ (fun cs hcs=>(hs.st.recs cs hcs).2) _) (by have:=VT' s.H s.H.length;omega)]
 intro a9 m9 c9
 refine ⟨trivial,?_⟩
 refine RW.e 11 rfl Zb'<|RW.done<|PO.next<|WP.ret<|PO.cls (A:=Bs p dp (s)) (B:=[cl p 146 [.pointer (some ⟨lp,0,none⟩),.pointer (some ⟨pp,0,none⟩),.map (some mb)],cl lp 166 [.pointer (some ⟨dp,0,none⟩),.int .i64 s.at_],Dk dp s.d,Pa pp s.H s.trim,Mp eU32 (.map (some mb)) (List.map kvU s.txs)]) (fun S h=>⟨(lp,pp,mb),h⟩) ?_
 exact PO.fin Tryz.results198 (Zd' Zf') (hK a9 m9 c9)
set_option maxHeartbeats 4000000 in
theorem ZdL_ {g:World} {dp:Nat} {d:DiskM} {at0:Nat} (H:List (List ChgM)) (hd:DiskLogB d at0 (H.map Yn')) (hok:∀ cs ∈ H,cs.length≤4096∧∀ c ∈ cs,ZR' c=true) :
  Spec Tryz.prog g 43 [.pointer (some ⟨dp,0,none⟩)] [Dk dp d] fun K R=>∀ p,K (.tuple #[.pointer (some ⟨p,0,none⟩),.int .i64 0]) (Bs p dp (st0 d at0 H)::TxsU TPB []::R):=by
 refine Spec.intro Tryz.func43 rfl Tryz.ntmps43 rfl fun R K hK=>?_
 refine WP.seq<|WP.reg<|WL.e Zb'<|WL.e Zb'<|WL.next<|WP.seq<|WP.reg<|WL.e Za' ?_
 refine WL.h (Zg' (Zab_ hd.ok (by rw [hd.waits];simp)) k55 ?_)
 intro lp rv xs hx
 obtain ⟨hz,ha,hc⟩:=hd.recs
 obtain rfl:tot xs=at0:=by rw [← ha,← hx];simp [tot];rfl
 have hxl:xs.map (·.2.1)=H.map Yn':=by rw [← hz,← hx];simp
 have hlen:xs.length=H.length:=by have:=congrArg List.length hxl;simpa using this
 have hxb:xs.length≤4096:=by have h7:=(ZaN_ _ d.seen.flatten (Nat.le_refl _)).2;rw [VN' hd.ok.l2,hd.ok.len] at h7;have h8:=hd.ok.le;have h9:=congrArg List.length hx;simp at h9;omega
 rw [hc,hd.sync]
 refine WL.e Za'<|WL.e Ze'<|WL.e Ze'<|WL.e Ze'<|WL.e Zb'<|WL.e Zb'<|WL.e Zb'<|WL.next<|WP.seq<|WP.seq<|WP.reg<|WL.e Za'<|WL.e Z2'<|WL.next<|WP.cond_f rfl<|WP.skip<|PO.next<|WP.seq<|WP.reg<|WL.e Za' ?_
 refine WL.h (Zg' (Zkh_) k60 ?_)
 intro pp
 refine WL.h (YN' (ek:=eU32) fun mb=>?_)
 refine WL.e (Zv' z146 p146 (.o (.tmp 21) rfl<|.o (.tmp 22) rfl<|.o (.tmp 23) rfl<|.n)) ?_
 refine WL.h (ZL' fun b1=>?_)
 refine WL.e Zb'<|WL.next<|WP.seq<|WP.seq<|WP.reg<|WL.e Za'<|WL.e (ZD' (xs:=xs) Uu' Zr')<|WL.e Za'<|WL.next<|WP.block<|WP.loopK (fun (i:Nat)=>[(28,.int .i64 i)]) (fun (i:Nat)=>cl b1 146 [.pointer (some ⟨lp,0,none⟩),.pointer (some ⟨pp,0,none⟩),.map (some mb)]::cl lp 166 [.pointer (some ⟨dp,0,none⟩),.int .i64 (tot xs)]::Dk dp d::Pa pp (H.take i) 0::Mp eU32 (.map (some mb)) ([]:List (UInt32 × Value))::Sl 137 1 recC rv.v xs::JF' xs::R) [(7,_),(26,_),(27,_)] (fun (i:Nat)=>i≤H.length) (fun (i:Nat)=>H.length - i) 0 (Nat.zero_le _) ?_
 intro i hi
 refine WP.seq<|WP.reg<|WL.e Z3'<|WL.next<|WP.seq ?_
 refine WP.cond rfl (fun h1=>?_) (fun h1=>?_)
 ·have hlt:i < xs.length:=by rw [decide_eq_true_eq] at h1;omega
  obtain ⟨x,hxi⟩:∃ x,xs[i]?=some x:=⟨_,List.getElem?_eq_getElem hlt⟩
  obtain ⟨y,hy⟩:∃ y,H[i]?=some y:=⟨_,List.getElem?_eq_getElem (by omega)⟩
  have hxy:x.2.1=Yn' y:=by have:=congrArg (·[i]?) hxl;simpa [hxi,hy] using this
  have hrl:=Zg4_ (List.mem_of_getElem? hxi)
  obtain ⟨hy1,hy2⟩:=hok y (List.mem_of_getElem? hy)
  refine WP.skip<|PO.next<|WP.seq<|WP.block<|WP.seq<|WP.reg<|WL.e (ZZ' (j:=i) (xs:=xs) Uu' Zr' hlt)<|WL.e (Ys' (j:=i) (xs:=xs) (a:=x) a137 ZdU_ Zr' hxi)<|WL.e Zb'<|WL.next<|WP.seq<|WP.reg<|WL.e Za' ?_
  refine WL.h (Zg' (V0' (v:=x.1) (l:=y) hy1 hy2 (hxy ▸ hrl)) k58 ?_)
  intro a5 n5 c5
  refine WL.e Za'<|WL.e Ze'<|WL.e Ze'<|WL.e Zb'<|WL.e Zb'<|WL.next<|WP.seq<|WP.seq<|WP.reg<|WL.e Za'<|WL.e ZM'<|WL.next<|WP.cond_t rfl<|WP.reg<|WL.e Za'<|WL.e Zk'<|WL.e (e_fa KA')<|WL.e (Zc' a142)<|WL.e Za' ?_
  refine WL.h (Zg' (Zaz_ (p:=pp) (H:=H.take i) (trim:=0) (cs:=y) (Zr' (E:=179)) hy2 (by omega) (by rw [List.length_take];omega)) k61 ?_)
  refine WL.e Za'<|WL.e Ze'<|WL.e Ze'<|WL.e Zb'<|WL.next<|WP.seq<|WP.reg<|WL.e Za'<|WL.e Z2'<|WL.next<|WP.cond_f rfl<|WP.skip<|PO.blockN<|PO.next<|WP.reg<|WL.e (ZE' rfl rfl (Zt' (by omega) (by omega)))<|WL.e Za'<|WL.nil ?_
  rw [← ZA' hy]
  exact PO.againK (i+1) (by omega) (by omega)
 ·rw [List.take_of_length_le (show H.length≤i by rw [decide_eq_false_iff_not] at h1;omega)]
  refine WP.exit<|PO.past nofun<|PO.round nofun<|PO.blockX<|PO.next<|WP.seq<|WP.reg<|WL.e Za'<|WL.e Zb'<|WL.e Zb'<|WL.next<|WP.ret<|PO.conv (fun S h=>Vz' (TP:=TPB) h) ?_
  refine PO.cls (A:=Bs b1 dp (st0 d (tot xs) H)) (B:=[cl b1 146 [.pointer (some ⟨lp,0,none⟩),.pointer (some ⟨pp,0,none⟩),.map (some mb)],cl lp 166 [.pointer (some ⟨dp,0,none⟩),.int .i64 (tot xs)],Dk dp d,Pa pp (H) 0,Mp eU32 (.map (some mb)) ([]:List (UInt32 × Value))]) (fun S h=>⟨(lp,pp,mb),h⟩) ?_
  exact PO.fin Tryz.results43 (Zd' (Zd' Zf')) (hK b1)
end Go.SL
set_option linter.unusedSectionVars false
namespace Go.SL
open Go
structure TxV where
  id:UInt32
  num:UInt32
  own:List ChgM
  q:Nat
  sv:SV
structure GamV where
  d:DiskM
  at_:Nat
  rows:List RowM
  nums:List (ByteArray × UInt32)
  last:UInt32
  looks:List (UInt32 × SpanM)
  txs:List TxV
def ZV' (ts:List TxV) (n:UInt32):Option TxV:=ts.find? fun t=>decide (t.id=n)
def delT (ts:List TxV) (n:UInt32):List TxV:=ts.eraseP fun t=>decide (t.id=n)
def kvT (t:TxV):UInt32 × Value:=(t.id,.pointer (some ⟨t.q,0,none⟩))
theorem Zg7_ (ts:List TxV) (n:UInt32):mget (ts.map kvT) n=(ZV' ts n).map fun t=>.pointer (some ⟨t.q,0,none⟩):=by
  unfold mget ZV'
  induction ts with
  | nil=>rfl
  | cons t ts ih=>
    simp only [List.map_cons,List.find?_cons,kvT]
    by_cases h:t.id=n
    · simp [h]
    · simp only [h,decide_false];exact ih
theorem Znm_ (ts:List TxV) (n:UInt32):mdel (ts.map kvT) n=(delT ts n).map kvT:=by
  unfold mdel midx delT
  induction ts with
  | nil=>rfl
  | cons t ts ih=>
    simp only [List.map_cons,List.findIdx?_cons,List.eraseP_cons,kvT]
    by_cases h:t.id=n
    · simp [h]
    · simp only [h,decide_false,Bool.false_eq_true,if_false,cond_false]
      cases hm:List.findIdx? (fun p:UInt32 × Value=>decide (p.1=n)) (ts.map kvT) with
      | none=>rw [hm] at ih;simp [ih,kvT]
      | some j=>rw [hm] at ih;simp only [Option.map_some,List.eraseIdx_cons_succ,List.map_cons];rw [← ih];rfl
theorem Znn_ (ts:List TxV) (t:TxV) (h:ZV' ts t.id=none):mset (ts.map kvT) t.id (.pointer (some ⟨t.q,0,none⟩))=(ts++[t]).map kvT:=by
  have h1:midx (ts.map kvT) t.id=none:=by rw [KS',Zg7_,h];rfl
  simp [mset,h1,kvT]
def minL (ts:List TxV) (m:UInt32):UInt32:=ts.foldl (fun m t=>if t.num < m then t.num else m) m
theorem ZlY_ (A B:List TxV) (t:TxV) (m:UInt32):minL (A++t::B) m=minL (A++B) (if t.num < m then t.num else m):=by
  induction A generalizing m with
  | nil=>rfl
  | cons a A ih=>
    show minL (A++t::B) _=minL (A++B) _
    rw [ih];congr 1;exact Zlg_ m a.num t.num
def Yj' (s:GamV) (n:UInt32):GamV:=
  { s with txs:=delT s.txs n,looks:=s.looks.filter fun x=>!decide (x.1 < minL (delT s.txs n) s.last) }
def Qu' (t:TxV) (p:SpanM):Bool:=t.own.any fun c=>meet (one c.key) p
def Yl' (ts:List TxV) (n:UInt32) (p:SpanM):List UInt32:=(ts.filter fun o=>!decide (o.id=n) && Qu' o p).map (·.num)
theorem Qf' (A B:List TxV) (n:UInt32) (p:SpanM):Yl' (A++B) n p=Yl' A n p++Yl' B n p:=by simp [Yl']
theorem UN' (t:TxV) (n:UInt32) (p:SpanM):Yl' [t] n p=if t.id=n then [] else if Qu' t p then [t.num] else []:=by
  unfold Yl'
  by_cases h:t.id=n
  · simp [h]
  · cases h2:Qu' t p <;> simp [h,h2]
theorem UO' (A B:List TxV) (t:TxV) (n:UInt32) (p:SpanM):Yl' (A++t::B) n p=Yl' A n p++(Yl' [t] n p++Yl' B n p):=by
  rw [show A++t::B=A++([t]++B) by simp,Qf',Qf']
def Jm' (s:GamV) (t:TxV) (p:SpanM) (w:Bool):Bool:=
  Xv' s.nums t.num p || (w && ((Yl' s.txs t.id p).any (fun n=>decide (t.num < n)) || s.looks.any fun x=>decide (t.num < x.1) && meet x.2 p))
structure GI where
  lp:Nat
  mp:Nat
  nm:Value
  lm:Value
  sv:SV
theorem ZlZ_ {ts:List TxV} {a b:List (UInt32 × Value)} {y:UInt32 × Value} {G:Prop} (hx:ts.map kvT=a++y::b) (n:UInt32)
    (h1:∀ A t B,ts=A++t::B→a=A.map kvT→y=kvT t→b=B.map kvT→t.id=n→G) (h2:∀ A t B,ts=A++t::B→a=A.map kvT→y=kvT t→b=B.map kvT→t.id≠n→G):G:=by
  obtain ⟨A,t,B,e1,e2,e3,e4⟩:=Xw' hx
  by_cases h:t.id=n
  · exact h1 A t B e1 e2 e3 e4 h
  · exact h2 A t B e1 e2 e3 e4 h
theorem Jh' {ts:List TxV} {n:UInt32} {t:TxV} (h:ZV' ts n=some t):t.id=n∧∃ A B,ts=A++t::B∧delT ts n=A++B∧∀ x ∈ A,x.id≠n:=by
  unfold ZV' at h
  induction ts with
  | nil=>simp at h
  | cons x ts ih=>
    rw [List.find?_cons] at h
    by_cases e:x.id=n
    · simp [e] at h;subst h
      exact ⟨e,[],ts,rfl,by simp [delT,e],by simp⟩
    · simp [e] at h
      obtain ⟨h1,A,B,h2,h3,h4⟩:=ih (by simpa using h)
      refine ⟨h1,x::A,B,by simp [h2],by simp only [delT,List.eraseP_cons,e,decide_false,cond_false,List.cons_append] at h3 ⊢;rw [h3],?_⟩
      intro y hy
      rcases List.mem_cons.1 hy with rfl | hy
      · exact e
      · exact h4 y hy
theorem ZaA_ {A B:List TxV} {t:TxV} (h:((A++t::B).map (·.id)).Nodup):∀ x ∈ A++B,x.id≠t.id:=by
  rw [List.map_append,List.map_cons] at h
  obtain ⟨h1,h2,h3⟩:=List.nodup_append.1 h
  have h4:=(List.nodup_cons.1 h2).1
  intro x hx e
  rcases List.mem_append.1 hx with hx | hx
  · exact h3 x.id (List.mem_map.2 ⟨x,hx,rfl⟩) t.id (by simp) e
  · exact h4 (e ▸ List.mem_map.2 ⟨x,hx,rfl⟩)
structure GamOk (s:GamV) (b:Nat):Prop where
  dok:s.d.ok
  hat:s.at_≤s.d.sure.length
  waits:s.d.waits=[]
  rising:ZC' s.rows
  sum:s.rows.length+(s.txs.map fun t=>t.own.length).sum≤b
  looks:s.looks.length≤b
  ids:(s.txs.map (·.id)).Nodup
  own:∀ t ∈ s.txs,∀ c ∈ t.own,ZR' c=true
  bb:b≤1000000000
theorem GamOk.own_le {s:GamV} {b:Nat} (h:GamOk s b) {t:TxV} (ht:t ∈ s.txs):s.rows.length+t.own.length≤b:=by
  have:=h.sum
  obtain ⟨A,B,e⟩:=KZ' ht
  rw [e] at this
  simp at this;omega
theorem Zgn_ {ts A B:List TxV} {t y:TxV} (h:ts=A++t::B) (hy:y ∈ ts) (hid:y.id≠t.id):y ∈ A++B:=by
  rw [h] at hy
  simp only [List.mem_append,List.mem_cons] at hy ⊢
  rcases hy with h | rfl | h
  · exact .inl h
  · exact absurd rfl hid
  · exact .inr h
theorem Zix_ {ts A B:List TxV} {t y:TxV} (h:ts=A++t::B) (hnd:(ts.map (·.id)).Nodup) (hy:y ∈ ts) (hid:y.id=t.id):y=t:=by
  rw [h] at hy hnd
  simp only [List.mem_append,List.mem_cons] at hy
  have hn:=ZaA_ hnd
  rcases hy with h | rfl | h
  · exact absurd hid (hn y (by simp [h]))
  · rfl
  · exact absurd hid (hn y (by simp [h]))
section
variable {P : Program} {r : Option Nat} {g : World} {Γ : Env} {L M : List HP} {dst : Option Tmp} {t : TypeId} {pos : String} {aft : Array Edge} {gd : Option (Nat × Bool)}
theorem ZaY_ {x i:Operand} {T e kt:TypeId} {d:TypeDesc} {n:UInt32} {ts:List TxV} {m:Value} (ht:P.underlying T=some (.map kt e)) (hk:KeyOk P kt d eU32) (hz:(P.info? e).bind (·.zero)=some (.pointer none)) (hx:ev Γ x=some m:=by rfl) (hi:ev Γ i=some (.int .u32 n.toNat):=by rfl) (hp:Pick L (Mp eU32 m (List.map kvT ts)) M:=by repeat first | exact .z | apply Pick.s) :
    EO P g ⟨dst,.lookup T x i false,t,pos,aft,gd⟩ Γ L (.pointer ((ZV' ts n).map fun t=>⟨t.q,0,none⟩)):=by
  have h:=Zec_ (g:=g) (L:=L) (dst:=dst) (t:=t) (pos:=pos) (aft:=aft) (gd:=gd) (x:=x) (i:=i) (k:=n) ht hk hz hx hi hp
  rw [Zg7_] at h
  cases hf:ZV' ts n with
  | none=>rw [hf] at h;exact h
  | some t=>rw [hf] at h;exact h
end
end Go.SL
namespace Go.SL.Fc
open Go Go.Proofs Go.SL
theorem a360:ZK' Tryz.prog 360=some (some 3):=by kernel_rfl
theorem k269:Zh' Tryz.prog 269=true:=by kernel_rfl
theorem s360:szOf Tryz.prog 360=some 3:=by kernel_rfl
theorem QM':slOf Tryz.prog 150=some (360,3,40):=by kernel_rfl
theorem z360:ZH' Tryz.prog 360=some [.int .u32 0,.string .empty,.string .empty]:=by kernel_rfl
end Go.SL.Fc
namespace Go.SL
open Go Go.Proofs Fc
theorem ZaB_ {g:World} {A B:HP} {u y:Value} {xs:List (UInt32 × SpanM)} {p:UInt32 × SpanM→Bool} (hA:RL A 3 Ye' u xs) (hn:xs.length≤68719476736) (hy:∀ x,CallV Tryz.prog g y [.agg (Ye' x).toArray] [B] fun K R=>K (.bool (p x)) (B::R)) :
  Spec Tryz.prog g 269 [u,y] [A,B] fun K R=>K (.int .i64 (if xs.any p then (xs.findIdx p:Nat) else -1)) (A::B::R):=by
 refine Spec.intro Tryz.func269 rfl Tryz.ntmps269 rfl fun R K hK=>?_
 refine WP.seq<|WP.reg<|WL.e Zb'<|WL.next<|WP.seq<|WP.seq<|WP.reg<|WL.e Za'<|WL.e (ZD' QM' hA)<|WL.e Za'<|WL.next<|WP.block<|WP.loopK (fun (i:Nat)=>[(8,.int .i64 i)]) (fun (i:Nat)=>A::B::R) [(0,_),(1,_),(7,_)] (fun (i:Nat)=>i≤xs.length∧(xs.take i).any p=false) (fun (i:Nat)=>xs.length - i) 0 (⟨Nat.zero_le _,by simp⟩) ?_
 rintro i ⟨h1,h2⟩
 refine WP.seq<|WP.reg<|WL.e Z3'<|WL.next<|WP.seq ?_
 refine WP.cond rfl (fun h3=>?_) (fun h3=>?_)
 ·have hlt:i < xs.length:=by rw [decide_eq_true_eq] at h3;omega
  obtain ⟨x,hx⟩:∃ x,xs[i]?=some x:=⟨_,List.getElem?_eq_getElem hlt⟩
  refine WP.skip<|PO.next<|WP.seq<|WP.block<|WP.seq<|WP.reg<|WL.e Za'<|WL.e Zb'<|WL.next<|WP.seq<|WP.reg<|WL.e Za'<|WL.e Za'<|WL.e Za'<|WL.e (ZZ' QM' hA hlt)<|WL.e (YA' (vs:=Ye' x) a360 Vd' hA hx (hv:=Zaf_ (Vd'.len x))) ?_
  refine WL.h (YE' (hy x) ?_)
  refine WL.next ?_
  refine WP.cond rfl (fun h4=>?_) (fun h4=>?_)
  ·skip
   refine WP.seq<|WP.reg<|WL.e Za'<|WL.e Zb'<|WL.next<|WP.ret<|PO.blockR<|PO.past nofun<|PO.round nofun<|PO.blockR<|PO.past nofun ?_
   exact PO.finE Tryz.results269 (Zd' Zf') (by rw [Vw' h2 hx h4];rfl) hK
  ·skip
   refine WP.skip<|PO.blockN<|PO.next<|WP.reg<|WL.e (ZE' rfl rfl (Zt' (by omega) (by omega)))<|WL.e Za'<|WL.nil ?_
   exact PO.againK (i+1) ⟨by omega,by rw [ZA' hx,List.any_append,h2];simp [h4]⟩ (by omega)
 ·have hall:xs.any p=false:=by rw [decide_eq_false_iff_not] at h3;rwa [List.take_of_length_le (by omega)] at h2
  refine WP.exit<|PO.past nofun<|PO.round nofun<|PO.blockX<|PO.next<|WP.seq<|WP.reg<|WL.e Zb'<|WL.next<|WP.ret ?_
  exact PO.finE Tryz.results269 (Zd' Zf') (by rw [hall];rfl) hK
theorem Zc6_ {g:World} {A B:HP} {u y:Value} {xs:List (UInt32 × SpanM)} {p:UInt32 × SpanM→Bool} (hA:RL A 3 Ye' u xs) (hn:xs.length≤68719476736) (hy:∀ x,CallV Tryz.prog g y [.agg (Ye' x).toArray] [B] fun K R=>K (.bool (p x)) (B::R)) :
  Spec Tryz.prog g 265 [u,y] [A,B] fun K R=>K (.bool (xs.any p)) (A::B::R):=by
 refine Spec.intro Tryz.func265 rfl Tryz.ntmps265 rfl fun R K hK=>?_
 refine WP.seq<|WP.reg<|WL.e Zb'<|WL.next<|WP.seq<|WP.reg<|WL.e Za'<|WL.e Za' ?_
 refine WL.h (Zg' (ZaB_ hA hn hy) k269 ?_)
 refine WL.e YD'<|WL.e Zb'<|WL.next<|WP.ret ?_
 exact PO.finE Tryz.results265 (Zd' Zf') (by cases h:xs.any p <;> simp) hK
theorem Zkm_ {g:World} {B:HP} {u y:Value} {xs:List (UInt32 × SpanM)} {p:(UInt32 × SpanM)→Bool} (hn:xs.length≤68719476736) (hy:∀ x,CallV Tryz.prog g y [.agg (Ye' x).toArray] [B] fun K R=>K (.bool (p x)) (B::R)) :
  Spec Tryz.prog g 262 [u,y] [Sl 360 3 Ye' (u) (xs),B] fun K R=>∀ a m c,K (.slice a m c) (Sl 360 3 Ye' (.slice a m c) (xs.filter fun x=>!p x)::B::R):=by
 refine Spec.intro Tryz.func262 rfl Tryz.ntmps262 rfl fun R K hK=>?_
 refine WP.seq<|WP.reg<|WL.e Zb'<|WL.next<|WP.seq<|WP.reg<|WL.e Za'<|WL.e Za' ?_
 refine WL.h (Zg' (ZaB_ (Zr' (xs:=xs)) hn hy) k269 ?_)
 refine WL.e Zb'<|WL.next<|WP.seq<|WP.seq<|WP.reg<|WL.e Za'<|WL.e ZM'<|WL.next ?_
 refine WP.cond rfl (fun h1=>?_) (fun h1=>?_)
 ·have hall:xs.any p=false:=by cases e:xs.any p with
   | false=>rfl
   | true=>rw [e] at h1;simp at h1
  have hf:(xs.filter fun x=>!p x)=xs:=by rw [List.filter_eq_self];intro x hx;rw [List.any_eq_false] at hall;simpa using hall x hx
  refine WP.seq<|WP.reg<|WL.e Za'<|WL.e Zb'<|WL.next<|WP.ret<|PO.past nofun<|PO.sh (u:=u) ?_
  rintro a m c rfl
  rw [hf] at hK
  exact PO.fin Tryz.results262 (Zd' Zf') (hK a m c)
 ·have hany:xs.any p=true:=by cases e:xs.any p with
   | true=>rfl
   | false=>rw [e] at h1;simp at h1
  rw [hany,if_pos rfl]
  have hi0:xs.findIdx p < xs.length:=List.findIdx_lt_length.2 (by simpa using hany)
  have h00:(xs.take (xs.findIdx p)).filter (fun x=>!p x)=xs.take (xs.findIdx p):=by rw [List.filter_eq_self];intro x hx;obtain ⟨i,hi,rfl⟩:=List.getElem_of_mem hx;simp at hi;have:=List.not_of_lt_findIdx (p:=p) (xs:=xs) (i:=i) (by omega);simpa using this
  have h01:(xs.take (xs.findIdx p+1)).filter (fun x=>!p x)=xs.take (xs.findIdx p):=by rw [ZA' (List.getElem?_eq_getElem hi0),List.filter_append,h00];simp [List.findIdx_getElem]
  refine WP.skip<|PO.next<|WP.seq<|WP.seq<|WP.reg<|WL.e Za'<|WL.e (ZE' (c:=((xs.findIdx p+1:Nat):Int)) rfl rfl (by rw [Zt' (by omega) (by omega)];omega))<|WL.e Zb'<|WL.next<|WP.block<|WP.loopK (fun (x:Nat × Nat × List (UInt32 × SpanM))=>[(5,.int .i64 x.1),(6,.int .i64 x.2.1)]) (fun (x:Nat × Nat × List (UInt32 × SpanM))=>Sl 360 3 Ye' (u) (x.2.2)::B::R) [(0,_),(1,_),(4,_)] (fun (x:Nat × Nat × List (UInt32 × SpanM))=>x.1≤x.2.1∧x.2.1≤xs.length∧x.2.2.length=xs.length∧x.2.2.drop x.2.1=xs.drop x.2.1∧x.2.2.take x.1=(xs.take x.2.1).filter (fun x=>!p x)) (fun (x:Nat × Nat × List (UInt32 × SpanM))=>xs.length - x.2.1) (xs.findIdx p,xs.findIdx p+1,xs) (⟨Nat.le_succ _,hi0,rfl,rfl,h01.symm⟩) ?_
  rintro ⟨i,j,ys⟩ ⟨hij,hj,hl,hd,ht⟩
  simp only at hij hj hl hd ht
  dsimp only
  refine WP.seq<|WP.seq<|WP.reg<|WL.e Za'<|WL.e Za'<|WL.e (ZD' (xs:=ys) QM' Zr')<|WL.e Z3'<|WL.next ?_
  refine WP.cond rfl (fun h3=>?_) (fun h3=>?_)
  ·have hlt:j < xs.length:=by rw [decide_eq_true_eq,hl] at h3;omega
   obtain ⟨x,hx⟩:∃ x,xs[j]?=some x:=⟨_,List.getElem?_eq_getElem hlt⟩
   have hyx:ys[j]?=some x:=by have:=congrArg (·[0]?) hd;simp only [List.getElem?_drop,Nat.add_zero] at this;rw [this,hx]
   refine WP.skip<|PO.next<|WP.seq<|WP.block<|WP.seq<|WP.reg<|WL.e Za'<|WL.e Za'<|WL.e (ZZ' (j:=j) (xs:=ys) QM' Zr' (by omega))<|WL.e (YA' (vs:=Ye' x) a360 Vd' (Zr' (xs:=ys)) hyx (hv:=Zaf_ (Vd'.len x))) ?_
   refine WL.h (Zu' z360 fun b1=>?_)
   refine WL.h' (Zj' s360 ?_)
   refine WL.next<|WP.seq<|WP.reg<|WL.e Za'<|WL.e (Zm' a360) ?_
   refine WL.h (YE' (hy x) ?_)
   refine WL.e Zx'<|WL.next ?_
   refine WP.cond rfl (fun h4=>?_) (fun h4=>?_)
   ·skip
    refine WP.seq<|WP.reg<|WL.e Za'<|WL.e Za'<|WL.e (Zm' a360)<|WL.e (ZZ' (j:=i) (xs:=ys) QM' Zr' (by omega)) ?_
    refine WL.h' (Vq' (xs:=ys) (j:=i) x s360 Vd' (by omega) ?_)
    refine WL.next<|WP.reg<|WL.e Za'<|WL.e (ZE' (c:=((i+1:Nat):Int)) rfl rfl (by rw [Zt' (by omega) (by omega)];omega))<|WL.e Zb'<|WL.nil<|PO.blockN<|PO.next<|WP.reg<|WL.e Za'<|WL.e (ZE' (c:=((j+1:Nat):Int)) rfl rfl (by rw [Zt' (by omega) (by omega)];omega))<|WL.e Zb'<|WL.nil ?_
    exact PO.againK (i+1,j+1,ys.set i x) ⟨by simp only;omega,by simp only;omega,by simp [hl],by simp only;rw [List.drop_set_of_lt (by omega),← List.drop_drop,hd,List.drop_drop],by simp only;rw [ZA' (show (ys.set i x)[i]?=some x by rw [List.getElem?_set_self (by omega)]),List.take_set_of_le (Nat.le_refl i),ht,ZA' hx,List.filter_append];simp at h4;simp [h4]⟩ (by simp only;omega)
   ·skip
    refine WP.skip<|PO.blockN<|PO.next<|WP.reg<|WL.e Za'<|WL.e (ZE' (c:=((j+1:Nat):Int)) rfl rfl (by rw [Zt' (by omega) (by omega)];omega))<|WL.e Zb'<|WL.nil ?_
    exact PO.againK (i,j+1,ys) ⟨by simp only;omega,by simp only;omega,hl,by simp only;rw [← List.drop_drop,hd,List.drop_drop],by simp only;rw [ht,ZA' hx,List.filter_append];simp at h4;simp [h4]⟩ (by simp only;omega)
  ·obtain rfl:j=xs.length:=by rw [decide_eq_false_iff_not,hl] at h3;omega
   rw [List.take_length] at ht
   refine WP.exit<|PO.past nofun<|PO.round nofun<|PO.blockX<|PO.next<|WP.seq<|WP.reg<|WL.e Za'<|WL.e Za'<|WL.e (XV' (lo:=i) (xs:=ys) QM' Zr' (by omega)) ?_
   refine WL.h' (ZeA_ (lo:=i) (xs:=ys) (0,⟨.empty,.empty⟩) QM' z360 Vd' rfl (by omega) (by omega) ?_)
   refine WL.next<|WP.seq<|WP.reg<|WL.e Za'<|WL.e Za'<|WL.e (VH' (hi:=i) (xs:=ys.take i++List.replicate (ys.length - i) (0,⟨.empty,.empty⟩)) QM' Zr' (by simp;omega))<|WL.e Zb'<|WL.next<|WP.ret ?_
   refine PO.conv (YS' (B:=Sl 360 3 Ye' (subV u 0 i none 3) (xs.filter fun x=>!p x)) (A:=Sl 360 3 Ye' (u) (ys.take i++List.replicate (ys.length - i) (0,⟨.empty,.empty⟩))) (fun S h=>?_) (by repeat first | exact .z | apply Put.s)) ?_
   ·have h:=ZhL_ (i:=i) Vd' h (by simp;omega)
    rwa [List.take_left' (by simp;omega),ht] at h
   refine PO.sh (u:=subV u 0 i none 3) ?_
   intro a m c he
   rw [he]
   exact PO.fin Tryz.results262 (Zd' Zf') (hK a m c)
end Go.SL
