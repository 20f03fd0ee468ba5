import Derived.Test.YtmeoolijekillaaGreatDoorQL25
set_option linter.unusedSimpArgs false
set_option linter.unusedVariables false
namespace Go.SL.Fc
open Go Go.Proofs Go.SL
theorem a100:aggOf Tryz.prog 100=some none:=by kernel_rfl
theorem a238:aggOf Tryz.prog 238=some none:=by kernel_rfl
theorem a263:aggOf Tryz.prog 263=some none:=by kernel_rfl
theorem a268:aggOf Tryz.prog 268=some none:=by kernel_rfl
theorem a86:aggOf Tryz.prog 86=some none:=by kernel_rfl
theorem a87:aggOf Tryz.prog 87=some none:=by kernel_rfl
theorem a98:aggOf Tryz.prog 98=some none:=by kernel_rfl
theorem ar88:arrOf Tryz.prog 88=some (87,4,1):=by kernel_rfl
theorem ar99:arrOf Tryz.prog 99=some (85,2,1):=by kernel_rfl
theorem f104_0:fldOf Tryz.prog 104 0=some 0:=by kernel_rfl
theorem f104_1:fldOf Tryz.prog 104 1=some 1:=by kernel_rfl
theorem f104_2:fldOf Tryz.prog 104 2=some 3:=by kernel_rfl
theorem f104_3:fldOf Tryz.prog 104 3=some 4:=by kernel_rfl
theorem f104_4:fldOf Tryz.prog 104 4=some 5:=by kernel_rfl
theorem f104_5:fldOf Tryz.prog 104 5=some 6:=by kernel_rfl
theorem f266_0:fldOf Tryz.prog 266 0=some 0:=by kernel_rfl
theorem f266_1:fldOf Tryz.prog 266 1=some 1:=by kernel_rfl
theorem f270_3:fldOf Tryz.prog 270 3=some 3:=by kernel_rfl
theorem f91_0:fldOf Tryz.prog 91 0=some 0:=by kernel_rfl
theorem f91_1:fldOf Tryz.prog 91 1=some 1:=by kernel_rfl
theorem f91_2:fldOf Tryz.prog 91 2=some 2:=by kernel_rfl
theorem f91_3:fldOf Tryz.prog 91 3=some 6:=by kernel_rfl
theorem f91_5:fldOf Tryz.prog 91 5=some 8:=by kernel_rfl
theorem k101:callable Tryz.prog 101=true:=by kernel_rfl
theorem k102:callable Tryz.prog 102=true:=by kernel_rfl
theorem k141:callable Tryz.prog 141=true:=by kernel_rfl
theorem k148:callable Tryz.prog 148=true:=by kernel_rfl
theorem k159:callable Tryz.prog 159=true:=by kernel_rfl
theorem k160:callable Tryz.prog 160=true:=by kernel_rfl
theorem k161:callable Tryz.prog 161=true:=by kernel_rfl
theorem k162:callable Tryz.prog 162=true:=by kernel_rfl
theorem k192:callable Tryz.prog 192=true:=by kernel_rfl
theorem k205:callable Tryz.prog 205=true:=by kernel_rfl
theorem k210:callable Tryz.prog 210=true:=by kernel_rfl
theorem k216:callable Tryz.prog 216=true:=by kernel_rfl
theorem k247:callable Tryz.prog 247=true:=by kernel_rfl
theorem k373:callable Tryz.prog 373=true:=by kernel_rfl
theorem k378:callable Tryz.prog 378=true:=by kernel_rfl
theorem k399:callable Tryz.prog 399=true:=by kernel_rfl
theorem k404:callable Tryz.prog 404=true:=by kernel_rfl
theorem k453:callable Tryz.prog 453=true:=by kernel_rfl
theorem k458:callable Tryz.prog 458=true:=by kernel_rfl
theorem k47:callable Tryz.prog 47=true:=by kernel_rfl
theorem k48:callable Tryz.prog 48=true:=by kernel_rfl
theorem k49:callable Tryz.prog 49=true:=by kernel_rfl
theorem k50:callable Tryz.prog 50=true:=by kernel_rfl
theorem k85:callable Tryz.prog 85=true:=by kernel_rfl
theorem k93:callable Tryz.prog 93=true:=by kernel_rfl
theorem k94:callable Tryz.prog 94=true:=by kernel_rfl
theorem k95:callable Tryz.prog 95=true:=by kernel_rfl
theorem k98:callable Tryz.prog 98=true:=by kernel_rfl
theorem p104:placesOf Tryz.prog 104=some [(0,1),(1,2),(3,1),(4,1),(5,1),(6,1)]:=by kernel_rfl
theorem p174:placesOf Tryz.prog 174=some [(0,1),(1,1),(2,1),(3,1)]:=by kernel_rfl
theorem p179:placesOf Tryz.prog 179=some [(0,1),(1,1),(2,1)]:=by kernel_rfl
theorem p181:placesOf Tryz.prog 181=some [(0,1)]:=by kernel_rfl
theorem p253:placesOf Tryz.prog 253=some [(0,1),(1,1)]:=by kernel_rfl
theorem p266:placesOf Tryz.prog 266=some [(0,1),(1,1),(2,1)]:=by kernel_rfl
theorem p270:placesOf Tryz.prog 270=some [(0,1),(1,1),(2,1),(3,1),(4,1),(5,1)]:=by kernel_rfl
theorem p316:placesOf Tryz.prog 316=some [(0,1),(1,1),(2,1),(3,1),(4,1)]:=by kernel_rfl
theorem p91:placesOf Tryz.prog 91=some [(0,1),(1,1),(2,4),(6,1),(7,1),(8,1)]:=by kernel_rfl
theorem pt100:isPtr Tryz.prog 100=true:=by kernel_rfl
theorem pt48:isPtr Tryz.prog 48=true:=by kernel_rfl
theorem pt86:isPtr Tryz.prog 86=true:=by kernel_rfl
theorem s100:szOf Tryz.prog 100=some 1:=by kernel_rfl
theorem s101:szOf Tryz.prog 101=some 1:=by kernel_rfl
theorem s102:szOf Tryz.prog 102=some 1:=by kernel_rfl
theorem s85:szOf Tryz.prog 85=some 1:=by kernel_rfl
theorem s86:szOf Tryz.prog 86=some 1:=by kernel_rfl
theorem s87:szOf Tryz.prog 87=some 1:=by kernel_rfl
theorem s89:szOf Tryz.prog 89=some 1:=by kernel_rfl
theorem sl225:slOf Tryz.prog 225=some (227,1,8):=by kernel_rfl
theorem z104:zeroOf Tryz.prog 104=some [.int .u8 0,.pointer none,.pointer none,.pointer none,.pointer none,.int .i64 0,.map none]:=by kernel_rfl
theorem z174:zeroOf Tryz.prog 174=some [.pointer none,.map none,.int .u32 0,.pointer none]:=by kernel_rfl
theorem z179:zeroOf Tryz.prog 179=some [.slice none 0 0,.int .i64 0,.nilFunc]:=by kernel_rfl
theorem z181:zeroOf Tryz.prog 181=some [.pointer none]:=by kernel_rfl
theorem z253:zeroOf Tryz.prog 253=some [.int .i64 0,.map none]:=by kernel_rfl
theorem z266:zeroOf Tryz.prog 266=some [.nilIface,.map none,.map none]:=by kernel_rfl
theorem z270:zeroOf Tryz.prog 270=some [.int .u8 0,.pointer none,.pointer none,.map none,.int .u32 0,.slice none 0 0]:=by kernel_rfl
theorem z316:zeroOf Tryz.prog 316=some [.pointer none,.pointer none,.int .u32 0,.map none,.pointer none]:=by kernel_rfl
theorem z91:zeroOf Tryz.prog 91=some [.pointer none,.pointer none,.pointer none,.pointer none,.pointer none,.pointer none,.pointer none,.int .u32 0,.slice none 0 0]:=by kernel_rfl
end Go.SL.Fc
namespace Go.SL
open Go Go.Proofs Fc
theorem ANew0_spec {g:World} {dp:Nat}:Spec Tryz.prog g 159 [.pointer (some ⟨dp,0,none⟩)] [Dk dp (newDisk 4096)] fun K R=>∀ p,K (.tuple #[.pointer (some ⟨p,0,none⟩),.int .i64 0]) (As p dp stF::TxsU TPA []::R):=by
 refine Spec.intro Tryz.func159 rfl Tryz.ntmps159 rfl fun R K hK=>?_
 refine WP.seq<|WP.reg<|WL.e e_assign<|WL.e e_assign<|WL.next<|WP.seq<|WP.reg<|WL.e e_move ?_
 refine WL.h (h_call (Open_spec (d:=newDisk 4096) newDisk_quiet.ok (by rw [newDisk_quiet.waits];simp)) k97 ?_)
 intro lp sv xs hx
 obtain rfl:xs=[]:=by rw [show recs (newDisk 4096).seen.flatten=[] by rw [new_flat];exact recs_zero _ (by decide)] at hx;simpa using hx
 rw [show tot []=0 from rfl,Nat.sub_zero,show cleanTo (newDisk 4096).seen.flatten (newDisk 4096) 0 (newDisk 4096).sure.length=newDisk 4096 by rw [newDisk_quiet.len];exact new_clean]
 refine WL.e e_move<|WL.e e_extract<|WL.e e_extract<|WL.e e_extract<|WL.e e_assign<|WL.e e_assign<|WL.e e_assign<|WL.next<|WP.seq<|WP.seq<|WP.reg<|WL.e e_move<|WL.e e_neq<|WL.next<|WP.cond_f rfl<|WP.skip<|PO.next<|WP.seq<|WP.reg<|WL.e e_move ?_
 refine WL.h (h_call (MNew_spec) k53 ?_)
 intro mp
 refine WL.h (h_makeMapB (ek:=eU32) fun mb=>?_)
 refine WL.h (h_call (LNew_spec) k210 ?_)
 intro kp
 refine WL.e (e_build z316 p316 (.o (.tmp 21) rfl<|.o (.tmp 22) rfl<|.z (.int .u32 0)<|.o (.tmp 23) rfl<|.o (.tmp 24) rfl<|.n)) ?_
 refine WL.h (h_box fun b1=>?_)
 refine WL.e e_assign<|WL.next<|WP.seq<|WP.seq<|WP.reg<|WL.e e_move<|WL.e (el_len (xs:=([]:List RecV)) sl167 sl_rl)<|WL.e e_move<|WL.next<|WP.block<|WP.loopK (fun (_:Unit)=>[(29,.int .i64 0)]) (fun (_:Unit)=>cl b1 316 [.pointer (some ⟨lp,0,none⟩),.pointer (some ⟨mp,0,none⟩),.int .u32 0,.map (some mb),.pointer (some ⟨kp,0,none⟩)]::cl lp 246 [.pointer (some ⟨dp,0,none⟩),.int .i64 0]::Dk dp (newDisk 4096).sync::Mm mp []::Mp eU32 (.map (some mb)) ([]:List (UInt32 × Value))::Lk kp []::R) [(7,_),(27,_),(28,_)] (fun (_:Unit)=>True) (fun (_:Unit)=>0) () (trivial) ?_
 intro _ _
 refine WP.seq<|WP.reg<|WL.e e_lss<|WL.next<|WP.seq ?_
 refine WP.cond rfl (fun h1=>?_) (fun h1=>?_)
 ·simp at h1
 ·skip
  refine WP.exit<|PO.past nofun<|PO.round nofun<|PO.blockX<|PO.next<|WP.seq<|WP.reg<|WL.e e_move<|WL.e e_assign<|WL.e e_assign<|WL.next<|WP.ret<|PO.conv (fun S h=>TxsU_nil (TP:=TPA) h) ?_
  refine PO.cls (A:=As b1 dp stF) (B:=[cl b1 316 [.pointer (some ⟨lp,0,none⟩),.pointer (some ⟨mp,0,none⟩),.int .u32 0,.map (some mb),.pointer (some ⟨kp,0,none⟩)],cl lp 246 [.pointer (some ⟨dp,0,none⟩),.int .i64 0],Dk dp (newDisk 4096).sync,Mm mp [],Mp eU32 (.map (some mb)) ([]:List (UInt32 × Value)),Lk kp []]) (fun S h=>⟨(lp,mp,kp,mb),h⟩) ?_
  exact PO.fin Tryz.results159 (rv_tmp (rv_tmp rv_nil)) (hK b1)
theorem BNew0_spec {g:World} {dp:Nat}:Spec Tryz.prog g 160 [.pointer (some ⟨dp,0,none⟩)] [Dk dp (newDisk 4096)] fun K R=>∀ p,K (.tuple #[.pointer (some ⟨p,0,none⟩),.int .i64 0]) (Bs p dp stF::TxsU TPB []::R):=by
 refine Spec.intro Tryz.func160 rfl Tryz.ntmps160 rfl fun R K hK=>?_
 refine WP.seq<|WP.reg<|WL.e e_assign<|WL.e e_assign<|WL.next<|WP.seq<|WP.reg<|WL.e e_move ?_
 refine WL.h (h_call (Open_spec (d:=newDisk 4096) newDisk_quiet.ok (by rw [newDisk_quiet.waits];simp)) k97 ?_)
 intro lp sv xs hx
 obtain rfl:xs=[]:=by rw [show recs (newDisk 4096).seen.flatten=[] by rw [new_flat];exact recs_zero _ (by decide)] at hx;simpa using hx
 rw [show tot []=0 from rfl,Nat.sub_zero,show cleanTo (newDisk 4096).seen.flatten (newDisk 4096) 0 (newDisk 4096).sure.length=newDisk 4096 by rw [newDisk_quiet.len];exact new_clean]
 refine WL.e e_move<|WL.e e_extract<|WL.e e_extract<|WL.e e_extract<|WL.e e_assign<|WL.e e_assign<|WL.e e_assign<|WL.next<|WP.seq<|WP.seq<|WP.reg<|WL.e e_move<|WL.e e_neq<|WL.next<|WP.cond_f rfl<|WP.skip<|PO.next<|WP.seq<|WP.reg<|WL.e e_move ?_
 refine WL.h (h_call (PNew_spec) k213 ?_)
 intro pp
 refine WL.h (h_makeMapB (ek:=eU32) fun mb=>?_)
 refine WL.e (e_build z325 p325 (.o (.tmp 21) rfl<|.o (.tmp 22) rfl<|.o (.tmp 23) rfl<|.n)) ?_
 refine WL.h (h_box fun b1=>?_)
 refine WL.e e_assign<|WL.next<|WP.seq<|WP.seq<|WP.reg<|WL.e e_move<|WL.e (el_len (xs:=([]:List RecV)) sl167 sl_rl)<|WL.e e_move<|WL.next<|WP.block<|WP.loopK (fun (_:Unit)=>[(28,.int .i64 0)]) (fun (_:Unit)=>cl b1 325 [.pointer (some ⟨lp,0,none⟩),.pointer (some ⟨pp,0,none⟩),.map (some mb)]::cl lp 246 [.pointer (some ⟨dp,0,none⟩),.int .i64 0]::Dk dp (newDisk 4096).sync::Pa pp [] 0::Mp eU32 (.map (some mb)) ([]:List (UInt32 × Value))::R) [(7,_),(26,_),(27,_)] (fun (_:Unit)=>True) (fun (_:Unit)=>0) () (trivial) ?_
 intro _ _
 refine WP.seq<|WP.reg<|WL.e e_lss<|WL.next<|WP.seq ?_
 refine WP.cond rfl (fun h1=>?_) (fun h1=>?_)
 ·simp at h1
 ·skip
  refine WP.exit<|PO.past nofun<|PO.round nofun<|PO.blockX<|PO.next<|WP.seq<|WP.reg<|WL.e e_move<|WL.e e_assign<|WL.e e_assign<|WL.next<|WP.ret<|PO.conv (fun S h=>TxsU_nil (TP:=TPB) h) ?_
  refine PO.cls (A:=Bs b1 dp stF) (B:=[cl b1 325 [.pointer (some ⟨lp,0,none⟩),.pointer (some ⟨pp,0,none⟩),.map (some mb)],cl lp 246 [.pointer (some ⟨dp,0,none⟩),.int .i64 0],Dk dp (newDisk 4096).sync,Pa pp [] 0,Mp eU32 (.map (some mb)) ([]:List (UInt32 × Value))]) (fun S h=>⟨(lp,pp,mb),h⟩) ?_
  exact PO.fin Tryz.results160 (rv_tmp (rv_tmp rv_nil)) (hK b1)
theorem AAbo0_spec {g:World} {p dp:Nat} {s:StV} (n:UInt32) (h0:findU s.txs n=none):Spec Tryz.prog g 373 [.pointer (some ⟨p,0,none⟩),.int .u32 n.toNat] [As p dp s,TxsU TPA s.txs] fun K R=>K (.int .i64 6) (As p dp s::TxsU TPA s.txs::R):=by
 refine Spec.intro Tryz.func373 rfl Tryz.ntmps373 rfl fun R K hK=>?_
 refine WP.seq<|WP.reg<|WL.e e_assign<|WL.next<|WP.seq<|WP.block<|WP.seq<|WP.reg<|WL.e e_move ?_
 refine WL.h (h_call (Athere_spec) k380 ?_)
 refine WL.e e_not<|WL.e e_assign<|WL.next<|WP.cond_f rfl<|WP.opn (As_op (p:=p) (dp:=dp) (s:=s)) fun x=>?_
 obtain ⟨lp,mp,kp,mb⟩:=x
 dsimp only
 refine WP.seq<|WP.reg<|WL.e e_move<|WL.e e_nil<|WL.e (e_fa f316_3)<|WL.e (e_load a312)<|WL.e e_move<|WL.e (e_lookU (n:=n) (ts:=s.txs) Tryz.underlying312 (key_u32 Tryz.underlying35) zz496)<|WL.e (e_peq pt496)<|WL.e e_assign<|WL.next ?_
 refine WP.cond rfl (fun h2=>?_) (fun h2=>?_)
 ·skip
  refine WP.seq<|WP.reg<|WL.e e_assign<|WL.next<|WP.ret<|PO.blockR<|PO.past nofun<|PO.cls (A:=As p dp (s)) (B:=[cl p 316 [.pointer (some ⟨lp,0,none⟩),.pointer (some ⟨mp,0,none⟩),.int .u32 (UInt32.ofNat s.H.length).toNat,.map (some mb),.pointer (some ⟨kp,0,none⟩)],cl lp 246 [.pointer (some ⟨dp,0,none⟩),.int .i64 s.at_],Dk dp s.d,Mm mp s.rows,Mp eU32 (.map (some mb)) (List.map kvU s.txs),Lk kp s.locks]) (fun S h=>⟨(lp,mp,kp,mb),h⟩) ?_
  exact PO.fin Tryz.results373 (rv_tmp rv_nil) hK
 ·rw [h0] at h2;exact absurd h2 (by decide)
theorem BAbo0_spec {g:World} {p dp:Nat} {s:StV} (n:UInt32) (h0:findU s.txs n=none):Spec Tryz.prog g 399 [.pointer (some ⟨p,0,none⟩),.int .u32 n.toNat] [Bs p dp s,TxsU TPB s.txs] fun K R=>K (.int .i64 6) (Bs p dp s::TxsU TPB s.txs::R):=by
 refine Spec.intro Tryz.func399 rfl Tryz.ntmps399 rfl fun R K hK=>?_
 refine WP.seq<|WP.reg<|WL.e e_assign<|WL.next<|WP.seq<|WP.block<|WP.seq<|WP.reg<|WL.e e_move ?_
 refine WL.h (h_call (Bthere_spec) k406 ?_)
 refine WL.e e_not<|WL.e e_assign<|WL.next<|WP.cond_f rfl<|WP.opn (Bs_op (p:=p) (dp:=dp) (s:=s)) fun x=>?_
 obtain ⟨lp,pp,mb⟩:=x
 dsimp only
 refine WP.seq<|WP.reg<|WL.e e_move<|WL.e e_nil<|WL.e (e_fa f325_2)<|WL.e (e_load a323)<|WL.e e_move<|WL.e (e_lookU (n:=n) (ts:=s.txs) Tryz.underlying323 (key_u32 Tryz.underlying35) zz519)<|WL.e (e_peq pt519)<|WL.e e_assign<|WL.next ?_
 refine WP.cond rfl (fun h2=>?_) (fun h2=>?_)
 ·skip
  refine WP.seq<|WP.reg<|WL.e e_assign<|WL.next<|WP.ret<|PO.blockR<|PO.past nofun<|PO.cls (A:=Bs p dp (s)) (B:=[cl p 325 [.pointer (some ⟨lp,0,none⟩),.pointer (some ⟨pp,0,none⟩),.map (some mb)],cl lp 246 [.pointer (some ⟨dp,0,none⟩),.int .i64 s.at_],Dk dp s.d,Pa pp s.H s.trim,Mp eU32 (.map (some mb)) (List.map kvU s.txs)]) (fun S h=>⟨(lp,pp,mb),h⟩) ?_
  exact PO.fin Tryz.results399 (rv_tmp rv_nil) hK
 ·rw [h0] at h2;exact absurd h2 (by decide)
theorem GAbo0_spec {g:World} {p dp:Nat} {s:GamV} (n:UInt32) (h0:findT s.txs n=none):Spec Tryz.prog g 453 [.pointer (some ⟨p,0,none⟩),.int .u32 n.toNat] [Gs p dp s,Txs s.txs] fun K R=>K (.int .i64 6) (Gs p dp s::Txs s.txs::R):=by
 refine Spec.intro Tryz.func453 rfl Tryz.ntmps453 rfl fun R K hK=>?_
 refine WP.seq<|WP.reg<|WL.e e_assign<|WL.next<|WP.seq<|WP.block<|WP.seq<|WP.reg<|WL.e e_move ?_
 refine WL.h (h_call (Gthere_spec) k460 ?_)
 refine WL.e e_not<|WL.e e_assign<|WL.next<|WP.cond_f rfl<|WP.opn (Gs_op (p:=p) (dp:=dp) (s:=s)) fun x=>?_
 obtain ⟨lp,mp,nm,lm,sv⟩:=x
 dsimp only
 refine WP.seq<|WP.reg<|WL.e e_move<|WL.e e_nil<|WL.e (e_fa f331_5)<|WL.e (e_load a328)<|WL.e e_move<|WL.e (e_lookT Tryz.underlying328 (key_u32 Tryz.underlying35) zz563)<|WL.e (e_peq pt563)<|WL.e e_assign<|WL.next ?_
 refine WP.cond rfl (fun h2=>?_) (fun h2=>?_)
 ·skip
  refine WP.seq<|WP.reg<|WL.e e_assign<|WL.next<|WP.ret<|PO.blockR<|PO.past nofun<|PO.cls (A:=Gs p dp (s)) (B:=[cl p 331 [.pointer (some ⟨lp,0,none⟩),.pointer (some ⟨mp,0,none⟩),nm,.int .u32 s.last.toNat,sv.v,lm],cl lp 246 [.pointer (some ⟨dp,0,none⟩),.int .i64 s.at_],Dk dp s.d,Mm mp s.rows,Mp eStr nm (List.map numC s.nums),Sl 571 3 lookC (sv.v) s.looks,Mp eU32 lm (List.map kvT s.txs)]) (fun S h=>⟨⟨lp,mp,nm,lm,sv⟩,h⟩) ?_
  exact PO.fin Tryz.results453 (rv_tmp rv_nil) hK
 ·rw [h0] at h2;exact absurd h2 (by decide)
noncomputable def fAlpha {g:World}:EngF Tryz.prog g 59 where
 T:=254
 pc:=fun p dp=>bun [As p dp stF,TxsU TPA []]
 fA:=373
 fR:=378
 mA:=by kernel_rfl
 mR:=by kernel_rfl
 cA:=k373
 cR:=k378
 sA:=fun n=>Spec.bun2 (AAbo0_spec (s:=stF) n rfl) fun K R h=>⟨_,h,bun2⟩
 sR:=Spec.bunF (ARows_spec alp_first) fun K R h a m c=>⟨_,h a m c,bun2'⟩
noncomputable def fBeta {g:World}:EngF Tryz.prog g 59 where
 T:=257
 pc:=fun p dp=>bun [Bs p dp stF,TxsU TPB []]
 fA:=399
 fR:=404
 mA:=by kernel_rfl
 mR:=by kernel_rfl
 cA:=k399
 cR:=k404
 sA:=fun n=>Spec.bun2 (BAbo0_spec (s:=stF) n rfl) fun K R h=>⟨_,h,bun2⟩
 sR:=Spec.bunF (BRows_spec bet_first) fun K R h a m c=>⟨_,h a m c,bun2'⟩
noncomputable def fGamma {g:World}:EngF Tryz.prog g 59 where
 T:=260
 pc:=fun p dp=>bun [Gs p dp (gam0 (newDisk 4096).sync),Txs []]
 fA:=453
 fR:=458
 mA:=by kernel_rfl
 mR:=by kernel_rfl
 cA:=k453
 cR:=k458
 sA:=fun n=>Spec.bun2 (GAbo0_spec (s:=(gam0 (newDisk 4096).sync)) n rfl) fun K R h=>⟨_,h,bun2⟩
 sR:=Spec.bunF (GRows_spec (s:=(gam0 (newDisk 4096).sync)) (by decide)) fun K R h a m c=>⟨_,h a m c,bun2'⟩
def SiF {g:World} (E:EngF Tryz.prog g 59) (sp dp:Nat):HP:=fun S=>∃ x:Nat × Nat × Nat,stars [cl sp 266 [.iface E.T (.pointer (some ⟨x.1,0,none⟩)),.map (some x.2.1),.map (some x.2.2)],E.pc x.1 dp,Mp eU32 (.map (some x.2.1)) ([]:List (UInt32 × Value)),Mp eU32 (.map (some x.2.2)) ([]:List (UInt32 × Value))] S
theorem SiF_op {g:World} {E:EngF Tryz.prog g 59} {sp dp:Nat}:∀ S,SiF E sp dp S→∃ x:Nat × Nat × Nat,stars [cl sp 266 [.iface E.T (.pointer (some ⟨x.1,0,none⟩)),.map (some x.2.1),.map (some x.2.2)],E.pc x.1 dp,Mp eU32 (.map (some x.2.1)) ([]:List (UInt32 × Value)),Mp eU32 (.map (some x.2.2)) ([]:List (UInt32 × Value))] S:=fun _ h=>h
theorem Fthere_spec {g:World} {E:EngF Tryz.prog g 59} {sp dp:Nat}:Spec Tryz.prog g 205 [.pointer (some ⟨sp,0,none⟩)] [SiF E sp dp] fun K R=>K (.bool true) (SiF E sp dp::R):=by
 refine Spec.intro Tryz.func205 rfl Tryz.ntmps205 rfl fun R K hK=>?_
 refine WP.opn (SiF_op (E:=E) (sp:=sp) (dp:=dp)) fun x=>?_
 obtain ⟨p,lm,bm⟩:=x
 dsimp only
 refine WP.seq<|WP.reg<|WL.e e_assign<|WL.next<|WP.seq<|WP.reg<|WL.e e_move<|WL.e (e_pne pt100)<|WL.e e_move ?_
 refine WL.bool 5 rfl (fun h=>?_) (fun h=>?_)
 ·skip
  refine WL.e e_move<|WL.e e_nil<|WL.e (e_fa f266_0)<|WL.e (e_load a238)<|WL.e (e_ifneq (by kernel_rfl))<|WL.e e_pick_t<|WL.e e_assign<|WL.next<|WP.ret<|PO.cls (A:=SiF E sp dp) (B:=[cl sp 266 [.iface E.T (.pointer (some ⟨p,0,none⟩)),.map (some lm),.map (some bm)],E.pc p dp,Mp eU32 (.map (some lm)) ([]:List (UInt32 × Value)),Mp eU32 (.map (some bm)) ([]:List (UInt32 × Value))]) (fun S h=>⟨(p,lm,bm),h⟩) ?_
  exact PO.fin Tryz.results205 (rv_tmp rv_nil) hK
 ·cases h 
theorem FendsE_spec {g:World} {E:EngF Tryz.prog g 59} {sp p lm bm:Nat} {y val:Value} {B D:HP} (n:UInt32) (hy:CallV Tryz.prog g y [.int .u32 n.toNat] [cl sp 266 [.iface E.T (.pointer (some ⟨p,0,none⟩)),.map (some lm),.map (some bm)],B] fun K R=>K val (D::cl sp 266 [.iface E.T (.pointer (some ⟨p,0,none⟩)),.map (some lm),.map (some bm)]::R)):Spec Tryz.prog g 216 [.pointer (some ⟨sp,0,none⟩),.int .u32 n.toNat,y] [cl sp 266 [.iface E.T (.pointer (some ⟨p,0,none⟩)),.map (some lm),.map (some bm)],Mp eU32 (.map (some lm)) ([]:List (UInt32 × Value)),B] fun K R=>K val (D::cl sp 266 [.iface E.T (.pointer (some ⟨p,0,none⟩)),.map (some lm),.map (some bm)]::Mp eU32 (.map (some lm)) ([]:List (UInt32 × Value))::R):=by
 refine Spec.intro Tryz.func216 rfl Tryz.ntmps216 rfl fun R K hK=>?_
 refine WP.seq<|WP.reg<|WL.e e_assign<|WL.next<|WP.seq<|WP.reg<|WL.e e_move<|WL.e e_nil<|WL.e (e_fa f266_1)<|WL.e (e_load a263)<|WL.e e_move ?_
 refine WL.h' (h_delete (k:=n) (kvs:=[]) Tryz.underlying263 (key_u32 Tryz.underlying35) ?_)
 rw [show mdel ([]:List (UInt32 × Value)) n=[] from rfl]
 refine WL.next<|WP.seq<|WP.reg<|WL.e e_move<|WL.e e_move ?_
 refine WL.h (h_cally hy ?_)
 refine WL.e e_assign<|WL.next<|WP.ret ?_
 exact PO.fin Tryz.results216 (rv_tmp rv_nil) hK
theorem FAbort_spec {g:World} {E:EngF Tryz.prog g 59} {sp dp:Nat} (n:UInt32):Spec Tryz.prog g 162 [.pointer (some ⟨sp,0,none⟩),.int .u32 n.toNat] [SiF E sp dp] fun K R=>K (.int .i64 6) (SiF E sp dp::R):=by
 refine Spec.intro Tryz.func162 rfl Tryz.ntmps162 rfl fun R K hK=>?_
 refine WP.seq<|WP.reg<|WL.e e_assign<|WL.next<|WP.seq<|WP.seq<|WP.reg<|WL.e e_move ?_
 refine WL.h (h_call (Fthere_spec) k205 ?_)
 refine WL.e e_not<|WL.next<|WP.cond_f rfl<|WP.opn (SiF_op (E:=E) (sp:=sp) (dp:=dp)) fun x=>?_
 obtain ⟨p,lm,bm⟩:=x
 dsimp only
 refine WP.skip<|PO.next<|WP.seq<|WP.reg<|WL.e e_move<|WL.e e_move<|WL.e e_move<|WL.e e_nil<|WL.e (e_fa f266_0)<|WL.e (e_load a238)<|WL.e e_nilI<|WL.e e_makeFunc ?_
 refine WL.h (h_call (FendsE_spec (E:=E) (p:=p) (B:=E.pc p dp) (D:=E.pc p dp) n (CallV.frame (CallV.of_met E.mA (E.sA n) E.cA))) k216 ?_)
 refine WL.e e_assign<|WL.next<|WP.ret<|PO.cls (A:=SiF E sp dp) (B:=[cl sp 266 [.iface E.T (.pointer (some ⟨p,0,none⟩)),.map (some lm),.map (some bm)],E.pc p dp,Mp eU32 (.map (some lm)) ([]:List (UInt32 × Value)),Mp eU32 (.map (some bm)) ([]:List (UInt32 × Value))]) (fun S h=>⟨(p,lm,bm),h⟩) ?_
 exact PO.fin Tryz.results162 (rv_tmp rv_nil) hK
theorem Flist_spec {g:World} {E:EngF Tryz.prog g 59} {sp dp:Nat} {ms:Array (String × TypeId)} (hI:Program.underlying Tryz.prog 238=some (.interface ms)):Spec Tryz.prog g 148 [.pointer (some ⟨sp,0,none⟩),.func (.methodOf 238 "Rows") #[] #[]] [SiF E sp dp] fun K R=>∀ a m c,K (.slice a m c) (Sl 59 2 RowM.c (.slice a m c) []::SiF E sp dp::R):=by
 refine Spec.intro Tryz.func148 rfl Tryz.ntmps148 rfl fun R K hK=>?_
 refine WP.seq<|WP.reg<|WL.e e_assign<|WL.next<|WP.seq<|WP.seq<|WP.reg<|WL.e e_move ?_
 refine WL.h (h_call (Fthere_spec) k205 ?_)
 refine WL.e e_not<|WL.next<|WP.cond_f rfl<|WP.opn (SiF_op (E:=E) (sp:=sp) (dp:=dp)) fun x=>?_
 obtain ⟨p,lm,bm⟩:=x
 dsimp only
 refine WP.skip<|PO.next<|WP.seq<|WP.reg<|WL.e e_move<|WL.e e_move<|WL.e e_nil<|WL.e (e_fa f266_0)<|WL.e (e_load a238) ?_
 refine WL.h (h_cally (CallV.of_metx hI E.mR E.sR E.cR) ?_)
 intro a9 m9 c9
 refine WL.e e_assign<|WL.next<|WP.ret<|PO.cls (A:=SiF E sp dp) (B:=[cl sp 266 [.iface E.T (.pointer (some ⟨p,0,none⟩)),.map (some lm),.map (some bm)],E.pc p dp,Mp eU32 (.map (some lm)) ([]:List (UInt32 × Value)),Mp eU32 (.map (some bm)) ([]:List (UInt32 × Value))]) (fun S h=>⟨(p,lm,bm),h⟩) ?_
 exact PO.fin Tryz.results148 (rv_tmp rv_nil) (hK a9 m9 c9)
theorem FRows_spec {g:World} {E:EngF Tryz.prog g 59} {sp dp:Nat}:Spec Tryz.prog g 95 [.pointer (some ⟨sp,0,none⟩)] [SiF E sp dp] fun K R=>∀ a m c,K (.slice a m c) (Sl 59 2 RowM.c (.slice a m c) []::SiF E sp dp::R):=by
 refine Spec.intro Tryz.func95 rfl Tryz.ntmps95 rfl fun R K hK=>?_
 refine WP.seq<|WP.reg<|WL.e e_assign<|WL.next<|WP.seq<|WP.reg<|WL.e e_move<|WL.e e_makeFunc ?_
 refine WL.h (h_call (Flist_spec Tryz.underlying238) k148 ?_)
 intro a9 m9 c9
 refine WL.e e_assign<|WL.next<|WP.ret ?_
 exact PO.fin Tryz.results95 (rv_tmp rv_nil) (hK a9 m9 c9)
theorem FNew1_spec {g:World} {dp:Nat}:Spec Tryz.prog g 101 [.int .u8 1,.pointer (some ⟨dp,0,none⟩)] [Dk dp (newDisk 4096)] fun K R=>∀ sp,K (.tuple #[.pointer (some ⟨sp,0,none⟩),.int .i64 0]) (SiF (fAlpha (g:=g)) sp dp::R):=by
 refine Spec.intro Tryz.func101 rfl Tryz.ntmps101 rfl fun R K hK=>?_
 refine WP.seq<|WP.reg<|WL.e e_assign<|WL.e e_assign<|WL.next<|WP.seq<|WP.reg<|WL.e e_assign<|WL.next<|WP.seq<|WP.reg<|WL.e e_assign<|WL.next<|WP.seq<|WP.seq<|WP.reg<|WL.e e_move<|WL.next<|WP.block<|WP.seq<|WP.reg<|WL.e e_eql<|WL.e e_assign<|WL.next ?_
 refine WP.cond_t rfl<|WP.reg<|WL.e e_move ?_
 refine WL.h (h_call (ANew0_spec) k159 ?_)
 intro p
 refine WL.e e_move<|WL.e e_extract<|WL.e (e_mkif Tryz.underlying254)<|WL.e e_extract<|WL.e e_assign<|WL.e e_assign<|WL.nil<|PO.blockN<|PO.next<|WP.seq<|WP.seq<|WP.reg<|WL.e e_move<|WL.e e_neq<|WL.next<|WP.cond_f rfl<|WP.skip<|PO.next<|WP.seq<|WP.reg<|WL.e e_move ?_
 refine WL.h (h_makeMapB (ek:=eU32) fun lm=>?_)
 refine WL.h (h_makeMapB (ek:=eU32) fun bm=>?_)
 refine WL.e (e_build z266 p266 (.o (.tmp 36) rfl<|.o (.tmp 37) rfl<|.o (.tmp 38) rfl<|.n)) ?_
 refine WL.h (h_box fun b1=>?_)
 refine WL.e e_assign<|WL.e e_assign<|WL.next<|WP.ret<|PO.cls (A:=EngF.pc (fAlpha (g:=g)) p dp) (B:=[As p dp stF,TxsU TPA []]) (fun S h=>h) ?_
 refine PO.cls (A:=SiF (fAlpha (g:=g)) b1 dp) (B:=[cl b1 266 [.iface (fAlpha (g:=g)).T (.pointer (some ⟨p,0,none⟩)),.map (some lm),.map (some bm)],(fAlpha (g:=g)).pc p dp,Mp eU32 (.map (some lm)) ([]:List (UInt32 × Value)),Mp eU32 (.map (some bm)) ([]:List (UInt32 × Value))]) (fun S h=>⟨(p,lm,bm),h⟩) ?_
 exact PO.fin Tryz.results101 (rv_tmp (rv_tmp rv_nil)) (hK b1)
theorem FNew2_spec {g:World} {dp:Nat}:Spec Tryz.prog g 101 [.int .u8 2,.pointer (some ⟨dp,0,none⟩)] [Dk dp (newDisk 4096)] fun K R=>∀ sp,K (.tuple #[.pointer (some ⟨sp,0,none⟩),.int .i64 0]) (SiF (fBeta (g:=g)) sp dp::R):=by
 refine Spec.intro Tryz.func101 rfl Tryz.ntmps101 rfl fun R K hK=>?_
 refine WP.seq<|WP.reg<|WL.e e_assign<|WL.e e_assign<|WL.next<|WP.seq<|WP.reg<|WL.e e_assign<|WL.next<|WP.seq<|WP.reg<|WL.e e_assign<|WL.next<|WP.seq<|WP.seq<|WP.reg<|WL.e e_move<|WL.next<|WP.block<|WP.seq<|WP.reg<|WL.e e_eql<|WL.e e_assign<|WL.next ?_
 refine WP.cond_f rfl<|WP.seq<|WP.reg<|WL.e e_eql<|WL.e e_assign<|WL.next<|WP.cond_t rfl<|WP.reg<|WL.e e_move ?_
 refine WL.h (h_call (BNew0_spec) k160 ?_)
 intro p
 refine WL.e e_move<|WL.e e_extract<|WL.e (e_mkif Tryz.underlying257)<|WL.e e_extract<|WL.e e_assign<|WL.e e_assign<|WL.nil<|PO.blockN<|PO.next<|WP.seq<|WP.seq<|WP.reg<|WL.e e_move<|WL.e e_neq<|WL.next<|WP.cond_f rfl<|WP.skip<|PO.next<|WP.seq<|WP.reg<|WL.e e_move ?_
 refine WL.h (h_makeMapB (ek:=eU32) fun lm=>?_)
 refine WL.h (h_makeMapB (ek:=eU32) fun bm=>?_)
 refine WL.e (e_build z266 p266 (.o (.tmp 36) rfl<|.o (.tmp 37) rfl<|.o (.tmp 38) rfl<|.n)) ?_
 refine WL.h (h_box fun b1=>?_)
 refine WL.e e_assign<|WL.e e_assign<|WL.next<|WP.ret<|PO.cls (A:=EngF.pc (fBeta (g:=g)) p dp) (B:=[Bs p dp stF,TxsU TPB []]) (fun S h=>h) ?_
 refine PO.cls (A:=SiF (fBeta (g:=g)) b1 dp) (B:=[cl b1 266 [.iface (fBeta (g:=g)).T (.pointer (some ⟨p,0,none⟩)),.map (some lm),.map (some bm)],(fBeta (g:=g)).pc p dp,Mp eU32 (.map (some lm)) ([]:List (UInt32 × Value)),Mp eU32 (.map (some bm)) ([]:List (UInt32 × Value))]) (fun S h=>⟨(p,lm,bm),h⟩) ?_
 exact PO.fin Tryz.results101 (rv_tmp (rv_tmp rv_nil)) (hK b1)
theorem FNew3_spec {g:World} {dp:Nat}:Spec Tryz.prog g 101 [.int .u8 3,.pointer (some ⟨dp,0,none⟩)] [Dk dp (newDisk 4096)] fun K R=>∀ sp,K (.tuple #[.pointer (some ⟨sp,0,none⟩),.int .i64 0]) (SiF (fGamma (g:=g)) sp dp::R):=by
 refine Spec.intro Tryz.func101 rfl Tryz.ntmps101 rfl fun R K hK=>?_
 refine WP.seq<|WP.reg<|WL.e e_assign<|WL.e e_assign<|WL.next<|WP.seq<|WP.reg<|WL.e e_assign<|WL.next<|WP.seq<|WP.reg<|WL.e e_assign<|WL.next<|WP.seq<|WP.seq<|WP.reg<|WL.e e_move<|WL.next<|WP.block<|WP.seq<|WP.reg<|WL.e e_eql<|WL.e e_assign<|WL.next ?_
 refine WP.cond_f rfl<|WP.seq<|WP.reg<|WL.e e_eql<|WL.e e_assign<|WL.next<|WP.cond_f rfl<|WP.seq<|WP.reg<|WL.e e_eql<|WL.e e_assign<|WL.next<|WP.cond_t rfl<|WP.reg<|WL.e e_move ?_
 refine WL.h (h_call (New0_spec (d:=newDisk 4096) newDisk_quiet.ok (by rw [newDisk_quiet.waits];simp) (by rw [new_flat];exact recs_zero _ (by decide)) (by rw [newDisk_quiet.len];exact new_clean)) k161 ?_)
 intro p
 refine WL.e e_move<|WL.e e_extract<|WL.e (e_mkif Tryz.underlying260)<|WL.e e_extract<|WL.e e_assign<|WL.e e_assign<|WL.nil<|PO.blockN<|PO.next<|WP.seq<|WP.seq<|WP.reg<|WL.e e_move<|WL.e e_neq<|WL.next<|WP.cond_f rfl<|WP.skip<|PO.next<|WP.seq<|WP.reg<|WL.e e_move ?_
 refine WL.h (h_makeMapB (ek:=eU32) fun lm=>?_)
 refine WL.h (h_makeMapB (ek:=eU32) fun bm=>?_)
 refine WL.e (e_build z266 p266 (.o (.tmp 36) rfl<|.o (.tmp 37) rfl<|.o (.tmp 38) rfl<|.n)) ?_
 refine WL.h (h_box fun b1=>?_)
 refine WL.e e_assign<|WL.e e_assign<|WL.next<|WP.ret<|PO.cls (A:=EngF.pc (fGamma (g:=g)) p dp) (B:=[Gs p dp (gam0 (newDisk 4096).sync),Txs []]) (fun S h=>h) ?_
 refine PO.cls (A:=SiF (fGamma (g:=g)) b1 dp) (B:=[cl b1 266 [.iface (fGamma (g:=g)).T (.pointer (some ⟨p,0,none⟩)),.map (some lm),.map (some bm)],(fGamma (g:=g)).pc p dp,Mp eU32 (.map (some lm)) ([]:List (UInt32 × Value)),Mp eU32 (.map (some bm)) ([]:List (UInt32 × Value))]) (fun S h=>⟨(p,lm,bm),h⟩) ?_
 exact PO.fin Tryz.results101 (rv_tmp (rv_tmp rv_nil)) (hK b1)
theorem FNew_spec {g:World} {dp:Nat} (i:Nat) (h:i=1∨i=2∨i=3):Spec Tryz.prog g 101 [.int .u8 i,.pointer (some ⟨dp,0,none⟩)] [Dk dp (newDisk 4096)] fun K R=>∀ sp (E:EngF Tryz.prog g 59),K (.tuple #[.pointer (some ⟨sp,0,none⟩),.int .i64 0]) (SiF E sp dp::R):=by
 rcases h with rfl | rfl | rfl
 ·exact fun R K w hw hT=>FNew1_spec R K w hw fun sp=>hT sp fAlpha
 ·exact fun R K w hw hT=>FNew2_spec R K w hw fun sp=>hT sp fBeta
 ·exact fun R K w hw hT=>FNew3_spec R K w hw fun sp=>hT sp fGamma
theorem CkNew_spec {g:World}:Spec Tryz.prog g 98 [] [] fun K R=>∀ c,K (.pointer (some ⟨c,0,none⟩)) R:=by
 refine Spec.intro Tryz.func98 rfl Tryz.ntmps98 rfl fun R K hK=>?_
 refine WP.seq<|WP.reg<|WL.e e_assign<|WL.next<|WP.seq<|WP.reg ?_
 refine WL.h (h_makeMapB (ek:=eU32) fun mb=>?_)
 refine WL.e (e_build z253 p253 (.z (.int .i64 0)<|.o (.tmp 1) rfl<|.n)) ?_
 refine WL.h (h_box fun b1=>?_)
 refine WL.e e_assign<|WL.next<|WP.ret ?_
 exact PO.fin Tryz.results98 (rv_tmp rv_nil) (hK b1)
theorem ChNew_spec {g:World} {dp:Nat}:Spec Tryz.prog g 48 [.pointer (some ⟨dp,0,none⟩)] [Dk dp (newDisk 4096)] fun K R=>∀ c,K (.tuple #[.pointer (some ⟨c,0,none⟩),.int .i64 0]) R:=by
 refine Spec.intro Tryz.func48 rfl Tryz.ntmps48 rfl fun R K hK=>?_
 refine WP.seq<|WP.reg<|WL.e e_assign<|WL.e e_assign<|WL.next<|WP.seq<|WP.reg<|WL.e e_move ?_
 refine WL.h (h_call (Open_spec (d:=newDisk 4096) newDisk_quiet.ok (by rw [newDisk_quiet.waits];simp)) k97 ?_)
 intro lp sv xs hx
 obtain rfl:xs=[]:=by rw [show recs (newDisk 4096).seen.flatten=[] by rw [new_flat];exact recs_zero _ (by decide)] at hx;simpa using hx
 rw [show tot []=0 from rfl,Nat.sub_zero,show cleanTo (newDisk 4096).seen.flatten (newDisk 4096) 0 (newDisk 4096).sure.length=newDisk 4096 by rw [newDisk_quiet.len];exact new_clean]
 refine WL.e e_move<|WL.e e_extract<|WL.e e_extract<|WL.e e_extract<|WL.e e_assign<|WL.e e_assign<|WL.e e_assign<|WL.next<|WP.seq<|WP.seq<|WP.reg<|WL.e e_move<|WL.e e_neq<|WL.next<|WP.cond_f rfl<|WP.skip<|PO.next<|WP.seq<|WP.reg<|WL.e e_move ?_
 refine WL.h (h_makeMapB (ek:=eU32) fun mb=>?_)
 refine WL.h (h_call (CkNew_spec) k98 ?_)
 intro ck
 refine WL.e (e_build z174 p174 (.o (.tmp 19) rfl<|.o (.tmp 20) rfl<|.z (.int .u32 0)<|.o (.tmp 21) rfl<|.n)) ?_
 refine WL.h (h_box fun b1=>?_)
 refine WL.e e_assign<|WL.next<|WP.seq<|WP.seq<|WP.reg<|WL.e e_move<|WL.e (el_len (xs:=([]:List RecV)) sl167 sl_rl)<|WL.e e_move<|WL.next<|WP.block<|WP.loopK (fun (_:Unit)=>[(26,.int .i64 0)]) (fun (_:Unit)=>R) [(7,_),(24,_),(25,_)] (fun (_:Unit)=>True) (fun (_:Unit)=>0) () (trivial) ?_
 intro _ _
 refine WP.seq<|WP.reg<|WL.e e_lss<|WL.next<|WP.seq ?_
 refine WP.cond rfl (fun h1=>?_) (fun h1=>?_)
 ·simp at h1
 ·skip
  refine WP.exit<|PO.past nofun<|PO.round nofun<|PO.blockX<|PO.next<|WP.seq<|WP.reg<|WL.e e_move<|WL.e e_assign<|WL.e e_assign<|WL.next<|WP.ret ?_
  exact PO.fin Tryz.results48 (rv_tmp (rv_tmp rv_nil)) (hK b1)
theorem BgNew_spec {g:World}:Spec Tryz.prog g 49 [.int .i64 256] [] fun K R=>∀ b,K (.tuple #[.pointer (some ⟨b,0,none⟩),.int .i64 0]) R:=by
 refine Spec.intro Tryz.func49 rfl Tryz.ntmps49 rfl fun R K hK=>?_
 refine WP.seq<|WP.reg<|WL.e e_assign<|WL.e e_assign<|WL.next<|WP.seq<|WP.seq<|WP.reg<|WL.e e_move<|WL.e e_lss<|WL.e e_move ?_
 refine WL.bool 6 rfl (fun g1=>?_) (fun g1=>?_)
 ·exact absurd g1 (by decide) 
 ·skip
  refine WL.e e_move<|WL.e e_gtr<|WL.e e_pick_f<|WL.next<|WP.cond_f rfl<|WP.skip<|PO.next<|WP.seq<|WP.reg<|WL.e e_move<|WL.e (e_build z179 p179 (.z (.slice none 0 0)<|.o (.tmp 10) rfl<|.o (.func 100) rfl<|.n)) ?_
  refine WL.h (h_box fun b1=>?_)
  refine WL.e (e_build z181 p181 (.o (.tmp 12) rfl<|.n)) ?_
  refine WL.h (h_box fun b2=>?_)
  refine WL.e e_assign<|WL.e e_assign<|WL.next<|WP.ret ?_
  exact PO.fin Tryz.results49 (rv_tmp (rv_tmp rv_nil)) (hK b2)
theorem AgKeys_spec {g:World} {m:Nat}:Spec Tryz.prog g 192 [.map (some m)] [] fun K R=>∀ b,K (.func (.func 247) #[] #[.pointer (some ⟨b,0,none⟩)]) (cl b 268 [.map (some m)]::R):=by
 refine Spec.intro Tryz.func192 rfl Tryz.ntmps192 rfl fun R K hK=>?_
 refine WP.seq<|WP.reg ?_
 refine WL.h (h_box fun b1=>?_)
 refine WL.e e_assign<|WL.next<|WP.seq<|WP.reg<|WL.e e_makeFunc<|WL.e e_assign<|WL.next<|WP.ret ?_
 exact PO.fin Tryz.results192 (rv_tmp rv_nil) (hK b1)
theorem AgKeys_iter {g:World} {b m:Nat} {ts:List (TxT)}:Iter Tryz.prog g 247 (fun y=>[]++[y]++[.pointer (some ⟨b,0,none⟩)]) [cl b 268 [.map (some m)],Mp eU32 (.map (some m)) (List.map kvU ts)] idC (fun _=>pu True) (fun xs=>xs.Perm ts) (fun pre=>∃ r,(pre++r).Perm ts) [cl b 268 [.map (some m)],Mp eU32 (.map (some m)) (List.map kvU ts)]:=by
 intro y J X cont hy
 refine Spec.intro Tryz.func247 rfl Tryz.ntmps247 rfl fun R K hK=>?_
 refine WP.seq<|WP.reg<|WL.e (e_load a268) ?_
 refine WL.h (h_range (kvs:=List.map kvU ts) Tryz.underlying268 fun it=>?_)
 refine WL.next<|WP.block<|WP.loopK (fun (x:List (TxT) × List (TxT) × Option (UInt32 × Value))=>[]) (fun (x:List (TxT) × List (TxT) × Option (UInt32 × Value))=>J x.2.1::MpIt eU32 (.map (some m)) it (List.map kvU ts) (List.map kvU x.1) x.2.2::cl b 268 [.map (some m)]::R) [(0,_),(5,_)] (fun (x:List (TxT) × List (TxT) × Option (UInt32 × Value))=>(x.2.1++x.1).Perm ts∧Hist cont x.2.1) (fun (x:List (TxT) × List (TxT) × Option (UInt32 × Value))=>x.1.length) (ts,[],none) (⟨.refl _,Hist.nil⟩) ?_
 rintro ⟨left,pre,cur⟩ ⟨hx1,hx2⟩
 simp only at hx1 hx2
 dsimp only
 refine WP.seq<|WP.reg ?_
 refine WL.h (h_next (fun h0=>?_) (fun a y0 b0 hx=>?_))
 ·have hl0:left=[]:=by simpa using h0
  subst hl0
  refine WL.e e_extract<|WL.next<|WP.seq<|WP.cond_f rfl<|WP.exit<|PO.past nofun<|PO.round nofun<|PO.blockX ?_
  exact PO.fin Tryz.results247 rv_nil (hK.1 pre (by simpa using hx1) hx2)
 ·obtain ⟨A1,y,B1,hl,rfl,rfl,rfl⟩:=map_mid hx
  have hpp:(pre++([y]++(A1++B1))).Perm ts:=by refine List.Perm.trans ?_ hx1;rw [hl];exact List.Perm.append_left _ (List.perm_middle (a:=y) (l₁:=A1) (l₂:=B1)).symm
  refine WL.e e_extract<|WL.next<|WP.seq<|WP.cond_t rfl<|WP.skip<|PO.next<|WP.block<|WP.seq<|WP.reg<|WL.e e_entry<|WL.e e_extract<|WL.e e_assign<|WL.next<|WP.seq<|WP.reg<|WL.e e_move<|WL.e e_move ?_
  refine WL.h (HO.conv (fun S h=>pu_stars trivial h) (h_cally (hy pre y ⟨_,by rw [List.append_assoc];exact hpp⟩ hx2) ?_))
  refine ⟨fun hc=>?_,fun hc=>?_⟩
  ·skip
   refine WL.e e_not<|WL.next<|WP.cond_f rfl<|WP.skip<|PO.blockN ?_
   rw [← List.map_append]
   exact PO.againK (A1++B1,pre++[y],_) ⟨by simp only;rw [List.append_assoc];exact hpp,hx2.snoc hc⟩ (by simp only [hl,List.length_append,List.length_cons];omega)
  ·skip
   refine WL.e e_not<|WL.next<|WP.cond_t rfl<|WP.ret<|PO.blockR<|PO.round nofun<|PO.blockR<|PO.conv (conv1 (A:=MpIt eU32 (.map (some m)) it (List.map kvU ts) _ _) (B:=Mp eU32 (.map (some m)) (List.map kvU ts)) MpIt_Mp (by repeat first | exact .z | apply Put.s)) ?_
   exact PO.fin Tryz.results247 rv_nil (hK.2 pre y ⟨_,by rw [List.append_assoc];exact hpp⟩ hx2 hc)
def AgKJ (b:Nat) (pre:List (TxT)):HP:=fun S=>∃ sv:SV,stars [cl b 33 [sv.v],Sl 35 1 idC sv.v pre] S
theorem AgKA_spec {g:World} {b m:Nat} {ts:List (TxT)} (hn:ts.length≤68719476736):Spec Tryz.prog g 178 [.slice none 0 0,.func (.func 247) #[] #[.pointer (some ⟨b,0,none⟩)]] [cl b 268 [.map (some m)],Mp eU32 (.map (some m)) (List.map kvU ts)] fun K R=>∀ a n c xs,xs.Perm ts→K (.slice a n c) (Sl 35 1 idC (.slice a n c) xs::cl b 268 [.map (some m)]::Mp eU32 (.map (some m)) (List.map kvU ts)::R):=by
 refine Spec.intro Tryz.func178 rfl Tryz.ntmps178 rfl fun R K hK=>?_
 refine WP.seq<|WP.reg ?_
 refine WL.h (h_box fun b1=>?_)
 refine WL.e e_assign<|WL.next<|WP.seq<|WP.seq<|WP.reg<|WL.e e_move<|WL.next<|WP.block<|WP.nils 35 1 idC none ?_
 refine WP.cls (A:=AgKJ b1 []) (B:=[cl b1 33 [.slice none 0 0],Sl 35 1 idC (.slice none 0 0) ([])]) (fun S h=>⟨⟨none,0,0⟩,h⟩) ?_
 refine WP.range (R:=?RR) (f:=247) (fs:=[]) (cs:=[.pointer (some ⟨b,0,none⟩)]) (AgKJ b1) (fun _ _ _=>pu True) (fun _ _=>True) (AgKeys_iter (b:=b) (m:=m) (ts:=ts)) k247 ?hLL ?_ ?_ ?_ (fun _=>rfl)
 case hLL=>repeat first | exact .nil | exact Pick.z | apply Pick.s | apply Split.cons
 ·rintro lb db fn tmps pre x R2 hp hh
  refine WP.opn (B:=fun sv:SV=>[cl b1 33 [sv.v],Sl 35 1 idC (sv.v) (pre)]) (fun _ h=>h) fun sv=>?_
  have hlen:pre.length+1≤68719476736:=by obtain ⟨r,hr⟩:=hp;have:=hr.length_eq;simp only [List.length_append,List.length_cons,List.length_nil] at this;omega
  refine WP.reg<|WL.e e_assign<|WL.nil<|PO.asg rfl (by repeat first | exact .z | apply Put.s)<|WP.block<|WP.reg<|WL.e (e_load a33)<|WL.e e_move ?_
  refine WL.h (h_bs sl33 z35 (.o (.tmp 9) rfl<|.n) fun b2=>?_)
  refine WL.h (hl_append (xs:=pre) (ys:=[x]) sl33 idE z35 (lit_rl idE [x] rfl) (by simp;omega) (fun a5 n5 c5=>?_))
  refine WL.h' (h_store s33 ?_)
  refine WL.nil<|PO.blockN<|PO.cls (A:=AgKJ b1 (pre++[x])) (B:=[cl b1 33 [.slice a5 n5 c5],Sl 35 1 idC (.slice a5 n5 c5) (pre++[x])]) (fun S h=>⟨⟨a5,n5,c5⟩,h⟩) ?_
  exact PO.rnd trivial (by repeat first | exact .refl | exact Pick.z | apply Pick.s | apply Sub.cons | apply Sub.drop)
 ·rintro db xs hp hh
  refine PO.opn (B:=fun sv:SV=>[cl b1 33 [sv.v],Sl 35 1 idC (sv.v) (xs)]) (fun _ h=>h) fun sv=>?_
  obtain ⟨a9,n9,c9⟩:=sv
  refine PO.blockN<|PO.next<|WP.seq<|WP.reg<|WL.e (e_load a33)<|WL.e e_assign<|WL.next<|WP.ret ?_
  exact PO.finM (by repeat first | exact .z | apply Put.s) Tryz.results178 (rv_tmp rv_nil) (hK a9 n9 c9 xs hp)
 ·exact fun _ _ _ _ _ _ hc=>absurd trivial hc
theorem AgKC_spec {g:World} {b m:Nat} {ts:List (TxT)} (hn:ts.length≤68719476736):Spec Tryz.prog g 116 [.func (.func 247) #[] #[.pointer (some ⟨b,0,none⟩)]] [cl b 268 [.map (some m)],Mp eU32 (.map (some m)) (List.map kvU ts)] fun K R=>∀ a n c xs,xs.Perm ts→K (.slice a n c) (Sl 35 1 idC (.slice a n c) xs::cl b 268 [.map (some m)]::Mp eU32 (.map (some m)) (List.map kvU ts)::R):=by
 refine Spec.intro Tryz.func116 rfl Tryz.ntmps116 rfl fun R K hK=>?_
 refine WP.seq<|WP.reg<|WL.e e_assign<|WL.next<|WP.seq<|WP.reg<|WL.e e_move ?_
 refine WL.h (h_call (AgKA_spec hn) k178 ?_)
 intro a n c xs hp
 refine WL.e e_assign<|WL.next<|WP.ret ?_
 exact PO.fin Tryz.results116 (rv_tmp rv_nil) (hK a n c xs hp)
theorem AgSorted_spec {g:World} {b m:Nat}:Spec Tryz.prog g 74 [.func (.func 247) #[] #[.pointer (some ⟨b,0,none⟩)]] [cl b 268 [.map (some m)],Mp eU32 (.map (some m)) (List.map kvU ([]:List TxT))] fun K R=>∀ a c,K (.slice a 0 c) (cl b 268 [.map (some m)]::Mp eU32 (.map (some m)) (List.map kvU ([]:List TxT))::R):=by
 refine Spec.intro Tryz.func74 rfl Tryz.ntmps74 rfl fun R K hK=>?_
 refine WP.seq<|WP.reg<|WL.e e_assign<|WL.next<|WP.seq<|WP.reg<|WL.e e_move ?_
 refine WL.h (h_call (AgKC_spec (ts:=[]) (by simp)) k116 ?_)
 intro a n c xs hp
 obtain rfl:xs=[]:=List.perm_nil.1 hp
 refine WL.e e_assign<|WL.next<|WP.seq<|WP.reg<|WL.e e_move<|WL.conv (conv1 (A:=Sl 35 1 idC (.slice a n c) []) (B:=Sl 35 1 u32C (.slice a n c) ([])) (fun S h=>sl_map (enc:=u32C) (f:=fun t:TxT=>t.id) h) (by repeat first | exact .z | apply Put.s)) ?_
 refine WL.h (h_call (Sort32_spec [] (by simp)) k117 ?_)
 intro ys h1 h2
 obtain rfl:ys=[]:=List.perm_nil.1 h1
 refine WL.next<|WP.seq<|WP.reg<|WL.e e_move<|WL.e e_assign<|WL.next<|WP.ret ?_
 refine PO.len (fun hm=>?_)
 subst hm
 exact PO.fin Tryz.results74 (rv_tmp rv_nil) (hK a c)
theorem AgRis_spec {g:World} {a m i sp lp last:Nat}:Spec Tryz.prog g 141 [.pointer (some ⟨a,0,none⟩)] [cl a 270 [.int .u8 i,.pointer (some ⟨sp,0,none⟩),.pointer (some ⟨lp,0,none⟩),.map (some m),.int .u32 last,.slice none 0 0],Mp eU32 (.map (some m)) ([]:List (UInt32 × Value))] fun K R=>K (.slice none 0 0) (cl a 270 [.int .u8 i,.pointer (some ⟨sp,0,none⟩),.pointer (some ⟨lp,0,none⟩),.map (some m),.int .u32 last,.slice none 0 0]::Mp eU32 (.map (some m)) ([]:List (UInt32 × Value))::R):=by
 refine Spec.intro Tryz.func141 rfl Tryz.ntmps141 rfl fun R K hK=>?_
 refine WP.seq<|WP.reg<|WL.e e_assign<|WL.next<|WP.seq<|WP.reg<|WL.e e_assign<|WL.next<|WP.seq<|WP.seq<|WP.reg<|WL.e e_move<|WL.e e_nil<|WL.e (e_fa f270_3)<|WL.e (e_load a268) ?_
 refine WL.h (h_call (AgKeys_spec (m:=m)) k192 ?_)
 intro b
 refine WL.h (h_call (AgSorted_spec (b:=b) (m:=m)) k74 ?_)
 intro a1 c1
 refine WL.e (e_len_sl sl33)<|WL.e e_move<|WL.next<|WP.block<|WP.loopK (fun (_:Unit)=>[(13,.int .i64 0),(3,.slice none 0 0)]) (fun (_:Unit)=>cl a 270 [.int .u8 i,.pointer (some ⟨sp,0,none⟩),.pointer (some ⟨lp,0,none⟩),.map (some m),.int .u32 last,.slice none 0 0]::Mp eU32 (.map (some m)) ([]:List (UInt32 × Value))::R) [(0,_),(2,_),(11,_),(12,_)] (fun (_:Unit)=>True) (fun (_:Unit)=>0) () (trivial) ?_
 intro _ _
 refine WP.seq<|WP.reg<|WL.e e_lss<|WL.next<|WP.seq ?_
 refine WP.cond rfl (fun h1=>?_) (fun h1=>?_)
 ·simp at h1
 ·skip
  refine WP.exit<|PO.past nofun<|PO.round nofun<|PO.blockX<|PO.next<|WP.seq<|WP.reg<|WL.e e_move<|WL.e e_assign<|WL.next<|WP.ret ?_
  exact PO.fin Tryz.results141 (rv_tmp rv_nil) hK
theorem AgNew_spec {g:World} {E:EngF Tryz.prog g 59} {sp dp:Nat} {dp2:Nat} (i:Nat) (h1:1≤i) (h3:i≤3):Spec Tryz.prog g 102 [.int .u8 i,.pointer (some ⟨sp,0,none⟩),.pointer (some ⟨dp2,0,none⟩)] [SiF E sp dp,Dk dp2 (newDisk 4096)] fun K R=>∀ a,K (.tuple #[.pointer (some ⟨a,0,none⟩),.int .i64 0]) (SiF E sp dp::R):=by
 refine Spec.intro Tryz.func102 rfl Tryz.ntmps102 rfl fun R K hK=>?_
 refine WP.seq<|WP.reg<|WL.e e_assign<|WL.e e_assign<|WL.next<|WP.seq<|WP.seq<|WP.reg<|WL.e e_move<|WL.e e_lss<|WL.e e_move ?_
 refine WL.bool 18 rfl (fun g1=>?_) (fun g1=>?_)
 ·simp at g1;omega 
 ·skip
  refine WL.e e_move<|WL.e e_gtr<|WL.e e_pick_f<|WL.next ?_
  refine WP.cond rfl (fun g2=>?_) (fun g2=>?_)
  ·simp at g2;omega
  ·skip
   refine WP.skip<|PO.next<|WP.seq<|WP.seq<|WP.reg<|WL.e e_move ?_
   refine WL.h (h_call (FAbort_spec 0) k162 ?_)
   refine WL.e e_eql<|WL.next<|WP.cond_f rfl<|WP.skip<|PO.next<|WP.seq<|WP.reg<|WL.e e_move ?_
   refine WL.h (h_call (Open_spec (d:=newDisk 4096) newDisk_quiet.ok (by rw [newDisk_quiet.waits];simp)) k97 ?_)
   intro lp sv xs hx
   obtain rfl:xs=[]:=by rw [show recs (newDisk 4096).seen.flatten=[] by rw [new_flat];exact recs_zero _ (by decide)] at hx;simpa using hx
   rw [show tot []=0 from rfl,Nat.sub_zero,show cleanTo (newDisk 4096).seen.flatten (newDisk 4096) 0 (newDisk 4096).sure.length=newDisk 4096 by rw [newDisk_quiet.len];exact new_clean]
   refine WL.e e_move<|WL.e e_extract<|WL.e e_extract<|WL.e e_extract<|WL.e e_assign<|WL.e e_assign<|WL.e e_assign<|WL.next<|WP.seq<|WP.seq<|WP.reg<|WL.e e_move<|WL.e e_neq<|WL.next<|WP.cond_f rfl<|WP.skip<|PO.next<|WP.seq<|WP.reg<|WL.e e_move<|WL.e e_move<|WL.e e_move ?_
   refine WL.h (h_makeMapB (ek:=eU32) fun mb=>?_)
   refine WL.e (e_build z270 p270 (.o (.tmp 34) rfl<|.o (.tmp 35) rfl<|.o (.tmp 36) rfl<|.o (.tmp 37) rfl<|.o (.const (.int .u32 2147483648)) rfl<|.z (.slice none 0 0)<|.n)) ?_
   refine WL.h (h_box fun b1=>?_)
   refine WL.e e_assign<|WL.next<|WP.seq<|WP.seq<|WP.reg<|WL.e e_move<|WL.e (el_len (xs:=([]:List RecV)) sl167 sl_rl)<|WL.e e_move<|WL.next<|WP.block<|WP.loopK (fun (_:Unit)=>[(42,.int .i64 0)]) (fun (_:Unit)=>cl b1 270 [.int .u8 i,.pointer (some ⟨sp,0,none⟩),.pointer (some ⟨lp,0,none⟩),.map (some mb),.int .u32 2147483648,.slice none 0 0]::Mp eU32 (.map (some mb)) ([]:List (UInt32 × Value))::SiF E sp dp::R) [(1,_),(11,_),(40,_),(41,_)] (fun (_:Unit)=>True) (fun (_:Unit)=>0) () (trivial) ?_
   intro _ _
   refine WP.seq<|WP.reg<|WL.e e_lss<|WL.next<|WP.seq ?_
   refine WP.cond rfl (fun h4=>?_) (fun h4=>?_)
   ·simp at h4
   ·skip
    refine WP.exit<|PO.past nofun<|PO.round nofun<|PO.blockX<|PO.next<|WP.seq<|WP.seq<|WP.reg<|WL.e e_move ?_
    refine WL.h (h_call (AgRis_spec (m:=mb)) k141 ?_)
    refine WL.e (e_len_sl sl225)<|WL.e e_move<|WL.next<|WP.block<|WP.loopK (fun (_:Unit)=>[(54,.int .i64 0)]) (fun (_:Unit)=>SiF E sp dp::R) [(1,_),(11,_),(52,_),(53,_)] (fun (_:Unit)=>True) (fun (_:Unit)=>0) () (trivial) ?_
    intro _ _
    refine WP.seq<|WP.reg<|WL.e e_lss<|WL.next<|WP.seq ?_
    refine WP.cond rfl (fun h5=>?_) (fun h5=>?_)
    ·simp at h5
    ·skip
     refine WP.exit<|PO.past nofun<|PO.round nofun<|PO.blockX<|PO.next<|WP.seq<|WP.reg<|WL.e e_move<|WL.e e_assign<|WL.e e_assign<|WL.next<|WP.ret ?_
     exact PO.fin Tryz.results102 (rv_tmp (rv_tmp rv_nil)) (hK b1)
def NdF (g:World) (n:Nat):HP:=fun S=>∃ (E:EngF Tryz.prog g 59) (i d0 d1 sp a lc:Nat),stars [cl n 104 [.int .u8 i,.pointer (some ⟨d0,0,none⟩),.pointer (some ⟨d1,0,none⟩),.pointer (some ⟨sp,0,none⟩),.pointer (some ⟨a,0,none⟩),.int .i64 0,.map (some lc)],SiF E sp d0] S
theorem NdF_op {g:World} {n:Nat}:∀ S,NdF g n S→∃ x:(E:EngF Tryz.prog g 59) × Nat × Nat × Nat × Nat × Nat × Nat,stars [cl n 104 [.int .u8 x.2.1,.pointer (some ⟨x.2.2.1,0,none⟩),.pointer (some ⟨x.2.2.2.1,0,none⟩),.pointer (some ⟨x.2.2.2.2.1,0,none⟩),.pointer (some ⟨x.2.2.2.2.2.1,0,none⟩),.int .i64 0,.map (some x.2.2.2.2.2.2)],SiF x.1 x.2.2.2.2.1 x.2.2.1] S:=fun _ ⟨E,i,d0,d1,sp,a,lc,h⟩=>⟨⟨E,i,d0,d1,sp,a,lc⟩,h⟩
theorem NdBeg_spec {g:World} {n d0 d1:Nat} (i:Nat) (h:i=1∨i=2∨i=3):Spec Tryz.prog g 50 [.pointer (some ⟨n,0,none⟩),.int .u8 i] [cl n 104 [.int .u8 i,.pointer (some ⟨d0,0,none⟩),.pointer (some ⟨d1,0,none⟩),.pointer none,.pointer none,.int .i64 0,.map none],Dk d0 (newDisk 4096),Dk d1 (newDisk 4096)] fun K R=>K (.tuple #[]) (NdF g n::R):=by
 refine Spec.intro Tryz.func50 rfl Tryz.ntmps50 rfl fun R K hK=>?_
 refine WP.seq<|WP.draws mixedOk 17<|RW.e 0 rfl e_move<|RW.e 1 rfl e_move<|RW.e 2 rfl e_nil<|RW.e 3 rfl (e_fa f104_0)<|RW.e 4 rfl (e_load a98)<|RW.e 5 rfl e_move<|RW.e 6 rfl e_nil<|RW.e 7 rfl (e_fa f104_1)<|RW.e 8 rfl (e_iaA (j:=0) ar99 (by decide))<|RW.e 9 rfl (e_load a85) ?_
 refine RW.any (is:=[10]) rfl ⟨?_,trivial⟩
 refine RWat.h rfl rfl rfl ?_
 refine (h_call (FNew_spec i h) k101 ?_)
 intro sp E
 refine ⟨⟨⟨_,rfl,.inl ⟨rfl,e_move⟩⟩,trivial⟩,?_⟩
 refine RW.e 11 rfl e_move<|RW.e 12 rfl e_extract<|RW.e 13 rfl e_extract<|RW.e 14 rfl e_nil<|RW.e 15 rfl (e_fa f104_2) ?_
 refine RW.any (is:=[16]) rfl ⟨?_,trivial⟩
 refine RWat.h' rfl rfl rfl ?_
 refine (h_store s100 ?_)
 refine ⟨⟨⟨_,rfl,.inl ⟨rfl,e_extract⟩⟩,trivial⟩,?_⟩
 refine RW.done<|PO.next<|WP.seq<|WP.draws mixedOk 18<|RW.e 0 rfl e_move<|RW.e 1 rfl e_move<|RW.e 2 rfl e_move<|RW.e 3 rfl e_nil<|RW.e 4 rfl (e_fa f104_2)<|RW.e 5 rfl (e_load a100)<|RW.e 6 rfl e_move<|RW.e 7 rfl e_nil<|RW.e 8 rfl (e_fa f104_1)<|RW.e 9 rfl (e_iaA (j:=1) ar99 (by decide))<|RW.e 10 rfl (e_load a85) ?_
 refine RW.any (is:=[11]) rfl ⟨?_,trivial⟩
 refine RWat.h rfl rfl rfl ?_
 refine (h_call (AgNew_spec (E:=E) i (by omega) (by omega)) k102 ?_)
 intro a
 refine ⟨⟨⟨_,rfl,.inl ⟨rfl,e_move⟩⟩,trivial⟩,?_⟩
 refine RW.e 12 rfl e_move<|RW.e 13 rfl e_extract<|RW.e 14 rfl e_extract<|RW.e 15 rfl e_nil<|RW.e 16 rfl (e_fa f104_3) ?_
 refine RW.any (is:=[17]) rfl ⟨?_,trivial⟩
 refine RWat.h' rfl rfl rfl ?_
 refine (h_store s101 ?_)
 refine ⟨⟨⟨_,rfl,.inl ⟨rfl,e_extract⟩⟩,trivial⟩,?_⟩
 refine RW.done<|PO.next<|WP.reg<|WL.e e_move<|WL.e e_move ?_
 refine WL.h (h_makeMapB (ek:=eU32) fun lc=>?_)
 refine WL.e e_nil<|WL.e (e_fa f104_4) ?_
 refine WL.h' (h_store s3 ?_)
 refine WL.e e_nil<|WL.e (e_fa f104_5) ?_
 refine WL.h' (h_store s102 ?_)
 refine WL.nil<|PO.cls (A:=NdF g n) (B:=[cl n 104 [.int .u8 i,.pointer (some ⟨d0,0,none⟩),.pointer (some ⟨d1,0,none⟩),.pointer (some ⟨sp,0,none⟩),.pointer (some ⟨a,0,none⟩),.int .i64 0,.map (some lc)],SiF E sp d0]) (fun S h=>⟨E,i,d0,d1,sp,a,lc,h⟩) ?_
 exact PO.fin Tryz.results50 rv_nil hK
set_option maxHeartbeats 4000000 in
theorem WNew_spec {g:World}:Spec Tryz.prog g 17 [] [] fun K R=>∀ w d0 c0 n1 n2 n3 bg,K (.pointer (some ⟨w,0,none⟩)) (cl w 91 [.pointer (some ⟨d0,0,none⟩),.pointer (some ⟨c0,0,none⟩),.pointer none,.pointer (some ⟨n1,0,none⟩),.pointer (some ⟨n2,0,none⟩),.pointer (some ⟨n3,0,none⟩),.pointer (some ⟨bg,0,none⟩),.int .u32 0,.slice none 0 0]::NdF g n1::NdF g n2::NdF g n3::R):=by
 refine Spec.intro Tryz.func17 rfl Tryz.ntmps17 rfl fun R K hK=>?_
 refine WP.seq<|WP.reg<|WL.e e_assign<|WL.next<|WP.seq<|WP.reg<|WL.e (e_build z91 p91 (.z (.pointer none)<|.z (.pointer none)<|.z (.pointer none)<|.z (.pointer none)<|.z (.pointer none)<|.z (.pointer none)<|.z (.pointer none)<|.z (.int .u32 0)<|.z (.slice none 0 0)<|.n)) ?_
 refine WL.h (h_box fun b1=>?_)
 refine WL.e e_assign<|WL.next<|WP.seq<|WP.reg<|WL.e e_move ?_
 refine WL.h (h_call (New_spec 4096 (by decide)) k47 ?_)
 refine ⟨fun h=>absurd h (by omega),fun _ _ d0=>?_⟩
 refine WL.e e_move<|WL.e e_extract<|WL.e e_extract<|WL.e e_nil<|WL.e (e_fa f91_0) ?_
 refine WL.h' (h_store s85 ?_)
 refine WL.next<|WP.seq<|WP.reg<|WL.e e_move<|WL.e e_move<|WL.e e_nil<|WL.e (e_fa f91_0)<|WL.e (e_load a85) ?_
 refine WL.h (h_call (ChNew_spec) k48 ?_)
 intro c0
 refine WL.e e_move<|WL.e e_extract<|WL.e e_extract<|WL.e e_nil<|WL.e (e_fa f91_1) ?_
 refine WL.h' (h_store s86 ?_)
 refine WL.next<|WP.seq<|WP.reg<|WL.e e_move ?_
 refine WL.h (h_call (BgNew_spec) k49 ?_)
 intro bg
 refine WL.e e_move<|WL.e e_extract<|WL.e e_extract<|WL.e e_nil<|WL.e (e_fa f91_3) ?_
 refine WL.h' (h_store s89 ?_)
 refine WL.next<|WP.seq<|WP.seq<|WP.reg<|WL.e e_assign<|WL.next<|WP.block<|WP.conv (M:=bun (List.map (NdF g) [])::_) (fun S h=>bun_stars (L:=[]) h) ?_
 refine WP.loopK (fun (ps:List Nat)=>[(2,.int .i64 (ps.length+1:Nat))]) (fun (ps:List Nat)=>cl b1 91 ([.pointer (some ⟨d0,0,none⟩),.pointer (some ⟨c0,0,none⟩),.pointer none]++(pK 3 (ps)++[.pointer (some ⟨bg,0,none⟩),.int .u32 0,.slice none 0 0]))::bun (List.map (NdF g) (ps))::R) [(0,_),(1,_)] (fun (ps:List Nat)=>ps.length≤3) (fun (ps:List Nat)=>3 - ps.length) [] (Nat.zero_le _) ?_
 intro ps hps
 refine WP.seq<|WP.seq<|WP.reg<|WL.e e_move<|WL.e e_lss<|WL.next ?_
 refine WP.cond rfl (fun h1=>?_) (fun h1=>?_)
 ·replace h1:ps.length < 3:=by simp at h1;omega
  refine WP.skip<|PO.next<|WP.seq<|WP.block<|WP.seq<|WP.reg<|WL.e e_move<|WL.e (e_conv (c:=((ps.length+1:Nat):Int)) (by rw [Tryz.underlying3];rfl) Tryz.underlying98 rfl (by rw [wu8,UInt8.toNat_ofNat'];congr 1;omega))<|WL.e (e_build z104 p104 (.o (.tmp 37) rfl<|.z (.pointer none)<|.z (.pointer none)<|.z (.pointer none)<|.z (.pointer none)<|.z (.int .i64 0)<|.z (.map none)<|.n)) ?_
  refine WL.h (h_box fun b2=>?_)
  refine WL.e e_assign<|WL.next<|WP.seq<|WP.seq<|WP.reg<|WL.e e_move<|WL.next<|WP.block<|WP.conv (M:=bun (List.map (fun q=>Dk q (newDisk 4096)) [])::_) (fun S h=>bun_stars (L:=[]) h) ?_
  refine WP.loopK (fun (qs:List Nat)=>[(40,.int .i64 qs.length)]) (fun (qs:List Nat)=>cl b2 104 ([.int .u8 (ps.length+1:Nat)]++(pK 2 (qs)++[.pointer none,.pointer none,.int .i64 0,.map none]))::bun (List.map (fun q=>Dk q (newDisk 4096)) (qs))::cl b1 91 ([.pointer (some ⟨d0,0,none⟩),.pointer (some ⟨c0,0,none⟩),.pointer none]++(pK 3 (ps)++[.pointer (some ⟨bg,0,none⟩),.int .u32 0,.slice none 0 0]))::bun (List.map (NdF g) (ps))::R) [(0,_),(1,_),(2,_),(3,_),(32,_),(33,_),(36,_),(37,_),(38,_),(39,_)] (fun (qs:List Nat)=>qs.length≤2) (fun (qs:List Nat)=>2 - qs.length) [] (Nat.zero_le _) ?_
  intro qs hqs
  refine WP.seq<|WP.reg<|WL.e e_lss<|WL.next<|WP.seq ?_
  refine WP.cond rfl (fun h2=>?_) (fun h2=>?_)
  ·replace h2:qs.length < 2:=by simp at h2;omega
   refine WP.skip<|PO.next<|WP.seq<|WP.block<|WP.seq<|WP.reg<|WL.e e_move<|WL.e e_assign<|WL.next<|WP.draws mixedOk 10<|RW.e 0 rfl e_move<|RW.e 1 rfl e_move<|RW.e 6 rfl e_nil<|RW.e 7 rfl (e_fa f104_1) ?_
   refine RW.any (is:=[2]) rfl ⟨?_,trivial⟩
   refine RWat.h rfl rfl rfl ?_
   refine (h_call (New_spec 4096 (by decide)) k47 ?_)
   refine ⟨fun h=>absurd h (by omega),fun _ _ q=>?_⟩
   refine ⟨⟨⟨_,rfl,.inl ⟨rfl,(e_fa f104_1)⟩⟩,⟨_,rfl,.inl ⟨rfl,e_nil⟩⟩,⟨_,rfl,.inl ⟨rfl,e_move⟩⟩,⟨_,rfl,.inl ⟨rfl,e_move⟩⟩,trivial⟩,?_⟩
   refine RW.e 3 rfl e_move<|RW.e 4 rfl e_extract<|RW.e 5 rfl e_extract<|RW.e 8 rfl (e_iaA (j:=qs.length) ar99 h2) ?_
   refine RW.any (is:=[9]) rfl ⟨?_,trivial⟩
   refine RWat.h' rfl rfl rfl ?_
   refine (h_store1 (o:=1+qs.length * 1) (l:=([.int .u8 (ps.length+1:Nat)]++(pK 2 qs++[.pointer none,.pointer none,.int .i64 0,.map none]))) s85 (by simp [pK];omega) rfl ?_)
   refine ⟨⟨⟨_,rfl,.inl ⟨rfl,e_extract⟩⟩,trivial⟩,?_⟩
   refine RW.done<|PO.blockN<|PO.next<|WP.reg<|WL.e (e_add (c:=(((qs++[q]).length:Nat):Int)) rfl rfl (by rw [w_i64 (by omega) (by omega)];simp))<|WL.e e_move<|WL.nil ?_
   rw [show (([.int .u8 (ps.length+1:Nat)]:List Value)++(pK 2 qs++([.pointer none,.pointer none,.int .i64 0,.map none]:List Value))).set (1+qs.length * 1) (.pointer (some ⟨q,0,none⟩))=[.int .u8 (ps.length+1:Nat)]++(pK 2 (qs++[q])++[.pointer none,.pointer none,.int .i64 0,.map none]) from by rw [Nat.mul_one,show 1+qs.length=([.int .u8 (ps.length+1:Nat)]:List Value).length+qs.length from rfl];exact pK_set h2]
   refine PO.cls (A:=bun (List.map (fun q=>Dk q (newDisk 4096)) (qs++[q]))) (B:=[Dk q (newDisk 4096),bun (List.map (fun q=>Dk q (newDisk 4096)) qs)]) (fun S h=>bun_snoc S h) ?_
   exact PO.againK (qs++[q]) (by simp;omega) (by simp;omega)
  ·replace h2:qs.length=2:=by simp at h2;omega
   obtain ⟨d1,d2,rfl⟩:∃ a b,qs=[a,b]:=by match qs,h2 with | [a,b],_=>exact ⟨a,b,rfl⟩
   refine WP.exit<|PO.past nofun<|PO.round nofun<|PO.blockX<|PO.next<|WP.seq<|WP.reg<|WL.e e_move<|WL.e e_move<|WL.e e_move<|WL.e e_nil<|WL.e (e_fa f91_2)<|WL.e (e_iaA (j:=ps.length+1) ar88 (by omega)) ?_
   refine WL.h' (h_store1 (o:=2+(ps.length+1) * 1) (l:=([.pointer (some ⟨d0,0,none⟩),.pointer (some ⟨c0,0,none⟩),.pointer none]++(pK 3 (ps)++[.pointer (some ⟨bg,0,none⟩),.int .u32 0,.slice none 0 0]))) s87 (by simp [pK];omega) rfl ?_)
   refine WL.next<|WP.reg<|WL.e e_move<|WL.e e_move<|WL.e (e_conv (c:=((ps.length+1:Nat):Int)) (by rw [Tryz.underlying3];rfl) Tryz.underlying5 rfl (by rw [wu8,UInt8.toNat_ofNat'];congr 1;omega))<|WL.opn (A:=bun (List.map (fun q=>Dk q (newDisk 4096)) [d1,d2])) (B:=fun _:Unit=>[Dk d1 (newDisk 4096),Dk d2 (newDisk 4096)]) (fun S h=>⟨(),h⟩) fun _=>?_
   refine WL.h (h_call (NdBeg_spec (d0:=d1) (d1:=d2) (ps.length+1) (by omega)) k50 ?_)
   refine WL.nil<|PO.blockN<|PO.next<|WP.reg<|WL.e e_move<|WL.e (e_add (c:=(((ps++[b2]).length+1:Nat):Int)) rfl rfl (by rw [w_i64 (by omega) (by omega)];simp))<|WL.e e_assign<|WL.nil ?_
   rw [show (([.pointer (some ⟨d0,0,none⟩),.pointer (some ⟨c0,0,none⟩),.pointer none]:List Value)++(pK 3 ps++([.pointer (some ⟨bg,0,none⟩),.int .u32 0,.slice none 0 0]:List Value))).set (2+(ps.length+1) * 1) (.pointer (some ⟨b2,0,none⟩))=([.pointer (some ⟨d0,0,none⟩),.pointer (some ⟨c0,0,none⟩),.pointer none]++(pK 3 (ps++[b2])++[.pointer (some ⟨bg,0,none⟩),.int .u32 0,.slice none 0 0])) from by rw [Nat.mul_one,show 2+(ps.length+1)=([.pointer (some ⟨d0,0,none⟩),.pointer (some ⟨c0,0,none⟩),.pointer none]:List Value).length+ps.length by simp;omega];exact pK_set h1]
   refine PO.cls (A:=bun (List.map (NdF g) (ps++[b2]))) (B:=[NdF g b2,bun (List.map (NdF g) ps)]) (fun S h=>bun_snoc S h) ?_
   exact PO.againK (ps++[b2]) (by simp;omega) (by simp;omega)
 ·replace h1:ps.length=3:=by simp at h1;omega
  obtain ⟨n1,n2,n3,rfl⟩:∃ a b c,ps=[a,b,c]:=by match ps,h1 with | [a,b,c],_=>exact ⟨a,b,c,rfl⟩
  refine WP.exit<|PO.past nofun<|PO.round nofun<|PO.blockX<|PO.next<|WP.seq<|WP.reg<|WL.e e_move<|WL.e e_assign<|WL.next<|WP.ret<|PO.opn (A:=bun (List.map (NdF g) [n1,n2,n3])) (B:=fun _:Unit=>[NdF g n1,NdF g n2,NdF g n3]) (fun S h=>⟨(),h⟩) fun _=>?_
  exact PO.fin Tryz.results17 (rv_tmp rv_nil) (hK b1 d0 c0 n1 n2 n3 bg)
theorem Wthere_spec {g:World} {w d0 c0 n1 n2 n3 bg:Nat}:Spec Tryz.prog g 85 [.pointer (some ⟨w,0,none⟩)] [cl w 91 [.pointer (some ⟨d0,0,none⟩),.pointer (some ⟨c0,0,none⟩),.pointer none,.pointer (some ⟨n1,0,none⟩),.pointer (some ⟨n2,0,none⟩),.pointer (some ⟨n3,0,none⟩),.pointer (some ⟨bg,0,none⟩),.int .u32 0,.slice none 0 0]] fun K R=>K (.bool true) (cl w 91 [.pointer (some ⟨d0,0,none⟩),.pointer (some ⟨c0,0,none⟩),.pointer none,.pointer (some ⟨n1,0,none⟩),.pointer (some ⟨n2,0,none⟩),.pointer (some ⟨n3,0,none⟩),.pointer (some ⟨bg,0,none⟩),.int .u32 0,.slice none 0 0]::R):=by
 refine Spec.intro Tryz.func85 rfl Tryz.ntmps85 rfl fun R K hK=>?_
 refine WP.seq<|WP.reg<|WL.e e_assign<|WL.next<|WP.seq<|WP.reg<|WL.e e_move<|WL.e (e_pne pt48)<|WL.e e_move ?_
 refine WL.bool 5 rfl (fun h=>?_) (fun h=>?_)
 ·skip
  refine WL.e e_move<|WL.e e_nil<|WL.e (e_fa f91_1)<|WL.e (e_load a86)<|WL.e (e_pne pt86)<|WL.e e_pick_t<|WL.e e_assign<|WL.next<|WP.ret ?_
  exact PO.fin Tryz.results85 (rv_tmp rv_nil) hK
 ·cases h 
theorem Wat1_spec {g:World} {w d0 c0 n1 n2 n3 bg:Nat}:Spec Tryz.prog g 94 [.pointer (some ⟨w,0,none⟩),.int .u8 1] [cl w 91 [.pointer (some ⟨d0,0,none⟩),.pointer (some ⟨c0,0,none⟩),.pointer none,.pointer (some ⟨n1,0,none⟩),.pointer (some ⟨n2,0,none⟩),.pointer (some ⟨n3,0,none⟩),.pointer (some ⟨bg,0,none⟩),.int .u32 0,.slice none 0 0]] fun K R=>K (.tuple #[.pointer (some ⟨n1,0,none⟩),.int .i64 0]) (cl w 91 [.pointer (some ⟨d0,0,none⟩),.pointer (some ⟨c0,0,none⟩),.pointer none,.pointer (some ⟨n1,0,none⟩),.pointer (some ⟨n2,0,none⟩),.pointer (some ⟨n3,0,none⟩),.pointer (some ⟨bg,0,none⟩),.int .u32 0,.slice none 0 0]::R):=by
 refine Spec.intro Tryz.func94 rfl Tryz.ntmps94 rfl fun R K hK=>?_
 refine WP.seq<|WP.reg<|WL.e e_assign<|WL.e e_assign<|WL.next<|WP.seq<|WP.block<|WP.seq<|WP.reg<|WL.e e_move ?_
 refine WL.h (h_call (Wthere_spec) k85 ?_)
 refine WL.e e_not<|WL.e e_assign<|WL.next<|WP.cond_f rfl<|WP.seq<|WP.reg<|WL.e e_move<|WL.e e_lss<|WL.e e_move ?_
 refine WL.bool 13 rfl (fun g1=>?_) (fun g1=>?_)
 ·exact absurd g1 (by decide) 
 ·skip
  refine WL.e e_move<|WL.e e_gtr<|WL.e e_pick_f<|WL.e e_assign<|WL.next<|WP.cond_f rfl<|WP.skip<|PO.blockN<|PO.next<|WP.seq<|WP.reg<|WL.e e_move<|WL.e e_move<|WL.e e_nil<|WL.e (e_fa f91_2)<|WL.e (e_iaA (j:=1) ar88 (by decide))<|WL.e (e_load a87)<|WL.e e_assign<|WL.e e_assign<|WL.next<|WP.ret ?_
  exact PO.fin Tryz.results94 (rv_tmp (rv_tmp rv_nil)) hK
theorem WRows1_spec {g:World} {w d0 c0 n1 n2 n3 bg:Nat}:Spec Tryz.prog g 45 [.pointer (some ⟨w,0,none⟩),.int .u8 1] [cl w 91 [.pointer (some ⟨d0,0,none⟩),.pointer (some ⟨c0,0,none⟩),.pointer none,.pointer (some ⟨n1,0,none⟩),.pointer (some ⟨n2,0,none⟩),.pointer (some ⟨n3,0,none⟩),.pointer (some ⟨bg,0,none⟩),.int .u32 0,.slice none 0 0],NdF g n1] fun K R=>∀ a c,K (.slice a 0 c) (cl w 91 [.pointer (some ⟨d0,0,none⟩),.pointer (some ⟨c0,0,none⟩),.pointer none,.pointer (some ⟨n1,0,none⟩),.pointer (some ⟨n2,0,none⟩),.pointer (some ⟨n3,0,none⟩),.pointer (some ⟨bg,0,none⟩),.int .u32 0,.slice none 0 0]::NdF g n1::R):=by
 refine Spec.intro Tryz.func45 rfl Tryz.ntmps45 rfl fun R K hK=>?_
 refine WP.seq<|WP.reg<|WL.e e_assign<|WL.next<|WP.seq<|WP.seq<|WP.reg<|WL.e e_move<|WL.e e_move ?_
 refine WL.h (h_call (Wat1_spec) k94 ?_)
 refine WL.e e_move<|WL.e e_extract<|WL.e e_extract<|WL.e e_assign<|WL.e e_assign<|WL.next<|WP.seq<|WP.reg<|WL.e e_move<|WL.e e_eql<|WL.next<|WP.cond_t rfl<|WP.opn (NdF_op (n:=n1)) fun x=>?_
 obtain ⟨E,i,d1,d2,sp,a,lc⟩:=x
 dsimp only
 refine WP.seq<|WP.reg<|WL.e e_move<|WL.e e_nil<|WL.e (e_fa f104_2)<|WL.e (e_load a100) ?_
 refine WL.h (h_call (FRows_spec (E:=E)) k95 ?_)
 intro a9 m9 c9
 refine WL.e e_assign<|WL.next<|WP.ret<|PO.past nofun ?_
 refine PO.len (fun hm=>?_)
 subst hm
 refine PO.cls (A:=NdF g n1) (B:=[cl n1 104 [.int .u8 i,.pointer (some ⟨d1,0,none⟩),.pointer (some ⟨d2,0,none⟩),.pointer (some ⟨sp,0,none⟩),.pointer (some ⟨a,0,none⟩),.int .i64 0,.map (some lc)],SiF E sp d1]) (fun S h=>⟨E,i,d1,d2,sp,a,lc,h⟩) ?_
 exact PO.fin Tryz.results45 (rv_tmp rv_nil) (hK a9 c9)
theorem Wat2_spec {g:World} {w d0 c0 n1 n2 n3 bg:Nat}:Spec Tryz.prog g 94 [.pointer (some ⟨w,0,none⟩),.int .u8 2] [cl w 91 [.pointer (some ⟨d0,0,none⟩),.pointer (some ⟨c0,0,none⟩),.pointer none,.pointer (some ⟨n1,0,none⟩),.pointer (some ⟨n2,0,none⟩),.pointer (some ⟨n3,0,none⟩),.pointer (some ⟨bg,0,none⟩),.int .u32 0,.slice none 0 0]] fun K R=>K (.tuple #[.pointer (some ⟨n2,0,none⟩),.int .i64 0]) (cl w 91 [.pointer (some ⟨d0,0,none⟩),.pointer (some ⟨c0,0,none⟩),.pointer none,.pointer (some ⟨n1,0,none⟩),.pointer (some ⟨n2,0,none⟩),.pointer (some ⟨n3,0,none⟩),.pointer (some ⟨bg,0,none⟩),.int .u32 0,.slice none 0 0]::R):=by
 refine Spec.intro Tryz.func94 rfl Tryz.ntmps94 rfl fun R K hK=>?_
 refine WP.seq<|WP.reg<|WL.e e_assign<|WL.e e_assign<|WL.next<|WP.seq<|WP.block<|WP.seq<|WP.reg<|WL.e e_move ?_
 refine WL.h (h_call (Wthere_spec) k85 ?_)
 refine WL.e e_not<|WL.e e_assign<|WL.next<|WP.cond_f rfl<|WP.seq<|WP.reg<|WL.e e_move<|WL.e e_lss<|WL.e e_move ?_
 refine WL.bool 13 rfl (fun g1=>?_) (fun g1=>?_)
 ·exact absurd g1 (by decide) 
 ·skip
  refine WL.e e_move<|WL.e e_gtr<|WL.e e_pick_f<|WL.e e_assign<|WL.next<|WP.cond_f rfl<|WP.skip<|PO.blockN<|PO.next<|WP.seq<|WP.reg<|WL.e e_move<|WL.e e_move<|WL.e e_nil<|WL.e (e_fa f91_2)<|WL.e (e_iaA (j:=2) ar88 (by decide))<|WL.e (e_load a87)<|WL.e e_assign<|WL.e e_assign<|WL.next<|WP.ret ?_
  exact PO.fin Tryz.results94 (rv_tmp (rv_tmp rv_nil)) hK
theorem WRows2_spec {g:World} {w d0 c0 n1 n2 n3 bg:Nat}:Spec Tryz.prog g 45 [.pointer (some ⟨w,0,none⟩),.int .u8 2] [cl w 91 [.pointer (some ⟨d0,0,none⟩),.pointer (some ⟨c0,0,none⟩),.pointer none,.pointer (some ⟨n1,0,none⟩),.pointer (some ⟨n2,0,none⟩),.pointer (some ⟨n3,0,none⟩),.pointer (some ⟨bg,0,none⟩),.int .u32 0,.slice none 0 0],NdF g n2] fun K R=>∀ a c,K (.slice a 0 c) (cl w 91 [.pointer (some ⟨d0,0,none⟩),.pointer (some ⟨c0,0,none⟩),.pointer none,.pointer (some ⟨n1,0,none⟩),.pointer (some ⟨n2,0,none⟩),.pointer (some ⟨n3,0,none⟩),.pointer (some ⟨bg,0,none⟩),.int .u32 0,.slice none 0 0]::NdF g n2::R):=by
 refine Spec.intro Tryz.func45 rfl Tryz.ntmps45 rfl fun R K hK=>?_
 refine WP.seq<|WP.reg<|WL.e e_assign<|WL.next<|WP.seq<|WP.seq<|WP.reg<|WL.e e_move<|WL.e e_move ?_
 refine WL.h (h_call (Wat2_spec) k94 ?_)
 refine WL.e e_move<|WL.e e_extract<|WL.e e_extract<|WL.e e_assign<|WL.e e_assign<|WL.next<|WP.seq<|WP.reg<|WL.e e_move<|WL.e e_eql<|WL.next<|WP.cond_t rfl<|WP.opn (NdF_op (n:=n2)) fun x=>?_
 obtain ⟨E,i,d1,d2,sp,a,lc⟩:=x
 dsimp only
 refine WP.seq<|WP.reg<|WL.e e_move<|WL.e e_nil<|WL.e (e_fa f104_2)<|WL.e (e_load a100) ?_
 refine WL.h (h_call (FRows_spec (E:=E)) k95 ?_)
 intro a9 m9 c9
 refine WL.e e_assign<|WL.next<|WP.ret<|PO.past nofun ?_
 refine PO.len (fun hm=>?_)
 subst hm
 refine PO.cls (A:=NdF g n2) (B:=[cl n2 104 [.int .u8 i,.pointer (some ⟨d1,0,none⟩),.pointer (some ⟨d2,0,none⟩),.pointer (some ⟨sp,0,none⟩),.pointer (some ⟨a,0,none⟩),.int .i64 0,.map (some lc)],SiF E sp d1]) (fun S h=>⟨E,i,d1,d2,sp,a,lc,h⟩) ?_
 exact PO.fin Tryz.results45 (rv_tmp rv_nil) (hK a9 c9)
theorem Wat3_spec {g:World} {w d0 c0 n1 n2 n3 bg:Nat}:Spec Tryz.prog g 94 [.pointer (some ⟨w,0,none⟩),.int .u8 3] [cl w 91 [.pointer (some ⟨d0,0,none⟩),.pointer (some ⟨c0,0,none⟩),.pointer none,.pointer (some ⟨n1,0,none⟩),.pointer (some ⟨n2,0,none⟩),.pointer (some ⟨n3,0,none⟩),.pointer (some ⟨bg,0,none⟩),.int .u32 0,.slice none 0 0]] fun K R=>K (.tuple #[.pointer (some ⟨n3,0,none⟩),.int .i64 0]) (cl w 91 [.pointer (some ⟨d0,0,none⟩),.pointer (some ⟨c0,0,none⟩),.pointer none,.pointer (some ⟨n1,0,none⟩),.pointer (some ⟨n2,0,none⟩),.pointer (some ⟨n3,0,none⟩),.pointer (some ⟨bg,0,none⟩),.int .u32 0,.slice none 0 0]::R):=by
 refine Spec.intro Tryz.func94 rfl Tryz.ntmps94 rfl fun R K hK=>?_
 refine WP.seq<|WP.reg<|WL.e e_assign<|WL.e e_assign<|WL.next<|WP.seq<|WP.block<|WP.seq<|WP.reg<|WL.e e_move ?_
 refine WL.h (h_call (Wthere_spec) k85 ?_)
 refine WL.e e_not<|WL.e e_assign<|WL.next<|WP.cond_f rfl<|WP.seq<|WP.reg<|WL.e e_move<|WL.e e_lss<|WL.e e_move ?_
 refine WL.bool 13 rfl (fun g1=>?_) (fun g1=>?_)
 ·exact absurd g1 (by decide) 
 ·skip
  refine WL.e e_move<|WL.e e_gtr<|WL.e e_pick_f<|WL.e e_assign<|WL.next<|WP.cond_f rfl<|WP.skip<|PO.blockN<|PO.next<|WP.seq<|WP.reg<|WL.e e_move<|WL.e e_move<|WL.e e_nil<|WL.e (e_fa f91_2)<|WL.e (e_iaA (j:=3) ar88 (by decide))<|WL.e (e_load a87)<|WL.e e_assign<|WL.e e_assign<|WL.next<|WP.ret ?_
  exact PO.fin Tryz.results94 (rv_tmp (rv_tmp rv_nil)) hK
theorem WRows3_spec {g:World} {w d0 c0 n1 n2 n3 bg:Nat}:Spec Tryz.prog g 45 [.pointer (some ⟨w,0,none⟩),.int .u8 3] [cl w 91 [.pointer (some ⟨d0,0,none⟩),.pointer (some ⟨c0,0,none⟩),.pointer none,.pointer (some ⟨n1,0,none⟩),.pointer (some ⟨n2,0,none⟩),.pointer (some ⟨n3,0,none⟩),.pointer (some ⟨bg,0,none⟩),.int .u32 0,.slice none 0 0],NdF g n3] fun K R=>∀ a c,K (.slice a 0 c) (cl w 91 [.pointer (some ⟨d0,0,none⟩),.pointer (some ⟨c0,0,none⟩),.pointer none,.pointer (some ⟨n1,0,none⟩),.pointer (some ⟨n2,0,none⟩),.pointer (some ⟨n3,0,none⟩),.pointer (some ⟨bg,0,none⟩),.int .u32 0,.slice none 0 0]::NdF g n3::R):=by
 refine Spec.intro Tryz.func45 rfl Tryz.ntmps45 rfl fun R K hK=>?_
 refine WP.seq<|WP.reg<|WL.e e_assign<|WL.next<|WP.seq<|WP.seq<|WP.reg<|WL.e e_move<|WL.e e_move ?_
 refine WL.h (h_call (Wat3_spec) k94 ?_)
 refine WL.e e_move<|WL.e e_extract<|WL.e e_extract<|WL.e e_assign<|WL.e e_assign<|WL.next<|WP.seq<|WP.reg<|WL.e e_move<|WL.e e_eql<|WL.next<|WP.cond_t rfl<|WP.opn (NdF_op (n:=n3)) fun x=>?_
 obtain ⟨E,i,d1,d2,sp,a,lc⟩:=x
 dsimp only
 refine WP.seq<|WP.reg<|WL.e e_move<|WL.e e_nil<|WL.e (e_fa f104_2)<|WL.e (e_load a100) ?_
 refine WL.h (h_call (FRows_spec (E:=E)) k95 ?_)
 intro a9 m9 c9
 refine WL.e e_assign<|WL.next<|WP.ret<|PO.past nofun ?_
 refine PO.len (fun hm=>?_)
 subst hm
 refine PO.cls (A:=NdF g n3) (B:=[cl n3 104 [.int .u8 i,.pointer (some ⟨d1,0,none⟩),.pointer (some ⟨d2,0,none⟩),.pointer (some ⟨sp,0,none⟩),.pointer (some ⟨a,0,none⟩),.int .i64 0,.map (some lc)],SiF E sp d1]) (fun S h=>⟨E,i,d1,d2,sp,a,lc,h⟩) ?_
 exact PO.fin Tryz.results45 (rv_tmp rv_nil) (hK a9 c9)
theorem Wtick_spec {g:World} {w d0 c0 n1 n2 n3 bg:Nat}:Spec Tryz.prog g 43 [.pointer (some ⟨w,0,none⟩),.int .u8 9] [cl w 91 [.pointer (some ⟨d0,0,none⟩),.pointer (some ⟨c0,0,none⟩),.pointer none,.pointer (some ⟨n1,0,none⟩),.pointer (some ⟨n2,0,none⟩),.pointer (some ⟨n3,0,none⟩),.pointer (some ⟨bg,0,none⟩),.int .u32 0,.slice none 0 0]] fun K R=>K (.int .i64 1) (cl w 91 [.pointer (some ⟨d0,0,none⟩),.pointer (some ⟨c0,0,none⟩),.pointer none,.pointer (some ⟨n1,0,none⟩),.pointer (some ⟨n2,0,none⟩),.pointer (some ⟨n3,0,none⟩),.pointer (some ⟨bg,0,none⟩),.int .u32 0,.slice none 0 0]::R):=by
 refine Spec.intro Tryz.func43 rfl Tryz.ntmps43 rfl fun R K hK=>?_
 refine WP.seq<|WP.reg<|WL.e e_assign<|WL.next<|WP.seq<|WP.block<|WP.seq<|WP.reg<|WL.e e_move ?_
 refine WL.h (h_call (Wthere_spec) k85 ?_)
 refine WL.e e_not<|WL.e e_assign<|WL.next<|WP.cond_f rfl<|WP.seq<|WP.reg<|WL.e e_move<|WL.e e_gtr<|WL.e e_assign<|WL.next<|WP.cond_t rfl<|WP.seq<|WP.reg<|WL.e e_assign<|WL.next<|WP.ret<|PO.blockR<|PO.past nofun ?_
 exact PO.fin Tryz.results43 (rv_tmp rv_nil) hK
theorem ClipD0_spec {g:World}:Spec Tryz.prog g 93 [.slice none 0 0] [] fun K R=>K (.slice none 0 0) R:=by
 refine Spec.intro Tryz.func93 rfl Tryz.ntmps93 rfl fun R K hK=>?_
 refine WP.conv (M:=pu True::_) (fun S h=>pu_stars trivial h) ?_
 refine WP.seq<|WP.reg<|WL.e e_assign<|WL.next<|WP.seq<|WP.reg<|WL.e e_move<|WL.e e_move<|WL.e (e_len_sl sl22)<|WL.e e_move<|WL.e (e_len_sl sl22)<|WL.e (el_to3 (hi:=0) (xs:=([]:List DeedM)) (enc:=DeedM.c) sl22 (A:=pu True) (nil_rl (z:=5)) (Nat.le_refl _))<|WL.e e_assign<|WL.next<|WP.ret ?_
 exact PO.fin Tryz.results93 (rv_tmp rv_nil) hK
theorem WDeeds_spec {g:World} {w d0 c0 n1 n2 n3 bg:Nat}:Spec Tryz.prog g 44 [.pointer (some ⟨w,0,none⟩)] [cl w 91 [.pointer (some ⟨d0,0,none⟩),.pointer (some ⟨c0,0,none⟩),.pointer none,.pointer (some ⟨n1,0,none⟩),.pointer (some ⟨n2,0,none⟩),.pointer (some ⟨n3,0,none⟩),.pointer (some ⟨bg,0,none⟩),.int .u32 0,.slice none 0 0]] fun K R=>K (.slice none 0 0) (cl w 91 [.pointer (some ⟨d0,0,none⟩),.pointer (some ⟨c0,0,none⟩),.pointer none,.pointer (some ⟨n1,0,none⟩),.pointer (some ⟨n2,0,none⟩),.pointer (some ⟨n3,0,none⟩),.pointer (some ⟨bg,0,none⟩),.int .u32 0,.slice none 0 0]::R):=by
 refine Spec.intro Tryz.func44 rfl Tryz.ntmps44 rfl fun R K hK=>?_
 refine WP.seq<|WP.reg<|WL.e e_assign<|WL.next<|WP.seq<|WP.seq<|WP.reg<|WL.e e_move ?_
 refine WL.h (h_call (Wthere_spec) k85 ?_)
 refine WL.e e_not<|WL.next<|WP.cond_f rfl<|WP.skip<|PO.next<|WP.seq<|WP.seq<|WP.reg<|WL.e e_move<|WL.e e_nil<|WL.e (e_fa f91_5)<|WL.e (e_load a22)<|WL.e (e_len_sl sl22)<|WL.e e_move<|WL.next<|WP.block<|WP.loopK (fun (_:Unit)=>[(16,.int .i64 0),(2,.slice none 0 0)]) (fun (_:Unit)=>cl w 91 [.pointer (some ⟨d0,0,none⟩),.pointer (some ⟨c0,0,none⟩),.pointer none,.pointer (some ⟨n1,0,none⟩),.pointer (some ⟨n2,0,none⟩),.pointer (some ⟨n3,0,none⟩),.pointer (some ⟨bg,0,none⟩),.int .u32 0,.slice none 0 0]::R) [(14,_),(15,_)] (fun (_:Unit)=>True) (fun (_:Unit)=>0) () (trivial) ?_
 intro _ _
 refine WP.seq<|WP.reg<|WL.e e_lss<|WL.next<|WP.seq ?_
 refine WP.cond rfl (fun h1=>?_) (fun h1=>?_)
 ·simp at h1
 ·skip
  refine WP.exit<|PO.past nofun<|PO.round nofun<|PO.blockX<|PO.next<|WP.seq<|WP.reg<|WL.e e_move ?_
  refine WL.h (h_call (ClipD0_spec) k93 ?_)
  refine WL.e e_assign<|WL.next<|WP.ret ?_
  exact PO.fin Tryz.results44 (rv_tmp rv_nil) hK
theorem WthereN_spec {g:World}:Spec Tryz.prog g 85 [.pointer none] [] fun K R=>K (.bool false) R:=by
 refine Spec.intro Tryz.func85 rfl Tryz.ntmps85 rfl fun R K hK=>?_
 refine WP.seq<|WP.reg<|WL.e e_assign<|WL.next<|WP.seq<|WP.reg<|WL.e e_move<|WL.e (e_pne pt48)<|WL.e e_move ?_
 refine WL.bool 5 rfl (fun h=>?_) (fun h=>?_)
 ·cases h 
 ·skip
  refine WL.skip<|WL.skip<|WL.skip<|WL.skip<|WL.skip<|WL.e e_pick_f<|WL.e e_assign<|WL.next<|WP.ret ?_
  exact PO.fin Tryz.results85 (rv_tmp rv_nil) hK
theorem WtickN_spec {g:World} (n:UInt8):Spec Tryz.prog g 43 [.pointer none,.int .u8 n.toNat] [] fun K R=>K (.int .i64 2) R:=by
 refine Spec.intro Tryz.func43 rfl Tryz.ntmps43 rfl fun R K hK=>?_
 refine WP.seq<|WP.reg<|WL.e e_assign<|WL.next<|WP.seq<|WP.block<|WP.seq<|WP.reg<|WL.e e_move ?_
 refine WL.h (h_call (WthereN_spec) k85 ?_)
 refine WL.e e_not<|WL.e e_assign<|WL.next<|WP.cond_t rfl<|WP.seq<|WP.reg<|WL.e e_assign<|WL.next<|WP.ret<|PO.blockR<|PO.past nofun ?_
 exact PO.fin Tryz.results43 (rv_tmp rv_nil) hK
end Go.SL
